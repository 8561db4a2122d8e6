/-
  DERIVED. GIVEN WITH THE SEED: THE CARDS: each row of YtgclfmdpapadnaaDoorRows.lean that lists a variable, with what it lists TIED to the program's text (the seventh form; the later family's looks); each row that meets fmt, with fmt's text TOLD by the authors' own Lean function (tested against real Go, not proved from fmt's source: count such statements apart). THE CARD IS WHAT COUNTS. Prove the row's statement (the work); the ties are given (YtgclfmdpapadnaaDoorTie.lean); close each card by the builder's one call (the guide's Derived/Test/ToyasCard.lean, 'card_holds'). Laid BY PROGRAM, IN A SANDBOX (cutbox-door.mjs). By AI agents, Wed Nov 11 2026. No macro, syntax, notation, axiom, sorry.
-/
import Derived.Test.YtgclfmdpapadnaaDoorRows
import GoSem.ClaimSeven
namespace Go.Proofs.YtgclfmdpapadnaaDoor
namespace Rows

/-- THE TIED CARD OF 'foremanlaw20.CheckCosts'. -/
def checkCostsCard : Claim7 := { stood := { row := checkCostsRow, standIns := [], harness := (true, "326a6743707ffc6b1a21a61529e6efde4dcfb376e1460b989dea1d1b44843328"), looks := false }, kinds := [], alts := [], laidByText := true, laidKinds := [.data, .pinned], laidTests := true, laidLooks := .later }
def CheckCostsCardSaid : Prop := Claim7.holds Tryd.pinned (.plain (OpenSpec.ofChange checkCostsSpec)) checkCostsCard

/-- THE TIED CARD OF 'foremanlaw20.CheckTells'. -/
def checkTellsCard : Claim7 := { stood := { row := checkTellsRow, standIns := [], harness := (true, "326a6743707ffc6b1a21a61529e6efde4dcfb376e1460b989dea1d1b44843328"), looks := false }, kinds := [], alts := [], laidByText := true, laidKinds := [.data, .pinned], laidTests := true, laidLooks := .later }
def CheckTellsCardSaid : Prop := Claim7.holds Tryd.pinned (.plain (OpenSpec.ofChange checkTellsSpec)) checkTellsCard

/-- THE TIED CARD OF 'foremanlaw20.CheckFits'. -/
def checkFitsCard : Claim7 := { stood := { row := checkFitsRow, standIns := [], harness := (true, "326a6743707ffc6b1a21a61529e6efde4dcfb376e1460b989dea1d1b44843328"), looks := false }, kinds := [], alts := [], laidByText := true, laidKinds := [.data, .pinned], laidTests := true, laidLooks := .later }
def CheckFitsCardSaid : Prop := Claim7.holds Tryd.pinned (.plain (OpenSpec.ofChange checkFitsSpec)) checkFitsCard

/-- THE TIED CARD OF 'foremanlaw20.CheckStands'. -/
def checkStandsCard : Claim7 := { stood := { row := checkStandsRow, standIns := [], harness := (true, "326a6743707ffc6b1a21a61529e6efde4dcfb376e1460b989dea1d1b44843328"), looks := false }, kinds := [], alts := [], laidByText := true, laidKinds := [.data, .pinned], laidTests := true, laidLooks := .later }
def CheckStandsCardSaid : Prop := Claim7.holds Tryd.pinned (.plain (OpenSpec.ofChange checkStandsSpec)) checkStandsCard

/-- THE TIED CARD OF 'foremanlaw20.CheckAnew'. -/
def checkAnewCard : Claim7 := { stood := { row := checkAnewRow, standIns := [], harness := (true, "326a6743707ffc6b1a21a61529e6efde4dcfb376e1460b989dea1d1b44843328"), looks := false }, kinds := [], alts := [], laidByText := true, laidKinds := [.data, .pinned], laidTests := true, laidLooks := .later }
def CheckAnewCardSaid : Prop := Claim7.holds Tryd.pinned (.plain (OpenSpec.ofChange checkAnewSpec)) checkAnewCard

/-- THE SECOND FORM's CARD OF 'foremanlaw20.CheckCosts'. -/
def checkCostsUptoCard : Claim7 := { stood := { row := checkCostsUptoRow, standIns := [], harness := (true, "326a6743707ffc6b1a21a61529e6efde4dcfb376e1460b989dea1d1b44843328"), looks := false }, kinds := [], alts := [], laidByText := true, laidKinds := [.data, .pinned], laidTests := true, laidLooks := .later }
def CheckCostsUptoCardSaid : Prop := Claim7.holds Tryd.pinned (.plain (OpenSpec.upto checkCostsSpec)) checkCostsUptoCard

/-- THE SECOND FORM's CARD OF 'foremanlaw20.CheckTells'. -/
def checkTellsUptoCard : Claim7 := { stood := { row := checkTellsUptoRow, standIns := [], harness := (true, "326a6743707ffc6b1a21a61529e6efde4dcfb376e1460b989dea1d1b44843328"), looks := false }, kinds := [], alts := [], laidByText := true, laidKinds := [.data, .pinned], laidTests := true, laidLooks := .later }
def CheckTellsUptoCardSaid : Prop := Claim7.holds Tryd.pinned (.plain (OpenSpec.upto checkTellsSpec)) checkTellsUptoCard

/-- THE SECOND FORM's CARD OF 'foremanlaw20.CheckFits'. -/
def checkFitsUptoCard : Claim7 := { stood := { row := checkFitsUptoRow, standIns := [], harness := (true, "326a6743707ffc6b1a21a61529e6efde4dcfb376e1460b989dea1d1b44843328"), looks := false }, kinds := [], alts := [], laidByText := true, laidKinds := [.data, .pinned], laidTests := true, laidLooks := .later }
def CheckFitsUptoCardSaid : Prop := Claim7.holds Tryd.pinned (.plain (OpenSpec.upto checkFitsSpec)) checkFitsUptoCard

/-- THE SECOND FORM's CARD OF 'foremanlaw20.CheckStands'. -/
def checkStandsUptoCard : Claim7 := { stood := { row := checkStandsUptoRow, standIns := [], harness := (true, "326a6743707ffc6b1a21a61529e6efde4dcfb376e1460b989dea1d1b44843328"), looks := false }, kinds := [], alts := [], laidByText := true, laidKinds := [.data, .pinned], laidTests := true, laidLooks := .later }
def CheckStandsUptoCardSaid : Prop := Claim7.holds Tryd.pinned (.plain (OpenSpec.upto checkStandsSpec)) checkStandsUptoCard

/-- THE SECOND FORM's CARD OF 'foremanlaw20.CheckAnew'. -/
def checkAnewUptoCard : Claim7 := { stood := { row := checkAnewUptoRow, standIns := [], harness := (true, "326a6743707ffc6b1a21a61529e6efde4dcfb376e1460b989dea1d1b44843328"), looks := false }, kinds := [], alts := [], laidByText := true, laidKinds := [.data, .pinned], laidTests := true, laidLooks := .later }
def CheckAnewUptoCardSaid : Prop := Claim7.holds Tryd.pinned (.plain (OpenSpec.upto checkAnewSpec)) checkAnewUptoCard
end Rows
end Go.Proofs.YtgclfmdpapadnaaDoor
