/-
  DERIVED. GIVEN WITH THE SEED: THE CARDS: each row of YtnbalamacpcanaaDoorRows.lean that lists a variable, with what it lists TIED to the program's text (the seventh form; the later family's looks); each row that meets fmt, with fmt's text TOLD by the authors' own Lean function (tested against real Go, not proved from fmt's source: count such statements apart). THE CARD IS WHAT COUNTS. Prove the row's statement (the work); the ties are given (YtnbalamacpcanaaDoorTie.lean); close each card by the builder's one call (the guide's Derived/Test/ToyasCard.lean, 'card_holds'). Laid BY PROGRAM, IN A SANDBOX (cutbox-door.mjs). By AI agents, Wed Nov 11 2026. No macro, syntax, notation, axiom, sorry.
-/
import Derived.Test.YtnbalamacpcanaaDoorRows
import GoSem.ClaimSeven
namespace Go.Proofs.YtnbalamacpcanaaDoor
namespace Rows

/-- THE TIED CARD OF 'foremanlaw08.ValueTells'. -/
def valueTellsCard : Claim7 := { stood := { row := valueTellsRow, standIns := [], harness := (true, "263b031aa28e0779accd62927ed77ea2c58c762e6912d0d62d9945b419a175fd"), looks := true }, kinds := [], alts := [], laidByText := true, laidKinds := [.data, .data, .data], laidTests := true, laidLooks := .later }
def ValueTellsCardSaid : Prop := Claim7.holds Tryd.pinned (.plain (OpenSpec.ofChange valueTellsSpec)) valueTellsCard

/-- THE TIED CARD OF 'foremanlaw20.CheckCosts'. -/
def checkCostsCard : Claim7 := { stood := { row := checkCostsRow, standIns := [], harness := (true, "263b031aa28e0779accd62927ed77ea2c58c762e6912d0d62d9945b419a175fd"), looks := true }, kinds := [], alts := [], laidByText := true, laidKinds := [.data, .pinned], laidTests := true, laidLooks := .later }
def CheckCostsCardSaid : Prop := Claim7.holds Tryd.pinned (.plain (OpenSpec.ofChange checkCostsSpec)) checkCostsCard

/-- THE TIED CARD OF 'foremanlaw20.CheckTells'. -/
def checkTellsCard : Claim7 := { stood := { row := checkTellsRow, standIns := [], harness := (true, "263b031aa28e0779accd62927ed77ea2c58c762e6912d0d62d9945b419a175fd"), looks := true }, kinds := [], alts := [], laidByText := true, laidKinds := [.data, .pinned], laidTests := true, laidLooks := .later }
def CheckTellsCardSaid : Prop := Claim7.holds Tryd.pinned (.plain (OpenSpec.ofChange checkTellsSpec)) checkTellsCard

/-- THE TIED CARD OF 'foremanlaw20.CheckFits'. -/
def checkFitsCard : Claim7 := { stood := { row := checkFitsRow, standIns := [], harness := (true, "263b031aa28e0779accd62927ed77ea2c58c762e6912d0d62d9945b419a175fd"), looks := true }, kinds := [], alts := [], laidByText := true, laidKinds := [.data, .pinned], laidTests := true, laidLooks := .later }
def CheckFitsCardSaid : Prop := Claim7.holds Tryd.pinned (.plain (OpenSpec.ofChange checkFitsSpec)) checkFitsCard

/-- THE TIED CARD OF 'foremanlaw20.CheckStands'. -/
def checkStandsCard : Claim7 := { stood := { row := checkStandsRow, standIns := [], harness := (true, "263b031aa28e0779accd62927ed77ea2c58c762e6912d0d62d9945b419a175fd"), looks := true }, kinds := [], alts := [], laidByText := true, laidKinds := [.data, .pinned], laidTests := true, laidLooks := .later }
def CheckStandsCardSaid : Prop := Claim7.holds Tryd.pinned (.plain (OpenSpec.ofChange checkStandsSpec)) checkStandsCard

/-- THE TIED CARD OF 'foremanlaw20.CheckAnew'. -/
def checkAnewCard : Claim7 := { stood := { row := checkAnewRow, standIns := [], harness := (true, "263b031aa28e0779accd62927ed77ea2c58c762e6912d0d62d9945b419a175fd"), looks := true }, kinds := [], alts := [], laidByText := true, laidKinds := [.data, .pinned], laidTests := true, laidLooks := .later }
def CheckAnewCardSaid : Prop := Claim7.holds Tryd.pinned (.plain (OpenSpec.ofChange checkAnewSpec)) checkAnewCard

/-- THE TIED CARD OF 'foremanlaw09.FragTells'. -/
def fragTellsCard : Claim7 := { stood := { row := fragTellsRow, standIns := [], harness := (true, "263b031aa28e0779accd62927ed77ea2c58c762e6912d0d62d9945b419a175fd"), looks := true }, kinds := [], alts := [], laidByText := true, laidKinds := [.data, .pinned], laidTests := true, laidLooks := .later }
def FragTellsCardSaid : Prop := Claim7.holds Tryd.pinned (.plain (OpenSpec.ofChange fragTellsSpec)) fragTellsCard

/-- THE TIED CARD OF 'foremanlaw09.FragBack'. -/
def fragBackCard : Claim7 := { stood := { row := fragBackRow, standIns := [], harness := (true, "263b031aa28e0779accd62927ed77ea2c58c762e6912d0d62d9945b419a175fd"), looks := true }, kinds := [], alts := [], laidByText := true, laidKinds := [.data, .pinned], laidTests := true, laidLooks := .later }
def FragBackCardSaid : Prop := Claim7.holds Tryd.pinned (.plain (OpenSpec.ofChange fragBackSpec)) fragBackCard

/-- THE TIED CARD OF 'foremanlaw09.FragOne'. -/
def fragOneCard : Claim7 := { stood := { row := fragOneRow, standIns := [], harness := (true, "263b031aa28e0779accd62927ed77ea2c58c762e6912d0d62d9945b419a175fd"), looks := true }, kinds := [], alts := [], laidByText := true, laidKinds := [.data, .pinned], laidTests := true, laidLooks := .later }
def FragOneCardSaid : Prop := Claim7.holds Tryd.pinned (.plain (OpenSpec.ofChange fragOneSpec)) fragOneCard

/-- THE TIED CARD OF 'foremanlaw09.FragForms'. -/
def fragFormsCard : Claim7 := { stood := { row := fragFormsRow, standIns := [], harness := (true, "263b031aa28e0779accd62927ed77ea2c58c762e6912d0d62d9945b419a175fd"), looks := true }, kinds := [], alts := [], laidByText := true, laidKinds := [.data, .pinned], laidTests := true, laidLooks := .later }
def FragFormsCardSaid : Prop := Claim7.holds Tryd.pinned (.plain (OpenSpec.ofChange fragFormsSpec)) fragFormsCard

/-- THE TIED CARD OF 'foremanlaw09.FragNames'. -/
def fragNamesCard : Claim7 := { stood := { row := fragNamesRow, standIns := [], harness := (true, "263b031aa28e0779accd62927ed77ea2c58c762e6912d0d62d9945b419a175fd"), looks := true }, kinds := [], alts := [], laidByText := true, laidKinds := [.data, .pinned], laidTests := true, laidLooks := .later }
def FragNamesCardSaid : Prop := Claim7.holds Tryd.pinned (.plain (OpenSpec.ofChange fragNamesSpec)) fragNamesCard

/-- THE TIED CARD OF 'foremanlaw09.FragCopy'. -/
def fragCopyCard : Claim7 := { stood := { row := fragCopyRow, standIns := [], harness := (true, "263b031aa28e0779accd62927ed77ea2c58c762e6912d0d62d9945b419a175fd"), looks := true }, kinds := [], alts := [], laidByText := true, laidKinds := [.data, .pinned], laidTests := true, laidLooks := .later }
def FragCopyCardSaid : Prop := Claim7.holds Tryd.pinned (.plain (OpenSpec.ofChange fragCopySpec)) fragCopyCard

/-- THE SECOND FORM's CARD OF 'foremanlaw08.ValueTells'. -/
def valueTellsUptoCard : Claim7 := { stood := { row := valueTellsUptoRow, standIns := [], harness := (true, "263b031aa28e0779accd62927ed77ea2c58c762e6912d0d62d9945b419a175fd"), looks := true }, kinds := [], alts := [], laidByText := true, laidKinds := [.data, .data, .data], laidTests := true, laidLooks := .later }
def ValueTellsUptoCardSaid : Prop := Claim7.holds Tryd.pinned (.plain (OpenSpec.upto valueTellsSpec)) valueTellsUptoCard

/-- THE SECOND FORM's CARD OF 'foremanlaw20.CheckCosts'. -/
def checkCostsUptoCard : Claim7 := { stood := { row := checkCostsUptoRow, standIns := [], harness := (true, "263b031aa28e0779accd62927ed77ea2c58c762e6912d0d62d9945b419a175fd"), looks := true }, kinds := [], alts := [], laidByText := true, laidKinds := [.data, .pinned], laidTests := true, laidLooks := .later }
def CheckCostsUptoCardSaid : Prop := Claim7.holds Tryd.pinned (.plain (OpenSpec.upto checkCostsSpec)) checkCostsUptoCard

/-- THE SECOND FORM's CARD OF 'foremanlaw20.CheckTells'. -/
def checkTellsUptoCard : Claim7 := { stood := { row := checkTellsUptoRow, standIns := [], harness := (true, "263b031aa28e0779accd62927ed77ea2c58c762e6912d0d62d9945b419a175fd"), looks := true }, kinds := [], alts := [], laidByText := true, laidKinds := [.data, .pinned], laidTests := true, laidLooks := .later }
def CheckTellsUptoCardSaid : Prop := Claim7.holds Tryd.pinned (.plain (OpenSpec.upto checkTellsSpec)) checkTellsUptoCard

/-- THE SECOND FORM's CARD OF 'foremanlaw20.CheckFits'. -/
def checkFitsUptoCard : Claim7 := { stood := { row := checkFitsUptoRow, standIns := [], harness := (true, "263b031aa28e0779accd62927ed77ea2c58c762e6912d0d62d9945b419a175fd"), looks := true }, kinds := [], alts := [], laidByText := true, laidKinds := [.data, .pinned], laidTests := true, laidLooks := .later }
def CheckFitsUptoCardSaid : Prop := Claim7.holds Tryd.pinned (.plain (OpenSpec.upto checkFitsSpec)) checkFitsUptoCard

/-- THE SECOND FORM's CARD OF 'foremanlaw20.CheckStands'. -/
def checkStandsUptoCard : Claim7 := { stood := { row := checkStandsUptoRow, standIns := [], harness := (true, "263b031aa28e0779accd62927ed77ea2c58c762e6912d0d62d9945b419a175fd"), looks := true }, kinds := [], alts := [], laidByText := true, laidKinds := [.data, .pinned], laidTests := true, laidLooks := .later }
def CheckStandsUptoCardSaid : Prop := Claim7.holds Tryd.pinned (.plain (OpenSpec.upto checkStandsSpec)) checkStandsUptoCard

/-- THE SECOND FORM's CARD OF 'foremanlaw20.CheckAnew'. -/
def checkAnewUptoCard : Claim7 := { stood := { row := checkAnewUptoRow, standIns := [], harness := (true, "263b031aa28e0779accd62927ed77ea2c58c762e6912d0d62d9945b419a175fd"), looks := true }, kinds := [], alts := [], laidByText := true, laidKinds := [.data, .pinned], laidTests := true, laidLooks := .later }
def CheckAnewUptoCardSaid : Prop := Claim7.holds Tryd.pinned (.plain (OpenSpec.upto checkAnewSpec)) checkAnewUptoCard

/-- THE SECOND FORM's CARD OF 'foremanlaw09.FragTells'. -/
def fragTellsUptoCard : Claim7 := { stood := { row := fragTellsUptoRow, standIns := [], harness := (true, "263b031aa28e0779accd62927ed77ea2c58c762e6912d0d62d9945b419a175fd"), looks := true }, kinds := [], alts := [], laidByText := true, laidKinds := [.data, .pinned], laidTests := true, laidLooks := .later }
def FragTellsUptoCardSaid : Prop := Claim7.holds Tryd.pinned (.plain (OpenSpec.upto fragTellsSpec)) fragTellsUptoCard

/-- THE SECOND FORM's CARD OF 'foremanlaw09.FragBack'. -/
def fragBackUptoCard : Claim7 := { stood := { row := fragBackUptoRow, standIns := [], harness := (true, "263b031aa28e0779accd62927ed77ea2c58c762e6912d0d62d9945b419a175fd"), looks := true }, kinds := [], alts := [], laidByText := true, laidKinds := [.data, .pinned], laidTests := true, laidLooks := .later }
def FragBackUptoCardSaid : Prop := Claim7.holds Tryd.pinned (.plain (OpenSpec.upto fragBackSpec)) fragBackUptoCard

/-- THE SECOND FORM's CARD OF 'foremanlaw09.FragOne'. -/
def fragOneUptoCard : Claim7 := { stood := { row := fragOneUptoRow, standIns := [], harness := (true, "263b031aa28e0779accd62927ed77ea2c58c762e6912d0d62d9945b419a175fd"), looks := true }, kinds := [], alts := [], laidByText := true, laidKinds := [.data, .pinned], laidTests := true, laidLooks := .later }
def FragOneUptoCardSaid : Prop := Claim7.holds Tryd.pinned (.plain (OpenSpec.upto fragOneSpec)) fragOneUptoCard

/-- THE SECOND FORM's CARD OF 'foremanlaw09.FragForms'. -/
def fragFormsUptoCard : Claim7 := { stood := { row := fragFormsUptoRow, standIns := [], harness := (true, "263b031aa28e0779accd62927ed77ea2c58c762e6912d0d62d9945b419a175fd"), looks := true }, kinds := [], alts := [], laidByText := true, laidKinds := [.data, .pinned], laidTests := true, laidLooks := .later }
def FragFormsUptoCardSaid : Prop := Claim7.holds Tryd.pinned (.plain (OpenSpec.upto fragFormsSpec)) fragFormsUptoCard

/-- THE SECOND FORM's CARD OF 'foremanlaw09.FragNames'. -/
def fragNamesUptoCard : Claim7 := { stood := { row := fragNamesUptoRow, standIns := [], harness := (true, "263b031aa28e0779accd62927ed77ea2c58c762e6912d0d62d9945b419a175fd"), looks := true }, kinds := [], alts := [], laidByText := true, laidKinds := [.data, .pinned], laidTests := true, laidLooks := .later }
def FragNamesUptoCardSaid : Prop := Claim7.holds Tryd.pinned (.plain (OpenSpec.upto fragNamesSpec)) fragNamesUptoCard

/-- THE SECOND FORM's CARD OF 'foremanlaw09.FragCopy'. -/
def fragCopyUptoCard : Claim7 := { stood := { row := fragCopyUptoRow, standIns := [], harness := (true, "263b031aa28e0779accd62927ed77ea2c58c762e6912d0d62d9945b419a175fd"), looks := true }, kinds := [], alts := [], laidByText := true, laidKinds := [.data, .pinned], laidTests := true, laidLooks := .later }
def FragCopyUptoCardSaid : Prop := Claim7.holds Tryd.pinned (.plain (OpenSpec.upto fragCopySpec)) fragCopyUptoCard
end Rows
end Go.Proofs.YtnbalamacpcanaaDoor
