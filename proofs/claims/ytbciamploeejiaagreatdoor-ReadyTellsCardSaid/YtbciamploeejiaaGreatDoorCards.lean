/-
  DERIVED. GIVEN WITH THE SEED: THE CARDS: each row of YtbciamploeejiaaGreatDoorRows.lean that lists a variable, with what it lists TIED to the program's text (the seventh form; the later family's looks); each row that meets fmt, with fmt's text TOLD by the authors' own Lean function (tested against real Go, not proved from fmt's source: count such statements apart). THE CARD IS WHAT COUNTS. Prove the row's statement (the work); the ties are given (YtbciamploeejiaaGreatDoorTie.lean); close each card by the builder's one call (the guide's Derived/Test/ToyasCard.lean, 'card_holds'). Laid BY PROGRAM, IN A SANDBOX (cutbox-door.mjs). By AI agents, Wed Nov 11 2026. No macro, syntax, notation, axiom, sorry.
-/
import Derived.Test.YtbciamploeejiaaGreatDoorRows
import GoSem.ClaimSeven
namespace Go.Proofs.YtbciamploeejiaaGreatDoor
namespace Rows

/-- THE TIED CARD OF 'foremanlaw24.ReadyTells'. -/
def readyTellsCard : Claim7 := { stood := { row := readyTellsRow, standIns := [], harness := (true, "72ee97983590c4dc41876ba04b430719112e07ed208351ce47bd749197c3c998"), looks := true }, kinds := [], alts := [], laidByText := true, laidKinds := [.data, .data, .data, .data, .sentinel, .sentinel, .pinned], laidTests := true, laidLooks := .later }
def ReadyTellsCardSaid : Prop := Claim7.holds Tryz.pinned (.plain (OpenSpec.ofChange readyTellsSpec)) readyTellsCard

/-- THE TIED CARD OF 'foremanlaw24.ReadyOrder'. -/
def readyOrderCard : Claim7 := { stood := { row := readyOrderRow, standIns := [], harness := (true, "72ee97983590c4dc41876ba04b430719112e07ed208351ce47bd749197c3c998"), looks := true }, kinds := [], alts := [], laidByText := true, laidKinds := [.data, .data, .data, .data, .sentinel, .sentinel, .pinned], laidTests := true, laidLooks := .later }
def ReadyOrderCardSaid : Prop := Claim7.holds Tryz.pinned (.plain (OpenSpec.ofChange readyOrderSpec)) readyOrderCard

/-- THE TIED CARD OF 'foremanlaw24.ReadyRank'. -/
def readyRankCard : Claim7 := { stood := { row := readyRankRow, standIns := [], harness := (true, "72ee97983590c4dc41876ba04b430719112e07ed208351ce47bd749197c3c998"), looks := true }, kinds := [], alts := [], laidByText := true, laidKinds := [.data, .data, .data, .data, .sentinel, .sentinel, .pinned], laidTests := true, laidLooks := .later }
def ReadyRankCardSaid : Prop := Claim7.holds Tryz.pinned (.plain (OpenSpec.ofChange readyRankSpec)) readyRankCard

/-- THE SECOND FORM's CARD OF 'foremanlaw24.ReadyTells'. -/
def readyTellsUptoCard : Claim7 := { stood := { row := readyTellsUptoRow, standIns := [], harness := (true, "72ee97983590c4dc41876ba04b430719112e07ed208351ce47bd749197c3c998"), looks := true }, kinds := [], alts := [], laidByText := true, laidKinds := [.data, .data, .data, .data, .sentinel, .sentinel, .pinned], laidTests := true, laidLooks := .later }
def ReadyTellsUptoCardSaid : Prop := Claim7.holds Tryz.pinned (.plain (OpenSpec.upto readyTellsSpec)) readyTellsUptoCard

/-- THE SECOND FORM's CARD OF 'foremanlaw24.ReadyOrder'. -/
def readyOrderUptoCard : Claim7 := { stood := { row := readyOrderUptoRow, standIns := [], harness := (true, "72ee97983590c4dc41876ba04b430719112e07ed208351ce47bd749197c3c998"), looks := true }, kinds := [], alts := [], laidByText := true, laidKinds := [.data, .data, .data, .data, .sentinel, .sentinel, .pinned], laidTests := true, laidLooks := .later }
def ReadyOrderUptoCardSaid : Prop := Claim7.holds Tryz.pinned (.plain (OpenSpec.upto readyOrderSpec)) readyOrderUptoCard

/-- THE SECOND FORM's CARD OF 'foremanlaw24.ReadyRank'. -/
def readyRankUptoCard : Claim7 := { stood := { row := readyRankUptoRow, standIns := [], harness := (true, "72ee97983590c4dc41876ba04b430719112e07ed208351ce47bd749197c3c998"), looks := true }, kinds := [], alts := [], laidByText := true, laidKinds := [.data, .data, .data, .data, .sentinel, .sentinel, .pinned], laidTests := true, laidLooks := .later }
def ReadyRankUptoCardSaid : Prop := Claim7.holds Tryz.pinned (.plain (OpenSpec.upto readyRankSpec)) readyRankUptoCard
end Rows
end Go.Proofs.YtbciamploeejiaaGreatDoor
