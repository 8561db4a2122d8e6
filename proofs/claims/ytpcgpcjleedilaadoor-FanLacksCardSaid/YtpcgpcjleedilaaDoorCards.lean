/-
  DERIVED. GIVEN WITH THE SEED: THE CARDS: each row of YtpcgpcjleedilaaDoorRows.lean that lists a variable, with what it lists TIED to the program's text (the seventh form; the later family's looks); each row that meets fmt, with fmt's text TOLD by the authors' own Lean function (tested against real Go, not proved from fmt's source: count such statements apart). THE CARD IS WHAT COUNTS. Prove the row's statement (the work); the ties are given (YtpcgpcjleedilaaDoorTie.lean); close each card by the builder's one call (the guide's Derived/Test/ToyasCard.lean, 'card_holds'). Laid BY PROGRAM, IN A SANDBOX (cutbox-door.mjs). By AI agents, Wed Nov 11 2026. No macro, syntax, notation, axiom, sorry.
-/
import Derived.Test.YtpcgpcjleedilaaDoorRows
import GoSem.ClaimSeven
namespace Go.Proofs.YtpcgpcjleedilaaDoor
namespace Rows

/-- THE TIED CARD OF 'foremanlaw12.IdentBack'. -/
def identBackCard : Claim7 := { stood := { row := identBackRow, standIns := [], harness := (true, "f55298840754ae9419c962bfcde1a5a025ce25de2ed3d218cd18e84c4a9bb148"), looks := true }, kinds := [], alts := [], laidByText := true, laidKinds := [.data, .data, .data, .data, .sentinel, .sentinel, .pinned], laidTests := true, laidLooks := .later }
def IdentBackCardSaid : Prop := Claim7.holds Tryd.pinned (.plain (OpenSpec.ofChange identBackSpec)) identBackCard

/-- THE TIED CARD OF 'foremanlaw12.IdentOwns'. -/
def identOwnsCard : Claim7 := { stood := { row := identOwnsRow, standIns := [], harness := (true, "f55298840754ae9419c962bfcde1a5a025ce25de2ed3d218cd18e84c4a9bb148"), looks := true }, kinds := [], alts := [], laidByText := true, laidKinds := [.data, .data, .data, .data, .sentinel, .sentinel, .pinned], laidTests := true, laidLooks := .later }
def IdentOwnsCardSaid : Prop := Claim7.holds Tryd.pinned (.plain (OpenSpec.ofChange identOwnsSpec)) identOwnsCard

/-- THE TIED CARD OF 'foremanlaw12.IdentChain'. -/
def identChainCard : Claim7 := { stood := { row := identChainRow, standIns := [], harness := (true, "f55298840754ae9419c962bfcde1a5a025ce25de2ed3d218cd18e84c4a9bb148"), looks := true }, kinds := [], alts := [], laidByText := true, laidKinds := [.data, .data, .data, .data, .sentinel, .sentinel, .pinned], laidTests := true, laidLooks := .later }
def IdentChainCardSaid : Prop := Claim7.holds Tryd.pinned (.plain (OpenSpec.ofChange identChainSpec)) identChainCard

/-- THE TIED CARD OF 'foremanlaw12.IdentOrder'. -/
def identOrderCard : Claim7 := { stood := { row := identOrderRow, standIns := [], harness := (true, "f55298840754ae9419c962bfcde1a5a025ce25de2ed3d218cd18e84c4a9bb148"), looks := true }, kinds := [], alts := [], laidByText := true, laidKinds := [.data, .data, .data, .data, .sentinel, .sentinel, .pinned], laidTests := true, laidLooks := .later }
def IdentOrderCardSaid : Prop := Claim7.holds Tryd.pinned (.plain (OpenSpec.ofChange identOrderSpec)) identOrderCard

/-- THE TIED CARD OF 'foremanlaw18.FanLacks'. -/
def fanLacksCard : Claim7 := { stood := { row := fanLacksRow, standIns := [], harness := (true, "f55298840754ae9419c962bfcde1a5a025ce25de2ed3d218cd18e84c4a9bb148"), looks := true }, kinds := [], alts := [], laidByText := true, laidKinds := [.data, .data, .data, .data, .sentinel, .sentinel, .pinned], laidTests := true, laidLooks := .later }
def FanLacksCardSaid : Prop := Claim7.holds Tryd.pinned (.plain (OpenSpec.ofChange fanLacksSpec)) fanLacksCard

/-- THE SECOND FORM's CARD OF 'foremanlaw12.IdentBack'. -/
def identBackUptoCard : Claim7 := { stood := { row := identBackUptoRow, standIns := [], harness := (true, "f55298840754ae9419c962bfcde1a5a025ce25de2ed3d218cd18e84c4a9bb148"), looks := true }, kinds := [], alts := [], laidByText := true, laidKinds := [.data, .data, .data, .data, .sentinel, .sentinel, .pinned], laidTests := true, laidLooks := .later }
def IdentBackUptoCardSaid : Prop := Claim7.holds Tryd.pinned (.plain (OpenSpec.upto identBackSpec)) identBackUptoCard

/-- THE SECOND FORM's CARD OF 'foremanlaw12.IdentOwns'. -/
def identOwnsUptoCard : Claim7 := { stood := { row := identOwnsUptoRow, standIns := [], harness := (true, "f55298840754ae9419c962bfcde1a5a025ce25de2ed3d218cd18e84c4a9bb148"), looks := true }, kinds := [], alts := [], laidByText := true, laidKinds := [.data, .data, .data, .data, .sentinel, .sentinel, .pinned], laidTests := true, laidLooks := .later }
def IdentOwnsUptoCardSaid : Prop := Claim7.holds Tryd.pinned (.plain (OpenSpec.upto identOwnsSpec)) identOwnsUptoCard

/-- THE SECOND FORM's CARD OF 'foremanlaw12.IdentChain'. -/
def identChainUptoCard : Claim7 := { stood := { row := identChainUptoRow, standIns := [], harness := (true, "f55298840754ae9419c962bfcde1a5a025ce25de2ed3d218cd18e84c4a9bb148"), looks := true }, kinds := [], alts := [], laidByText := true, laidKinds := [.data, .data, .data, .data, .sentinel, .sentinel, .pinned], laidTests := true, laidLooks := .later }
def IdentChainUptoCardSaid : Prop := Claim7.holds Tryd.pinned (.plain (OpenSpec.upto identChainSpec)) identChainUptoCard

/-- THE SECOND FORM's CARD OF 'foremanlaw12.IdentOrder'. -/
def identOrderUptoCard : Claim7 := { stood := { row := identOrderUptoRow, standIns := [], harness := (true, "f55298840754ae9419c962bfcde1a5a025ce25de2ed3d218cd18e84c4a9bb148"), looks := true }, kinds := [], alts := [], laidByText := true, laidKinds := [.data, .data, .data, .data, .sentinel, .sentinel, .pinned], laidTests := true, laidLooks := .later }
def IdentOrderUptoCardSaid : Prop := Claim7.holds Tryd.pinned (.plain (OpenSpec.upto identOrderSpec)) identOrderUptoCard

/-- THE SECOND FORM's CARD OF 'foremanlaw18.FanLacks'. -/
def fanLacksUptoCard : Claim7 := { stood := { row := fanLacksUptoRow, standIns := [], harness := (true, "f55298840754ae9419c962bfcde1a5a025ce25de2ed3d218cd18e84c4a9bb148"), looks := true }, kinds := [], alts := [], laidByText := true, laidKinds := [.data, .data, .data, .data, .sentinel, .sentinel, .pinned], laidTests := true, laidLooks := .later }
def FanLacksUptoCardSaid : Prop := Claim7.holds Tryd.pinned (.plain (OpenSpec.upto fanLacksSpec)) fanLacksUptoCard
end Rows
end Go.Proofs.YtpcgpcjleedilaaDoor
