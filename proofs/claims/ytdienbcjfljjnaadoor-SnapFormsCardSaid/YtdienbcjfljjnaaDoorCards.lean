/-
  DERIVED. GIVEN WITH THE SEED: THE CARDS: each row of YtdienbcjfljjnaaDoorRows.lean that lists a variable, with what it lists TIED to the program's text (the seventh form; the later family's looks); each row that meets fmt, with fmt's text TOLD by the authors' own Lean function (tested against real Go, not proved from fmt's source: count such statements apart). THE CARD IS WHAT COUNTS. Prove the row's statement (the work); the ties are given (YtdienbcjfljjnaaDoorTie.lean); close each card by the builder's one call (the guide's Derived/Test/ToyasCard.lean, 'card_holds'). Laid BY PROGRAM, IN A SANDBOX (cutbox-door.mjs). By AI agents, Wed Nov 11 2026. No macro, syntax, notation, axiom, sorry.
-/
import Derived.Test.YtdienbcjfljjnaaDoorRows
import GoSem.ClaimSeven
namespace Go.Proofs.YtdienbcjfljjnaaDoor
namespace Rows

/-- THE TIED CARD OF 'foremanlaw11.SnapBack'. -/
def snapBackCard : Claim7 := { stood := { row := snapBackRow, standIns := [], harness := (true, "4415ce6587aaa9c1bf6ac2be990a6dc391274fc15f146d945e14f97042492c7d"), looks := true }, kinds := [], alts := [], laidByText := true, laidKinds := [.data, .pinned], laidTests := true, laidLooks := .later }
def SnapBackCardSaid : Prop := Claim7.holds Tryd.pinned (.plain (OpenSpec.ofChange snapBackSpec)) snapBackCard

/-- THE TIED CARD OF 'foremanlaw11.SnapOne'. -/
def snapOneCard : Claim7 := { stood := { row := snapOneRow, standIns := [], harness := (true, "4415ce6587aaa9c1bf6ac2be990a6dc391274fc15f146d945e14f97042492c7d"), looks := true }, kinds := [], alts := [], laidByText := true, laidKinds := [.data, .pinned], laidTests := true, laidLooks := .later }
def SnapOneCardSaid : Prop := Claim7.holds Tryd.pinned (.plain (OpenSpec.ofChange snapOneSpec)) snapOneCard

/-- THE TIED CARD OF 'foremanlaw11.SnapParts'. -/
def snapPartsCard : Claim7 := { stood := { row := snapPartsRow, standIns := [], harness := (true, "4415ce6587aaa9c1bf6ac2be990a6dc391274fc15f146d945e14f97042492c7d"), looks := true }, kinds := [], alts := [], laidByText := true, laidKinds := [.data, .pinned], laidTests := true, laidLooks := .later }
def SnapPartsCardSaid : Prop := Claim7.holds Tryd.pinned (.plain (OpenSpec.ofChange snapPartsSpec)) snapPartsCard

/-- THE TIED CARD OF 'foremanlaw11.SnapForms'. -/
def snapFormsCard : Claim7 := { stood := { row := snapFormsRow, standIns := [], harness := (true, "4415ce6587aaa9c1bf6ac2be990a6dc391274fc15f146d945e14f97042492c7d"), looks := true }, kinds := [], alts := [], laidByText := true, laidKinds := [.data, .pinned], laidTests := true, laidLooks := .later }
def SnapFormsCardSaid : Prop := Claim7.holds Tryd.pinned (.plain (OpenSpec.ofChange snapFormsSpec)) snapFormsCard

/-- THE TIED CARD OF 'foremanlaw10.OpBack'. -/
def opBackCard : Claim7 := { stood := { row := opBackRow, standIns := [], harness := (true, "4415ce6587aaa9c1bf6ac2be990a6dc391274fc15f146d945e14f97042492c7d"), looks := true }, kinds := [], alts := [], laidByText := true, laidKinds := [.data, .data, .pinned], laidTests := true, laidLooks := .later }
def OpBackCardSaid : Prop := Claim7.holds Tryd.pinned (.plain (OpenSpec.ofChange opBackSpec)) opBackCard

/-- THE TIED CARD OF 'foremanlaw10.OpOne'. -/
def opOneCard : Claim7 := { stood := { row := opOneRow, standIns := [], harness := (true, "4415ce6587aaa9c1bf6ac2be990a6dc391274fc15f146d945e14f97042492c7d"), looks := true }, kinds := [], alts := [], laidByText := true, laidKinds := [.data, .data, .pinned], laidTests := true, laidLooks := .later }
def OpOneCardSaid : Prop := Claim7.holds Tryd.pinned (.plain (OpenSpec.ofChange opOneSpec)) opOneCard

/-- THE TIED CARD OF 'foremanlaw10.OpHas'. -/
def opHasCard : Claim7 := { stood := { row := opHasRow, standIns := [], harness := (true, "4415ce6587aaa9c1bf6ac2be990a6dc391274fc15f146d945e14f97042492c7d"), looks := true }, kinds := [], alts := [], laidByText := true, laidKinds := [.data, .data, .pinned], laidTests := true, laidLooks := .later }
def OpHasCardSaid : Prop := Claim7.holds Tryd.pinned (.plain (OpenSpec.ofChange opHasSpec)) opHasCard

/-- THE TIED CARD OF 'foremanlaw10.OpIDs'. -/
def opIDsCard : Claim7 := { stood := { row := opIDsRow, standIns := [], harness := (true, "4415ce6587aaa9c1bf6ac2be990a6dc391274fc15f146d945e14f97042492c7d"), looks := true }, kinds := [], alts := [], laidByText := true, laidKinds := [.data, .data, .pinned], laidTests := true, laidLooks := .later }
def OpIDsCardSaid : Prop := Claim7.holds Tryd.pinned (.plain (OpenSpec.ofChange opIDsSpec)) opIDsCard

/-- THE SECOND FORM's CARD OF 'foremanlaw11.SnapBack'. -/
def snapBackUptoCard : Claim7 := { stood := { row := snapBackUptoRow, standIns := [], harness := (true, "4415ce6587aaa9c1bf6ac2be990a6dc391274fc15f146d945e14f97042492c7d"), looks := true }, kinds := [], alts := [], laidByText := true, laidKinds := [.data, .pinned], laidTests := true, laidLooks := .later }
def SnapBackUptoCardSaid : Prop := Claim7.holds Tryd.pinned (.plain (OpenSpec.upto snapBackSpec)) snapBackUptoCard

/-- THE SECOND FORM's CARD OF 'foremanlaw11.SnapOne'. -/
def snapOneUptoCard : Claim7 := { stood := { row := snapOneUptoRow, standIns := [], harness := (true, "4415ce6587aaa9c1bf6ac2be990a6dc391274fc15f146d945e14f97042492c7d"), looks := true }, kinds := [], alts := [], laidByText := true, laidKinds := [.data, .pinned], laidTests := true, laidLooks := .later }
def SnapOneUptoCardSaid : Prop := Claim7.holds Tryd.pinned (.plain (OpenSpec.upto snapOneSpec)) snapOneUptoCard

/-- THE SECOND FORM's CARD OF 'foremanlaw11.SnapParts'. -/
def snapPartsUptoCard : Claim7 := { stood := { row := snapPartsUptoRow, standIns := [], harness := (true, "4415ce6587aaa9c1bf6ac2be990a6dc391274fc15f146d945e14f97042492c7d"), looks := true }, kinds := [], alts := [], laidByText := true, laidKinds := [.data, .pinned], laidTests := true, laidLooks := .later }
def SnapPartsUptoCardSaid : Prop := Claim7.holds Tryd.pinned (.plain (OpenSpec.upto snapPartsSpec)) snapPartsUptoCard

/-- THE SECOND FORM's CARD OF 'foremanlaw11.SnapForms'. -/
def snapFormsUptoCard : Claim7 := { stood := { row := snapFormsUptoRow, standIns := [], harness := (true, "4415ce6587aaa9c1bf6ac2be990a6dc391274fc15f146d945e14f97042492c7d"), looks := true }, kinds := [], alts := [], laidByText := true, laidKinds := [.data, .pinned], laidTests := true, laidLooks := .later }
def SnapFormsUptoCardSaid : Prop := Claim7.holds Tryd.pinned (.plain (OpenSpec.upto snapFormsSpec)) snapFormsUptoCard

/-- THE SECOND FORM's CARD OF 'foremanlaw10.OpBack'. -/
def opBackUptoCard : Claim7 := { stood := { row := opBackUptoRow, standIns := [], harness := (true, "4415ce6587aaa9c1bf6ac2be990a6dc391274fc15f146d945e14f97042492c7d"), looks := true }, kinds := [], alts := [], laidByText := true, laidKinds := [.data, .data, .pinned], laidTests := true, laidLooks := .later }
def OpBackUptoCardSaid : Prop := Claim7.holds Tryd.pinned (.plain (OpenSpec.upto opBackSpec)) opBackUptoCard

/-- THE SECOND FORM's CARD OF 'foremanlaw10.OpOne'. -/
def opOneUptoCard : Claim7 := { stood := { row := opOneUptoRow, standIns := [], harness := (true, "4415ce6587aaa9c1bf6ac2be990a6dc391274fc15f146d945e14f97042492c7d"), looks := true }, kinds := [], alts := [], laidByText := true, laidKinds := [.data, .data, .pinned], laidTests := true, laidLooks := .later }
def OpOneUptoCardSaid : Prop := Claim7.holds Tryd.pinned (.plain (OpenSpec.upto opOneSpec)) opOneUptoCard

/-- THE SECOND FORM's CARD OF 'foremanlaw10.OpHas'. -/
def opHasUptoCard : Claim7 := { stood := { row := opHasUptoRow, standIns := [], harness := (true, "4415ce6587aaa9c1bf6ac2be990a6dc391274fc15f146d945e14f97042492c7d"), looks := true }, kinds := [], alts := [], laidByText := true, laidKinds := [.data, .data, .pinned], laidTests := true, laidLooks := .later }
def OpHasUptoCardSaid : Prop := Claim7.holds Tryd.pinned (.plain (OpenSpec.upto opHasSpec)) opHasUptoCard

/-- THE SECOND FORM's CARD OF 'foremanlaw10.OpIDs'. -/
def opIDsUptoCard : Claim7 := { stood := { row := opIDsUptoRow, standIns := [], harness := (true, "4415ce6587aaa9c1bf6ac2be990a6dc391274fc15f146d945e14f97042492c7d"), looks := true }, kinds := [], alts := [], laidByText := true, laidKinds := [.data, .data, .pinned], laidTests := true, laidLooks := .later }
def OpIDsUptoCardSaid : Prop := Claim7.holds Tryd.pinned (.plain (OpenSpec.upto opIDsSpec)) opIDsUptoCard
end Rows
end Go.Proofs.YtdienbcjfljjnaaDoor
