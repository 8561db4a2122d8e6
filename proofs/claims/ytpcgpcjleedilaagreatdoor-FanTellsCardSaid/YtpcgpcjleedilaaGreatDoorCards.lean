/-
  DERIVED. GIVEN WITH THE SEED: THE CARDS: each row of YtpcgpcjleedilaaGreatDoorRows.lean that lists a variable, with what it lists TIED to the program's text (the seventh form; the later family's looks); each row that meets fmt, with fmt's text TOLD by the authors' own Lean function (tested against real Go, not proved from fmt's source: count such statements apart). THE CARD IS WHAT COUNTS. Prove the row's statement (the work); the ties are given (YtpcgpcjleedilaaGreatDoorTie.lean); close each card by the builder's one call (the guide's Derived/Test/ToyasCard.lean, 'card_holds'). Laid BY PROGRAM, IN A SANDBOX (cutbox-door.mjs). By AI agents, Wed Nov 11 2026. No macro, syntax, notation, axiom, sorry.
-/
import Derived.Test.YtpcgpcjleedilaaGreatDoorRows
import GoSem.ClaimSeven
namespace Go.Proofs.YtpcgpcjleedilaaGreatDoor
namespace Rows

/-- THE TIED CARD OF 'foremanlaw12.IdentTells'. -/
def identTellsCard : Claim7 := { stood := { row := identTellsRow, standIns := [], harness := (true, "672e16c6de04c32d38bb2d3adce91aa2baa37a35b6f1572e9c2b6d32a9536de8"), looks := true }, kinds := [], alts := [], laidByText := true, laidKinds := [.data, .data, .data, .data, .sentinel, .sentinel, .pinned], laidTests := true, laidLooks := .later }
def IdentTellsCardSaid : Prop := Claim7.holds Tryz.pinned (.plain (OpenSpec.ofChange identTellsSpec)) identTellsCard

/-- THE TIED CARD OF 'foremanlaw18.FanTells'. -/
def fanTellsCard : Claim7 := { stood := { row := fanTellsRow, standIns := [], harness := (true, "672e16c6de04c32d38bb2d3adce91aa2baa37a35b6f1572e9c2b6d32a9536de8"), looks := true }, kinds := [], alts := [], laidByText := true, laidKinds := [.data, .data, .data, .data, .sentinel, .sentinel, .pinned], laidTests := true, laidLooks := .later }
def FanTellsCardSaid : Prop := Claim7.holds Tryz.pinned (.plain (OpenSpec.ofChange fanTellsSpec)) fanTellsCard

/-- THE TIED CARD OF 'foremanlaw18.FanBack'. -/
def fanBackCard : Claim7 := { stood := { row := fanBackRow, standIns := [], harness := (true, "672e16c6de04c32d38bb2d3adce91aa2baa37a35b6f1572e9c2b6d32a9536de8"), looks := true }, kinds := [], alts := [], laidByText := true, laidKinds := [.data, .data, .data, .data, .sentinel, .sentinel, .pinned], laidTests := true, laidLooks := .later }
def FanBackCardSaid : Prop := Claim7.holds Tryz.pinned (.plain (OpenSpec.ofChange fanBackSpec)) fanBackCard

/-- THE TIED CARD OF 'foremanlaw18.FanPlaces'. -/
def fanPlacesCard : Claim7 := { stood := { row := fanPlacesRow, standIns := [], harness := (true, "672e16c6de04c32d38bb2d3adce91aa2baa37a35b6f1572e9c2b6d32a9536de8"), looks := true }, kinds := [], alts := [], laidByText := true, laidKinds := [.data, .data, .data, .data, .sentinel, .sentinel, .pinned], laidTests := true, laidLooks := .later }
def FanPlacesCardSaid : Prop := Claim7.holds Tryz.pinned (.plain (OpenSpec.ofChange fanPlacesSpec)) fanPlacesCard

/-- THE TIED CARD OF 'foremanlaw18.FanIDs'. -/
def fanIDsCard : Claim7 := { stood := { row := fanIDsRow, standIns := [], harness := (true, "672e16c6de04c32d38bb2d3adce91aa2baa37a35b6f1572e9c2b6d32a9536de8"), looks := true }, kinds := [], alts := [], laidByText := true, laidKinds := [.data, .data, .data, .data, .sentinel, .sentinel, .pinned], laidTests := true, laidLooks := .later }
def FanIDsCardSaid : Prop := Claim7.holds Tryz.pinned (.plain (OpenSpec.ofChange fanIDsSpec)) fanIDsCard

/-- THE SECOND FORM's CARD OF 'foremanlaw12.IdentTells'. -/
def identTellsUptoCard : Claim7 := { stood := { row := identTellsUptoRow, standIns := [], harness := (true, "672e16c6de04c32d38bb2d3adce91aa2baa37a35b6f1572e9c2b6d32a9536de8"), looks := true }, kinds := [], alts := [], laidByText := true, laidKinds := [.data, .data, .data, .data, .sentinel, .sentinel, .pinned], laidTests := true, laidLooks := .later }
def IdentTellsUptoCardSaid : Prop := Claim7.holds Tryz.pinned (.plain (OpenSpec.upto identTellsSpec)) identTellsUptoCard

/-- THE SECOND FORM's CARD OF 'foremanlaw18.FanTells'. -/
def fanTellsUptoCard : Claim7 := { stood := { row := fanTellsUptoRow, standIns := [], harness := (true, "672e16c6de04c32d38bb2d3adce91aa2baa37a35b6f1572e9c2b6d32a9536de8"), looks := true }, kinds := [], alts := [], laidByText := true, laidKinds := [.data, .data, .data, .data, .sentinel, .sentinel, .pinned], laidTests := true, laidLooks := .later }
def FanTellsUptoCardSaid : Prop := Claim7.holds Tryz.pinned (.plain (OpenSpec.upto fanTellsSpec)) fanTellsUptoCard

/-- THE SECOND FORM's CARD OF 'foremanlaw18.FanBack'. -/
def fanBackUptoCard : Claim7 := { stood := { row := fanBackUptoRow, standIns := [], harness := (true, "672e16c6de04c32d38bb2d3adce91aa2baa37a35b6f1572e9c2b6d32a9536de8"), looks := true }, kinds := [], alts := [], laidByText := true, laidKinds := [.data, .data, .data, .data, .sentinel, .sentinel, .pinned], laidTests := true, laidLooks := .later }
def FanBackUptoCardSaid : Prop := Claim7.holds Tryz.pinned (.plain (OpenSpec.upto fanBackSpec)) fanBackUptoCard

/-- THE SECOND FORM's CARD OF 'foremanlaw18.FanPlaces'. -/
def fanPlacesUptoCard : Claim7 := { stood := { row := fanPlacesUptoRow, standIns := [], harness := (true, "672e16c6de04c32d38bb2d3adce91aa2baa37a35b6f1572e9c2b6d32a9536de8"), looks := true }, kinds := [], alts := [], laidByText := true, laidKinds := [.data, .data, .data, .data, .sentinel, .sentinel, .pinned], laidTests := true, laidLooks := .later }
def FanPlacesUptoCardSaid : Prop := Claim7.holds Tryz.pinned (.plain (OpenSpec.upto fanPlacesSpec)) fanPlacesUptoCard

/-- THE SECOND FORM's CARD OF 'foremanlaw18.FanIDs'. -/
def fanIDsUptoCard : Claim7 := { stood := { row := fanIDsUptoRow, standIns := [], harness := (true, "672e16c6de04c32d38bb2d3adce91aa2baa37a35b6f1572e9c2b6d32a9536de8"), looks := true }, kinds := [], alts := [], laidByText := true, laidKinds := [.data, .data, .data, .data, .sentinel, .sentinel, .pinned], laidTests := true, laidLooks := .later }
def FanIDsUptoCardSaid : Prop := Claim7.holds Tryz.pinned (.plain (OpenSpec.upto fanIDsSpec)) fanIDsUptoCard
end Rows
end Go.Proofs.YtpcgpcjleedilaaGreatDoor
