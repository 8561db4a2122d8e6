/- Walks: slices.Equal at []int, snap.same, slices.EqualFunc at []api.Node, snap.Same. -/
import Derived.Test.YtpcgpcjleedilaaGreatDoorPlFh
import Derived.Test.YtpcgpcjleedilaaGreatDoorFaA
import Derived.Test.YtpcgpcjleedilaaGreatDoorTake
import Derived.BigQuiet
open Go.RowKit Go.Shelf
namespace Go.Proofs.YtpcgpcjleedilaaGreatDoor
open Go Go.Proofs Fm

theorem take_more {α : Type} {l m : List α} {i : Nat} (hi : i < l.length) (hm : i < m.length) (h : l.take i = m.take i) (hx : l[i] = m[i]) : l.take (i + 1) = m.take (i + 1) := by
  rw [List.take_add_one, List.take_add_one, h, List.getElem?_eq_getElem hi, List.getElem?_eq_getElem hm, hx]
end Go.Proofs.YtpcgpcjleedilaaGreatDoor
