/- A value's tree: its bytes. No program is imported. -/
import Derived.Test.YtnbalamacpcanaaDoorTree
namespace Fm
open Go Go.RowKit

/-- A value's bytes. -/
def bytesT : Tr → List UInt8
  | .node k n s l => numB k.toNat ++ (if k = 0 then numB n else if k = 1 then textB s else numB l.length ++ (l.map bytesT).flatten)
def bytesL (l : List Tr) : List UInt8 := (l.map bytesT).flatten
theorem bytesT_node (k : UInt8) (n : Int) (s : List UInt8) (l : List Tr) : bytesT (.node k n s l) = numB k.toNat ++ (if k = 0 then numB n else if k = 1 then textB s else numB l.length ++ bytesL l) := by
  rw [bytesT]; rfl
theorem bytesL_nil : bytesL [] = [] := rfl
theorem bytesL_at (l : List Tr) (i : Nat) (hi : i < l.length) : bytesL (l.take (i + 1)) = bytesL (l.take i) ++ bytesT l[i] := by
  unfold bytesL
  rw [List.take_add_one, List.getElem?_eq_getElem hi]
  rw [List.map_append, List.flatten_append]
  simp only [Option.toList_some, List.map_cons, List.map_nil, List.flatten_cons, List.flatten_nil, List.append_nil]
theorem bytesL_take_le (l : List Tr) (i : Nat) : (bytesL (l.take i)).length ≤ (bytesL l).length := by
  have h : bytesL l = bytesL (l.take i) ++ bytesL (l.drop i) := by
    unfold bytesL
    rw [← List.flatten_append, ← List.map_append, List.take_append_drop]
  rw [h, List.length_append]; omega
end Fm
