/- Walks: awake of law 09. -/
import Derived.Test.YtdienbcjfljjnaaGreatDoorFrgR
import Derived.Test.YtdienbcjfljjnaaGreatDoorFragE
import Derived.Test.YtdienbcjfljjnaaGreatDoorFragP
open Go.RowKit Go.Shelf
namespace Go.Proofs.YtdienbcjfljjnaaGreatDoor
open Go Go.Proofs Fm

theorem row_one_it (w : World) {x : It} {d : Value} {b : Nat} {e : TypeId} {fr : Nat × Nat} (hb : w.heap[b]? = some (.cells (itCells x d).toArray e fr)) (hd : strE.Row w x.after d) (hw : itWf x) : itE.Row w [x] (.slice (some ⟨b, 0, none⟩) 1 1) := by
  refine Elem.Row.mk rfl (by simp) (by simp [maxLen]) (Array.getElem?_eq_some_iff.1 hb).1 (fun i hi => ⟨fun j => (itCells x d).getD j .nilFunc, ?_, fun j hj => ?_⟩)
  · have : i = 0 := by simp at hi; omega
    subst this
    exact ⟨rfl, rfl, hd, rfl, rfl, rfl, hw⟩
  · have : i = 0 := by simp at hi; omega
    subst this
    have hj6 : j < 6 := hj
    simp only [World.cell?, hb]
    rw [Nat.zero_mul, Nat.zero_add, Nat.zero_add, List.getElem?_toArray, List.getD_eq_getElem?_getD, List.getElem?_eq_getElem (by simp [itCells]; omega)]
    rfl
theorem row_one_str (w : World) {s : List UInt8} {b : Nat} {e : TypeId} {fr : Nat × Nat} (hb : w.heap[b]? = some (.cells #[.string (str s)] e fr)) (hs : s.length ≤ 9223372036854775807) : strE.Row w [s] (.slice (some ⟨b, 0, none⟩) 1 1) := by
  refine Elem.Row.mk rfl (by simp) (by simp [maxLen]) (Array.getElem?_eq_some_iff.1 hb).1 (fun i hi => ⟨fun _ => .string (str s), ?_, fun j hj => ?_⟩)
  · have : i = 0 := by simp at hi; omega
    subst this
    exact ⟨rfl, hs⟩
  · have : i = 0 := by simp at hi; omega
    subst this
    have : j = 0 := by have hj1 : j < 1 := hj; omega
    subst this
    simp [World.cell?, hb]
theorem bytes_lit (w : World) (xs : List UInt8) (e : TypeId) (hn : xs.length ≤ 1000) : Bytes (w.alloc (.cells (xs.map bv).toArray e)) (.slice (some ⟨w.heap.size, 0, none⟩) xs.length xs.length) xs := by
  refine Bytes.mk rfl (Nat.le_refl _) (by unfold maxLen; omega) (by simp) (fun j hj => ?_)
  have := heap_alloc_new w (.cells (xs.map bv).toArray e)
  simp only [World.cell?, this]
  simp [hj]
def exA : It := ⟨[97], 0, [], [], 0, 0⟩
def exM : It := ⟨[109], 1, [[98]], [97], 3, 1⟩
theorem exA_b : fragB [exA] = true := by decide +kernel
theorem exM_b : fragB [exM] = true := by decide +kernel
theorem ex0_by : fragBy [] = [0] := by decide +kernel
theorem exA_by : fragBy [exA] = [2, 2, 97, 0, 0, 0] := by decide +kernel
theorem exM_by : fragBy [exM] = [2, 2, 109, 2, 2, 2, 98, 2, 2, 97, 6] := by decide +kernel
theorem name_A : nameB [65] = false := by decide +kernel
theorem name_x21 : nameB (List.replicate 21 120) = false := by decide +kernel
theorem name_a_9 : nameB [97, 95, 57] = true := by decide +kernel
theorem exA_wf : itWf exA := ⟨by decide, by decide, by unfold isI64 exA; simp, by unfold isI64 exA; simp⟩
theorem exM_wf : itWf exM := ⟨by decide, by decide, by unfold isI64 exM; simp, by unfold isI64 exM; simp⟩

end Go.Proofs.YtdienbcjfljjnaaGreatDoor
