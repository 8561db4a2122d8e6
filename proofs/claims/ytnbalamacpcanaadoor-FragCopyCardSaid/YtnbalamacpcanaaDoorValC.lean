/- Walks: plain, the reference's kinds, Right, Same. -/
import Derived.Test.YtnbalamacpcanaaDoorValB
open Go.RowKit Go.Shelf
namespace Go.Proofs.YtnbalamacpcanaaDoor
open Go Go.Proofs Fm

theorem str_toList (s : List UInt8) : (str s).toList = s := by rw [Lib.toList_data]; rfl
theorem u8_eq (k c : UInt8) : ((k.toNat : Int) == (c.toNat : Int)) = decide (k = c) := by
  rw [Bool.eq_iff_iff]
  simp only [beq_iff_eq, decide_eq_true_eq]
  exact ⟨fun h => UInt8.toNat_inj.1 (by omega), fun h => by rw [h]⟩
theorem plainB_0 (n : Int) (s : List UInt8) (m : Nat) : plainB 0 n s m = ((str s).toList.isEmpty && ((m : Int) == 0)) := by
  rw [str_toList, Bool.eq_iff_iff]; simp [plainB]
theorem plainB_1 (n : Int) (s : List UInt8) (m : Nat) : plainB 1 n s m = ((n == 0) && ((m : Int) == 0) && decide ((s.length : Int) ≤ 100)) := by
  rw [Bool.eq_iff_iff]; simp [plainB]; omega
theorem plainB_2 (n : Int) (s : List UInt8) (m : Nat) : plainB 2 n s m = ((n == 0) && (str s).toList.isEmpty && decide ((m : Int) ≤ 40)) := by
  rw [str_toList, Bool.eq_iff_iff]; simp [plainB, and_assoc]; intro _ _; omega
theorem plainB_3 (k : UInt8) (n : Int) (s : List UInt8) (m : Nat) (h0 : k ≠ 0) (h1 : k ≠ 1) (h2 : k ≠ 2) : plainB k n s m = false := by
  simp [plainB, h0, h1, h2]

set_option maxRecDepth 100000 in
set_option maxHeartbeats 2000000 in
theorem vplain_any (k : UInt8) (n : Int) (s : List UInt8) (l : List Tr) (w : World) (v : Value) (h : Lies w (.node k n s l) v) :
    Calls Tryd.prog 110 #[v] w fun e w' => e = .returned (.bool (plainB k n s l.length)) ∧ Ext w w' := by
  cases h with
  | node _ _ _ _ a cap C hn hs h1 h2 h3 h4 h5 =>
  have e0 := u8_eq k 0
  have e1 := u8_eq k 1
  have e2 := u8_eq k 2
  rw [show ((0 : UInt8).toNat : Int) = 0 from rfl] at e0
  rw [show ((1 : UInt8).toNat : Int) = 1 from rfl] at e1
  rw [show ((2 : UInt8).toNat : Int) = 2 from rfl] at e2
  generalize (k.toNat : Int) = K at *
  clear h3 h4 h5 hn
  have hll : l.length ≤ 9223372036854775807 := by unfold maxLen at h2; omega
  have hss := str_size s
  by_cases hk0 : k = 0
  · have HX := Lib.hid ((congrArg (fun k => plainB k n s l.length) hk0).trans (plainB_0 n s l.length))
    have f0 : (K == 0) = true := by rw [e0]; simpa using hk0
    clear e0 e1 e2 hk0
    go_enter Tryd.func110, Tryd.ntmps110
    go_wp2
    all_goals go_ret
    all_goals
      refine ⟨?_, (Ext.refl w).alloc _⟩
      have hX := HX.out
      clear HX
      rw [hX]
      simp_all
  have f0 : (K == 0) = false := by rw [e0]; simpa using hk0
  by_cases hk1 : k = 1
  · have HX := Lib.hid ((congrArg (fun k => plainB k n s l.length) hk1).trans (plainB_1 n s l.length))
    have f1 : (K == 1) = true := by rw [e1]; simpa using hk1
    clear e0 e1 e2 hk0 hk1
    go_enter Tryd.func110, Tryd.ntmps110
    go_wp2
    all_goals go_ret
    all_goals
      refine ⟨?_, (Ext.refl w).alloc _⟩
      have hX := HX.out
      clear HX
      rw [hX]
      simp_all
  have f1 : (K == 1) = false := by rw [e1]; simpa using hk1
  by_cases hk2 : k = 2
  · have HX := Lib.hid ((congrArg (fun k => plainB k n s l.length) hk2).trans (plainB_2 n s l.length))
    have f2 : (K == 2) = true := by rw [e2]; simpa using hk2
    clear e0 e1 e2 hk0 hk1 hk2
    go_enter Tryd.func110, Tryd.ntmps110
    go_wp2
    all_goals go_ret
    all_goals
      refine ⟨?_, (Ext.refl w).alloc _⟩
      have hX := HX.out
      clear HX
      rw [hX]
      simp_all
  · have HX := Lib.hid (plainB_3 k n s l.length hk0 hk1 hk2)
    have f2 : (K == 2) = false := by rw [e2]; simpa using hk2
    clear e0 e1 e2 hk0 hk1 hk2
    go_enter Tryd.func110, Tryd.ntmps110
    go_wp2
    all_goals go_ret
    all_goals
      refine ⟨?_, (Ext.refl w).alloc _⟩
      rw [HX.out]
      rfl
end Go.Proofs.YtnbalamacpcanaaDoor
