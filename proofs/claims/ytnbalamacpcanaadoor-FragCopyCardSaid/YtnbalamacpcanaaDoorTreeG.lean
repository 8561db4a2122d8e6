/- A right value's bytes are few. No program is imported. -/
import Derived.Test.YtnbalamacpcanaaDoorTreeB
namespace Fm
open Go Go.RowKit

theorem textB_le (s : List UInt8) : (textB s).length ≤ 10 + s.length := by
  have := numB_le (s.length : Int)
  unfold textB; rw [List.length_append]; omega
theorem bytesL_sum (l : List Tr) (h : ∀ t, t ∈ l → (bytesT t).length ≤ 120 * partsT t) : (bytesL l).length ≤ 120 * partsL l := by
  induction l with
  | nil => simp [bytesL, partsL_nil]
  | cons t ts ih =>
    have h1 := h t (List.mem_cons_self ..)
    have h2 := ih (fun x hx => h x (List.mem_cons_of_mem _ hx))
    have e : bytesL (t :: ts) = bytesT t ++ bytesL ts := by simp [bytesL]
    rw [e, List.length_append, partsL_cons]; omega
theorem bytesT_le (t : Tr) : kindsT t = true → (bytesT t).length ≤ 120 * partsT t := by
  induction t using Tr.ind with
  | h k n s l ih =>
    intro hk
    rw [kindsT_node, Bool.and_eq_true] at hk
    have hl := bytesL_sum l (fun t ht => ih t ht (List.all_eq_true.1 hk.2 t ht))
    have e1 := numB_le (k.toNat : Int)
    have e2 := numB_le n
    have e3 := numB_le (l.length : Int)
    have e4 := textB_le s
    have hp := hk.1
    rw [bytesT_node, List.length_append, partsT_node]
    by_cases h0 : k = 0
    · rw [if_pos h0]; omega
    · rw [if_neg h0]
      by_cases h1 : k = 1
      · rw [if_pos h1]
        have : s.length ≤ 100 := by
          simp only [plainB, if_neg h0, if_pos h1, decide_eq_true_eq] at hp
          exact hp.2.2
        omega
      · rw [if_neg h1, List.length_append]; omega
theorem right_bytes {t : Tr} (h : rightT t = true) : (bytesT t).length ≤ 24000 := by
  simp only [rightT, Bool.and_eq_true, decide_eq_true_eq] at h
  have := bytesT_le t h.1.1
  omega
end Fm
