/- Names: a text's letters, and what strings.Trim leaves of it: plain facts. No program is imported. -/
import Derived.Test.YtnbalamacpcanaaDoorFr
import Derived.Lib.SlTrimSet
namespace Fm
open Go Go.RowKit

/-- The letters of a name. -/
def letL : List UInt8 := [97, 98, 99, 100, 101, 102, 103, 104, 105, 106, 107, 108, 109, 110, 111, 112, 113, 114, 115, 116, 117, 118, 119, 120, 121, 122, 48, 49, 50, 51, 52, 53, 54, 55, 56, 57, 95]
theorem letL_has (c : UInt8) : letL.contains c = letB c := by
  have h : ∀ n, n < 256 → letL.contains (UInt8.ofNat n) = letB (UInt8.ofNat n) := by decide +kernel
  have := h c.toNat c.toNat_lt
  rwa [UInt8.ofNat_toNat] at this
theorem dropWhile_nil {p : UInt8 → Bool} : ∀ l : List UInt8, l.dropWhile p = [] ↔ l.all p = true
  | [] => by simp
  | c :: l => by
    rw [List.dropWhile_cons, List.all_cons]
    by_cases h : p c = true
    · rw [if_pos h, h, Bool.true_and]; exact dropWhile_nil l
    · rw [if_neg h]; simp [h]
theorem dropWhile_all {p : UInt8 → Bool} : ∀ l : List UInt8, (l.dropWhile p).all p = l.all p
  | [] => rfl
  | c :: l => by
    rw [List.dropWhile_cons]
    by_cases h : p c = true
    · rw [if_pos h, List.all_cons, h, Bool.true_and]; exact dropWhile_all l
    · rw [if_neg h]
theorem trim_nil (s : List UInt8) : Lib.trimS s letL = [] ↔ s.all letB = true := by
  have e : (fun b => letL.contains b) = letB := funext letL_has
  unfold Lib.trimS Lib.trimLeftS Lib.trimRightS
  rw [e, dropWhile_nil, List.all_reverse, dropWhile_all, List.all_reverse]
theorem nameB_short {s : List UInt8} (h : ¬ 1 ≤ s.length) : nameB s = false := by unfold nameB; simp; omega
theorem nameB_long {s : List UInt8} (h : ¬ s.length ≤ 20) : nameB s = false := by unfold nameB; simp; omega
theorem nameB_all {s : List UInt8} (h1 : 1 ≤ s.length) (h2 : s.length ≤ 20) : nameB s = s.all letB := by unfold nameB; simp [h1, h2]
theorem all_at {f : UInt8 → Bool} {s : List UInt8} {j : Nat} (hj : j < s.length) (h : (s.take j).all f = true) (hx : f s[j] = true) : (s.take (j + 1)).all f = true := by
  rw [List.take_add_one, List.getElem?_eq_getElem hj, List.all_append, h]; simpa using hx
theorem all_not {f : UInt8 → Bool} {s : List UInt8} {j : Nat} (hj : j < s.length) (hx : f s[j] = false) : s.all f = false := by
  rw [List.all_eq_false]; exact ⟨s[j], List.getElem_mem hj, by simp [hx]⟩
end Fm
