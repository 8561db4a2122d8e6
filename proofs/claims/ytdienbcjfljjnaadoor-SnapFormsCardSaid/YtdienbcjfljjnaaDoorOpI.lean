/- An id's text, rune by rune: plain facts. No program is imported. -/
import Derived.Test.YtdienbcjfljjnaaDoorPlO
import Derived.Shelf.GgClosure.StringsIndexFuncTop
import Derived.Lib.SpaceUEq
namespace Fm
open Go Go.RowKit

/-- What is no byte of an id, by its rune. -/
def notC (r : Nat) : Bool := decide (r < 33) || decide (126 < r)
theorem notC_byte {b : UInt8} (h : b.toNat < 128) : notC b.toNat = !idC b := by
  unfold notC idC
  rw [Bool.eq_iff_iff]
  simp only [Bool.or_eq_true, decide_eq_true_eq, Bool.not_eq_true', Bool.and_eq_false_iff, decide_eq_false_iff_not]
  omega
theorem decode_str (s : List UInt8) (pos : Nat) (h : pos < s.length) :
    (s[pos].toNat < 128 ∧ Utf8.decode (str s) pos = (s[pos].toNat, 1)) ∨ (128 ≤ s[pos].toNat ∧ 128 ≤ (Utf8.decode (str s) pos).1) := by
  have e : (str s).data.toList = s := by simp [str]
  rw [Lib.decode_N, e]
  have g : s.getD pos 0 = s[pos] := by simp [List.getD, h]
  rw [g]
  by_cases hb : s[pos].toNat < 128
  · exact .inl ⟨hb, by simp [Lib.decodeN, hb]⟩
  · refine .inr ⟨by omega, ?_⟩
    rcases Lib.decodeN_cases (s.length - pos) s[pos].toNat (s.getD (pos + 1) 0).toNat (s.getD (pos + 2) 0).toNat (s.getD (pos + 3) 0).toNat with ⟨c, e⟩ | ⟨_, _, _, c, e⟩ | ⟨_, _, _, _, c, e⟩ | ⟨c, _⟩ | e
    · omega
    · rw [e]; exact c
    · rw [e]; show 128 ≤ _; omega
    · omega
    · rw [e]; show 128 ≤ 65533; omega
theorem idx_from (s : List UInt8) : ∀ (f pos : Nat), s.length ≤ pos + f → (0 ≤ Lib.idxFuncFrom notC true (str s) f pos ↔ (s.drop pos).all idC = false)
  | 0, pos, h => by
    rw [Lib.idxFuncFrom, List.drop_eq_nil_of_le (by omega)]
    simp
  | f + 1, pos, h => by
    rw [Lib.idxFuncFrom, str_size]
    by_cases hp : pos < s.length
    · rw [if_pos hp, List.drop_eq_getElem_cons hp, List.all_cons]
      rcases decode_str s pos hp with ⟨c, e⟩ | ⟨c, e⟩
      · rw [e]
        simp only
        rw [notC_byte c]
        cases hi : idC s[pos] with
        | true =>
          simp only [Bool.not_true, Bool.false_eq_true, if_false, Bool.true_and]
          exact idx_from s f (pos + 1) (by omega)
        | false => simp
      · have hn : notC (Utf8.decode (str s) pos).1 = true := by unfold notC; simp; omega
        have hi : idC s[pos] = false := by unfold idC; simp; omega
        rw [if_pos hn, hi]
        simp
    · rw [if_neg hp, List.drop_eq_nil_of_le (by omega)]
      simp
theorem idx_id (s : List UInt8) : decide (0 ≤ Lib.idxFunc notC true (str s)) = !(s.all idC) := by
  have := idx_from s (str s).size 0 (by rw [str_size]; omega)
  rw [List.drop_zero] at this
  unfold Lib.idxFunc
  cases h : s.all idC with
  | true => rw [h] at this; simpa using this
  | false => rw [h] at this; simpa using this
end Fm
