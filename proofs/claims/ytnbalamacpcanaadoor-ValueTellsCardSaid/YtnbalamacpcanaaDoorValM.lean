/- Walks: the reader's value, whatever is read; Take; Parse. -/
import Derived.Test.YtnbalamacpcanaaDoorValL
import Derived.Defers
import Derived.Recover
open Go.RowKit Go.Shelf
namespace Go.Proofs.YtnbalamacpcanaaDoor
open Go Go.Proofs Fm

theorem ValOK.cast {w0 w : World} {R : Nat} {t : Tr} {xs : List UInt8} {m m' : Int} {e : Ending} {w' : World} (h : ValOK w0 w R t xs m e w') (hm : m = m') : ValOK w0 w R t xs m' e w' := by subst hm; exact h

theorem value_any (d : Nat) : d ≤ 100 → ∀ (D : Int) (w0 w : World) (R : Nat) (v : Value) (xs : List UInt8) (m : Nat), Hid (D = d) → RdAt w0 w R v xs m → m ≤ 1000 →
    Calls Tryd.prog 76 #[.pointer (some ⟨R, 0, none⟩), .int .i64 D] w (ValPost w0 w R (readT d m xs)) := by
  induction d with
  | zero =>
    intro _ D w0 w R v xs m hD h hm
    have hD0 : D = 0 := hD.out
    rw [readT_zero]
    cases hN : takeN xs with
    | none => exact value_bad D h (fun n k h => by rw [hN] at h; cases h)
    | some p =>
      obtain ⟨n, k⟩ := p
      by_cases hn : n < 0 ∨ 2 < n
      · exact value_bad D h (fun n' k' h => by rw [hN] at h; simp only [Option.some.injEq, Prod.mk.injEq] at h; omega)
      · exact value_room D (.inr hD0) hm h n k hN (by omega)
  | succ d ih =>
    intro hd D w0 w R v xs m hD h hm
    have hDv := hD.out
    cases hN : takeN xs with
    | none =>
      rw [readT_hd (hdN_none hN)]
      exact value_bad D h (fun n k h => by rw [hN] at h; cases h)
    | some p =>
      obtain ⟨n, k⟩ := p
      have hh := hdN_some hN
      by_cases hn : n < 0 ∨ 2 < n
      · rw [readT_bad hh (by omega)]
        exact value_bad D h (fun n' k' h => by rw [hN] at h; simp only [Option.some.injEq, Prod.mk.injEq] at h; omega)
      by_cases hm0 : m = 0
      · rw [readT_bad hh (by omega)]
        exact value_room D (.inl hm0) hm h n k hN (by omega)
      have hD1 : 0 < D := by omega
      have hm1 : 0 < m := by omega
      by_cases h0 : n = 0
      · subst h0
        rw [readT_num hh hm1 (by omega)]
        cases hN2 : takeN (xs.drop k) with
        | none => rw [hdN_none hN2]; exact value_num_no D hD1 hm1 hm h k hN hN2
        | some q =>
          obtain ⟨n2, k2⟩ := q
          rw [hdN_some hN2]
          exact (value_num D hD1 hm1 hm h k hN n2 k2 hN2).mono fun e w' h => h.cast (by omega)
      by_cases h1 : n = 1
      · subst h1
        rw [readT_text hh hm1 (by omega)]
        cases hN2 : takeT (xs.drop k) 100 with
        | none => rw [hdT_none hN2]; exact value_text_no D hD1 hm1 hm h k hN hN2
        | some q =>
          obtain ⟨k2, n2⟩ := q
          rw [hdT_some hN2]
          exact (value_text D hD1 hm1 hm h k hN k2 n2 hN2).mono fun e w' h => h.cast (by omega)
      · obtain rfl : n = 2 := by omega
        rw [readT_list hh hm1]
        cases hN2 : takeN (xs.drop k) with
        | none => rw [hdN_none hN2]; exact value_list_no D hD1 hm1 hm h k hN (fun n k h => by rw [hN2] at h; cases h)
        | some q =>
          obtain ⟨c, k2⟩ := q
          rw [hdN_some hN2]
          simp only
          by_cases hc : c < 0 ∨ 40 < c
          · rw [if_pos hc]
            exact value_list_no D hD1 hm1 hm h k hN (fun n' k' h => by rw [hN2] at h; simp only [Option.some.injEq, Prod.mk.injEq] at h; omega)
          · rw [if_neg hc]
            obtain ⟨c', rfl⟩ : ∃ c' : Nat, c = c' := ⟨c.toNat, by omega⟩
            rw [Int.toNat_natCast]
            exact value_list d (fun D w0 w R v xs m => ih (by omega) D w0 w R v xs m) D (Lib.hid (by omega)) hD1 (by omega) hm1 hm h k hN c' k2 hN2 (by omega) _ (Lib.hid rfl) (m - 1) (Lib.hid (by omega)) _ (Lib.hid rfl)
end Go.Proofs.YtnbalamacpcanaaDoor
