/- The reference's reader of a list, round for round: plain facts. No program is imported. -/
import Derived.Test.YtnbalamacpcanaaDoorTreeR
namespace Fm
open Go Go.RowKit

/-- l is read; ys is behind it. -/
def RL (f : List UInt8 → Option (Tr × List UInt8)) (c : Nat) (x : Option (List Tr × List UInt8)) (l : List Tr) (ys : List UInt8) : Prop :=
  x = match rreadL f (c - l.length) (1 + partsL l) ys with
    | none => none
    | some (ts, r) => some (l ++ ts, r)
theorem RL.start (f : List UInt8 → Option (Tr × List UInt8)) (c : Nat) (ys : List UInt8) : RL f c (rreadL f c 1 ys) [] ys := by
  unfold RL
  rw [partsL_nil, List.length_nil, Nat.sub_zero]
  cases rreadL f c (1 + 0) ys with
  | none => rfl
  | some p => rfl
theorem RL.none {f : List UInt8 → Option (Tr × List UInt8)} {c : Nat} {x : Option (List Tr × List UInt8)} {l : List Tr} {ys : List UInt8} (h : RL f c x l ys) (hl : l.length < c) (hf : f ys = .none) : x = .none := by
  unfold RL at h
  obtain ⟨m, hm⟩ : ∃ m, c - l.length = m + 1 := ⟨c - l.length - 1, by omega⟩
  rw [hm, rreadL, hf] at h
  exact h
theorem RL.big {f : List UInt8 → Option (Tr × List UInt8)} {c : Nat} {x : Option (List Tr × List UInt8)} {l : List Tr} {ys r : List UInt8} {t : Tr} (h : RL f c x l ys) (hl : l.length < c) (hf : f ys = some (t, r)) (hb : 200 < 1 + partsL l + partsT t) : x = .none := by
  unfold RL at h
  obtain ⟨m, hm⟩ : ∃ m, c - l.length = m + 1 := ⟨c - l.length - 1, by omega⟩
  rw [hm, rreadL, hf] at h
  simp only at h
  rw [if_pos hb] at h
  exact h
theorem RL.next {f : List UInt8 → Option (Tr × List UInt8)} {c : Nat} {x : Option (List Tr × List UInt8)} {l : List Tr} {ys r : List UInt8} {t : Tr} (h : RL f c x l ys) (hl : l.length < c) (hf : f ys = some (t, r)) (hb : ¬ 200 < 1 + partsL l + partsT t) : RL f c x (l ++ [t]) r := by
  unfold RL at *
  obtain ⟨m, hm⟩ : ∃ m, c - l.length = m + 1 := ⟨c - l.length - 1, by omega⟩
  rw [hm, rreadL, hf] at h
  simp only at h
  rw [if_neg hb] at h
  have e : c - (l ++ [t]).length = m := by rw [List.length_append, List.length_singleton]; omega
  have e2 : 1 + partsL (l ++ [t]) = 1 + partsL l + partsT t := by rw [partsL_append, partsL_cons, partsL_nil]; omega
  rw [e, e2, h]
  cases rreadL f m (1 + partsL l + partsT t) r with
  | none => rfl
  | some p => simp
theorem RL.done {f : List UInt8 → Option (Tr × List UInt8)} {c : Nat} {x : Option (List Tr × List UInt8)} {l : List Tr} {ys : List UInt8} (h : RL f c x l ys) (hl : l.length = c) : x = some (l, ys) := by
  unfold RL at h
  rw [hl, Nat.sub_self, rreadL] at h
  simpa using h
end Fm
