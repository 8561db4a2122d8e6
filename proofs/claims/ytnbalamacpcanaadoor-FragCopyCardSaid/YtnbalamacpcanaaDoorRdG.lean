/- What frag's reader reads is what the bytes say: plain facts. No program is imported. -/
import Derived.Test.YtnbalamacpcanaaDoorRdF
namespace Fm
open Go Go.RowKit

/-- f reads as g does. -/
def Reads2 {α : Type} (f : Option (List UInt8) → α × Option (List UInt8)) (g : List UInt8 → Option (α × List UInt8)) : Prop :=
  (f none).2 = none ∧ ∀ xs, match g xs with | some (x, r) => f (some xs) = (x, some r) | none => (f (some xs)).2 = none
theorem reads2_text : Reads2 textS (hdX 20) := by
  refine ⟨rfl, fun xs => ?_⟩
  cases h : hdX 20 xs with
  | none => simp only; rw [textS_bad h]
  | some p => obtain ⟨t, r⟩ := p; simp only; exact textS_some h
theorem reads2_num (high : Int) : Reads2 (numS high) (hdB high) := by
  refine ⟨rfl, fun xs => ?_⟩
  cases h : hdB high xs with
  | none => simp only; rw [numS_bad h]
  | some p => obtain ⟨t, r⟩ := p; simp only; exact numS_some h
theorem loopS_none {α : Type} {f : Option (List UInt8) → α × Option (List UInt8)} (hf : (f none).2 = none) : ∀ (n : Nat) (acc : List α), loopS f n acc none = (acc, none)
  | 0, acc => rfl
  | n + 1, acc => by
    rw [loopS, hf]
    exact loopS_none hf n acc
theorem loopS_some {α : Type} {f : Option (List UInt8) → α × Option (List UInt8)} {g : List UInt8 → Option (α × List UInt8)} (hf : Reads2 f g) : ∀ (n : Nat) (acc : List α) (xs : List UInt8),
    match readM g n xs with | some (l, r) => loopS f n acc (some xs) = (acc ++ l, some r) | none => (loopS f n acc (some xs)).2 = none
  | 0, acc, xs => by
    rw [readM, loopS]; simp
  | n + 1, acc, xs => by
    have h := hf.2 xs
    rw [readM, loopS]
    cases hg : g xs with
    | none =>
      rw [hg] at h
      simp only at h
      simp only [Option.bind_none]
      rw [h, loopS_none hf.1]
    | some p =>
      obtain ⟨x, r⟩ := p
      rw [hg] at h
      simp only at h
      rw [Option.bind_some, h]
      simp only [Option.isNone_some, Bool.false_eq_true, if_false]
      have ih := loopS_some hf n (acc ++ [x]) r
      cases hm : readM g n r with
      | none => rw [hm] at ih; simp only [Option.map_none]; exact ih
      | some q =>
        obtain ⟨l, r2⟩ := q
        rw [hm] at ih
        simp only [Option.map_some]
        rw [ih, List.append_assoc]; rfl
theorem reads2_many {α : Type} {f : Option (List UInt8) → α × Option (List UInt8)} {g : List UInt8 → Option (α × List UInt8)} (high : Int) (hf : Reads2 f g) :
    Reads2 (manyS high f) (fun xs => (hdB high xs).bind fun p => readM g p.1.toNat p.2) := by
  refine ⟨?_, fun xs => ?_⟩
  · unfold manyS; rw [numS_none, loopS_none hf.1]
  · have h := (reads2_num high).2 xs
    unfold manyS
    dsimp only
    cases hb : hdB high xs with
    | none =>
      rw [hb] at h
      simp only [Option.bind_none]
      simp only at h
      rw [h, loopS_none hf.1]
    | some p =>
      obtain ⟨n, r⟩ := p
      rw [hb] at h
      simp only at h
      rw [Option.bind_some, h]
      simp only
      have := loopS_some hf n.toNat [] r
      cases hm : readM g n.toNat r with
      | none => rw [hm] at this; exact this
      | some q =>
        obtain ⟨l, r2⟩ := q
        rw [hm] at this
        simp only at this ⊢
        rw [this, List.nil_append]
theorem manyText_none : (manyS 20 textS none) = ([], none) := rfl
theorem reads2_item : Reads2 itemS readR := by
  refine ⟨rfl, fun xs => ?_⟩
  have hA := reads2_text.2 xs
  unfold readR readI itemS
  cases ha : hdX 20 xs with
  | none =>
    rw [ha] at hA
    simp only at hA
    simp only [Option.bind_none]
    rw [hA, numS_none, manyText_none, numS_none]
    rfl
  | some p =>
    obtain ⟨nm, r1⟩ := p
    rw [ha] at hA
    simp only at hA
    rw [hA]
    simp only [Option.bind_some]
    have hB := (reads2_num 1).2 r1
    cases hb : hdB 1 r1 with
    | none =>
      rw [hb] at hB
      simp only at hB
      have e : numS 1 (some r1) = (0, none) := numS_bad hb
      simp only [Option.bind_none]
      rw [e, manyText_none, numS_none]
      rfl
    | some p =>
      obtain ⟨kd, r2⟩ := p
      rw [hb] at hB
      simp only at hB
      rw [hB]
      simp only [Option.bind_some]
      obtain ⟨k0, k1, _⟩ := hdB_inv hb
      have hC := (reads2_many 20 reads2_text).2 r2
      dsimp only at hC
      cases hc : hdB 20 r2 with
      | none =>
        rw [hc] at hC
        simp only [Option.bind_none] at hC ⊢
        have e : ∀ l s, manyS 20 textS (some r2) = (l, s) → s = none := fun l s h => by rw [h] at hC; exact hC
        obtain ⟨l, s⟩ : ∃ l s, manyS 20 textS (some r2) = (l, s) := ⟨_, _, rfl⟩
        obtain ⟨s, hl⟩ := s
        obtain rfl := e _ _ hl
        rw [hl, numS_none]
        simp only
        by_cases h1 : kd = 1
        · rw [if_pos h1, if_pos h1, textS_none, numS_none]; rfl
        · rw [if_neg h1, if_neg h1]; rfl
      | some p =>
        obtain ⟨mn, r3⟩ := p
        rw [hc] at hC
        simp only [Option.bind_some] at hC ⊢
        cases hd : readM (hdX 20) mn.toNat r3 with
        | none =>
          rw [hd] at hC
          simp only [Option.bind_none] at hC ⊢
          have e : ∀ l s, manyS 20 textS (some r2) = (l, s) → s = none := fun l s h => by rw [h] at hC; exact hC
          obtain ⟨l, s⟩ : ∃ l s, manyS 20 textS (some r2) = (l, s) := ⟨_, _, rfl⟩
          obtain ⟨s, hl⟩ := s
          obtain rfl := e _ _ hl
          rw [hl, numS_none]
          simp only
          by_cases h1 : kd = 1
          · rw [if_pos h1, if_pos h1, textS_none, numS_none]; rfl
          · rw [if_neg h1, if_neg h1]; rfl
        | some p =>
          obtain ⟨af, r4⟩ := p
          rw [hd] at hC
          simp only [Option.bind_some] at hC ⊢
          rw [hC]
          simp only
          cases he : hdB 400 r4 with
          | none =>
            rw [numS_bad he]
            simp only [Option.bind_none]
            by_cases h1 : kd = 1
            · rw [if_pos h1, if_pos h1, textS_none, numS_none]; rfl
            · rw [if_neg h1, if_neg h1]; rfl
          | some p =>
            obtain ⟨qu, r5⟩ := p
            rw [numS_some he]
            simp only [Option.bind_some]
            by_cases h1 : kd = 1
            · subst h1
              rw [if_pos rfl, if_pos rfl, if_neg (by decide)]
              cases hf : hdX 20 r5 with
              | none => rw [textS_bad hf, numS_none]; rfl
              | some p =>
                obtain ⟨ov, r6⟩ := p
                rw [textS_some hf]
                simp only [Option.bind_some]
                cases hg : hdB 40 r6 with
                | none => rw [numS_bad hg]; rfl
                | some p =>
                  obtain ⟨wd, r7⟩ := p
                  rw [numS_some hg]
                  simp only [Option.bind_some]
                  rw [show UInt8.ofNat (Int.toNat 1) = 1 from rfl]
                  by_cases hi : itB ⟨nm, 1, af, ov, wd, qu⟩ = true
                  · rw [if_pos hi]
                    show ((⟨nm, 1, af, ov, wd, qu⟩ : It), if (false || !itB ⟨nm, 1, af, ov, wd, qu⟩) = true then none else some r7) = _
                    rw [hi]; rfl
                  · rw [if_neg hi]
                    show (if (false || !itB ⟨nm, 1, af, ov, wd, qu⟩) = true then none else some r7) = none
                    rw [Bool.not_eq_true] at hi
                    rw [hi]; rfl
            · obtain rfl : kd = 0 := by omega
              rw [if_pos (rfl : (0 : Int) = 0)]
              simp only [Option.bind_some, if_neg (show ¬ (0 : Int) = 1 by decide)]
              rw [show UInt8.ofNat (Int.toNat 0) = 0 from rfl]
              by_cases hi : itB ⟨nm, 0, af, [], 0, qu⟩ = true
              · rw [if_pos hi]
                show ((⟨nm, 0, af, [], 0, qu⟩ : It), if (false || !itB ⟨nm, 0, af, [], 0, qu⟩) = true then none else some r5) = _
                rw [hi]; rfl
              · rw [if_neg hi]
                show (if (false || !itB ⟨nm, 0, af, [], 0, qu⟩) = true then none else some r5) = none
                rw [Bool.not_eq_true] at hi
                rw [hi]; rfl
theorem fragS_some {xs r : List UInt8} {l : List It} (h : takeF xs = some (l, r)) : fragS (some xs) = (l, some r) := by
  have := (reads2_many 40 reads2_item).2 xs
  dsimp only at this
  have e : ((hdB 40 xs).bind fun p => readM readR p.1.toNat p.2) = some (l, r) := h
  rw [e] at this
  exact this
theorem fragS_none {xs : List UInt8} (h : takeF xs = none) : (fragS (some xs)).2 = none := by
  have := (reads2_many 40 reads2_item).2 xs
  dsimp only at this
  have e : ((hdB 40 xs).bind fun p => readM readR p.1.toNat p.2) = none := h
  rw [e] at this
  exact this
end Fm
