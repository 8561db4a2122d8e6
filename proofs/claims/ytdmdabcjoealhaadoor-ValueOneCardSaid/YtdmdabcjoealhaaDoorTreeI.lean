/- Unlike values are shown unlike: plain facts. No program is imported. -/
import Derived.Test.YtdmdabcjoealhaaDoorTreeS
namespace Fm
open Go Go.RowKit

theorem split_eq (p : UInt8 → Bool) : ∀ (xs ys r s : List UInt8), xs.all p = true → ys.all p = true → (∀ c t, r = c :: t → p c = false) → (∀ c t, s = c :: t → p c = false) → xs ++ r = ys ++ s → xs = ys ∧ r = s
  | [], [], r, s, _, _, _, _, h => ⟨rfl, h⟩
  | [], y :: ys, r, s, _, hy, hr, _, h => by
    simp only [List.nil_append, List.cons_append] at h
    have := hr _ _ h
    simp only [List.all_cons, Bool.and_eq_true] at hy
    rw [hy.1] at this; cases this
  | x :: xs, [], r, s, hx, _, _, hs, h => by
    simp only [List.nil_append, List.cons_append] at h
    have := hs _ _ h.symm
    simp only [List.all_cons, Bool.and_eq_true] at hx
    rw [hx.1] at this; cases this
  | x :: xs, y :: ys, r, s, hx, hy, hr, hs, h => by
    simp only [List.cons_append] at h
    injection h with h1 h2
    simp only [List.all_cons, Bool.and_eq_true] at hx hy
    obtain ⟨e1, e2⟩ := split_eq p xs ys r s hx.2 hy.2 hr hs h2
    exact ⟨by rw [h1, e1], e2⟩

/-! Numbers -/
def digC (c : UInt8) : Bool := decide (48 ≤ c.toNat ∧ c.toNat ≤ 57)
def numC (c : UInt8) : Bool := digC c || decide (c = 45)
theorem dig_of {u : Nat} (h : u < 10) : digC (UInt8.ofNat (48 + u)) = true ∧ (UInt8.ofNat (48 + u)).toNat - 48 = u := by
  have e : (UInt8.ofNat (48 + u)).toNat = 48 + u := by rw [UInt8.toNat_ofNat']; omega
  constructor
  · unfold digC; rw [e]; simp; omega
  · rw [e]; omega
theorem decDigits_dig : ∀ (k u : Nat), u ≤ k → (Lib.decDigits u).all digC = true := by
  intro k
  induction k using Nat.strongRecOn with
  | _ k ih =>
  intro u hu
  rw [Lib.decDigits]
  split
  · rename_i h; rw [List.all_cons, (dig_of h).1]; rfl
  · rw [List.all_append, ih (u / 10) (by omega) (u / 10) (Nat.le_refl _)]
    rw [List.all_cons, (dig_of (show u % 10 < 10 by omega)).1]; rfl
def valD (xs : List UInt8) : Nat := xs.foldl (fun a c => a * 10 + (c.toNat - 48)) 0
theorem valD_dec : ∀ (k u : Nat), u ≤ k → valD (Lib.decDigits u) = u := by
  intro k
  induction k using Nat.strongRecOn with
  | _ k ih =>
  intro u hu
  rw [Lib.decDigits]
  split
  · rename_i h; simp only [valD, List.foldl_cons, List.foldl_nil]; rw [(dig_of h).2]; omega
  · have h1 := ih (u / 10) (by omega) (u / 10) (Nat.le_refl _)
    have h2 := (dig_of (show u % 10 < 10 by omega)).2
    unfold valD at *
    rw [List.foldl_append, h1]
    simp only [List.foldl_cons, List.foldl_nil]
    rw [h2]; omega
theorem decDigits_inj {u v : Nat} (h : Lib.decDigits u = Lib.decDigits v) : u = v := by
  rw [← valD_dec u u (Nat.le_refl _), h, valD_dec v v (Nat.le_refl _)]
theorem decDigits_head (u : Nat) : ∃ c cs, Lib.decDigits u = c :: cs ∧ digC c = true := by
  have h := decDigits_dig u u (Nat.le_refl _)
  have hl := Lib.decDigits_length u
  have hp := Lib.nDigits_pos u
  cases e : Lib.decDigits u with
  | nil => rw [e] at hl; simp at hl; omega
  | cons c cs =>
    rw [e] at h
    simp only [List.all_cons, Bool.and_eq_true] at h
    exact ⟨c, cs, rfl, h.1⟩
theorem itoa_num (n : Int) : (Lib.itoa n).all numC = true := by
  have hd : ∀ u, (Lib.decDigits u).all numC = true := fun u => by
    rw [List.all_eq_true]
    intro c hc
    unfold numC
    rw [List.all_eq_true.1 (decDigits_dig u u (Nat.le_refl _)) c hc]; rfl
  unfold Lib.itoa
  split
  · rw [List.all_cons, hd]; rfl
  · exact hd _
theorem itoa_head (n : Int) : ∃ c cs, Lib.itoa n = c :: cs ∧ numC c = true := by
  have h := itoa_num n
  cases e : Lib.itoa n with
  | nil =>
    exfalso
    unfold Lib.itoa at e
    split at e
    · cases e
    · obtain ⟨c, cs, h, _⟩ := decDigits_head n.toNat; rw [h] at e; cases e
  | cons c cs =>
    rw [e] at h
    simp only [List.all_cons, Bool.and_eq_true] at h
    exact ⟨c, cs, rfl, h.1⟩
theorem itoa_inj {n m : Int} (h : Lib.itoa n = Lib.itoa m) : n = m := by
  have hne : ∀ u cs, Lib.decDigits u ≠ 45 :: cs := fun u cs e => by
    obtain ⟨c, cs', h, hc⟩ := decDigits_head u
    rw [h] at e; injection e with e _
    subst e; revert hc; decide
  unfold Lib.itoa at h
  split at h <;> split at h
  · injection h with _ h; have := decDigits_inj h; omega
  · exact absurd h.symm (hne _ _)
  · exact absurd h (hne _ _)
  · have := decDigits_inj h; omega

/-! Texts -/
theorem hexd_fin : ∀ a : Fin 16, hexd a.val ≠ 34 := by decide
theorem hexd_inj_fin : ∀ a b : Fin 16, hexd a.val = hexd b.val → a = b := by decide
theorem hexd_inj {a b : Nat} (ha : a < 16) (hb : b < 16) (h : hexd a = hexd b) : a = b := by
  have := hexd_inj_fin ⟨a, ha⟩ ⟨b, hb⟩ h
  exact congrArg Fin.val this
theorem plainC_ne {c : UInt8} (h : plainC c = true) : c ≠ 34 ∧ c ≠ 37 := by
  unfold plainC at h
  simp only [decide_eq_true_eq] at h
  constructor
  · intro e; subst e; exact h.2.2.1 rfl
  · intro e; subst e; exact h.2.2.2 rfl
theorem escC_no (c : UInt8) : (escC c).all (fun x => x != 34) = true := by
  unfold escC
  have := c.toNat_lt
  split
  · rename_i h; simp [(plainC_ne h).1]
  · have h1 := hexd_fin ⟨c.toNat / 16, by omega⟩
    have h2 := hexd_fin ⟨c.toNat % 16, by omega⟩
    simp only [List.all_cons, List.all_nil, Bool.and_true, Bool.and_eq_true, bne_iff_ne]
    exact ⟨by decide, h1, h2⟩
theorem escB_no : ∀ s : List UInt8, (escB s).all (fun x => x != 34) = true
  | [] => rfl
  | c :: s => by
    have e : escB (c :: s) = escC c ++ escB s := by simp [escB]
    rw [e, List.all_append, escC_no, escB_no s]; rfl
theorem escC_inj {c d : UInt8} {r s : List UInt8} (h : escC c ++ r = escC d ++ s) : c = d ∧ r = s := by
  have hc := c.toNat_lt
  have hd := d.toNat_lt
  unfold escC at h
  split at h <;> split at h
  · rename_i h1 h2
    simp only [List.cons_append, List.nil_append] at h
    injection h with e1 e2
    exact ⟨e1, e2⟩
  · rename_i h1 h2
    simp only [List.cons_append, List.nil_append] at h
    injection h with e1 e2
    exact absurd e1 (plainC_ne h1).2
  · rename_i h1 h2
    simp only [List.cons_append, List.nil_append] at h
    injection h with e1 e2
    exact absurd e1.symm (plainC_ne h2).2
  · simp only [List.cons_append, List.nil_append] at h
    injection h with _ h
    injection h with e1 h
    injection h with e2 h
    have a1 := hexd_inj (by omega) (by omega) e1
    have a2 := hexd_inj (by omega) (by omega) e2
    exact ⟨UInt8.toNat_inj.1 (by omega), h⟩
theorem escC_cons (c : UInt8) : ∃ x xs, escC c = x :: xs := by unfold escC; split <;> exact ⟨_, _, rfl⟩
theorem escB_inj : ∀ {s t : List UInt8}, escB s = escB t → s = t
  | [], [], _ => rfl
  | [], d :: t, h => by
    have e : escB (d :: t) = escC d ++ escB t := by simp [escB]
    obtain ⟨x, xs, hx⟩ := escC_cons d
    rw [e, hx] at h; cases h
  | c :: s, [], h => by
    have e : escB (c :: s) = escC c ++ escB s := by simp [escB]
    obtain ⟨x, xs, hx⟩ := escC_cons c
    rw [e, hx] at h; cases h
  | c :: s, d :: t, h => by
    have e1 : escB (c :: s) = escC c ++ escB s := by simp [escB]
    have e2 : escB (d :: t) = escC d ++ escB t := by simp [escB]
    rw [e1, e2] at h
    obtain ⟨a, b⟩ := escC_inj h
    rw [a, escB_inj b]

/-! Values -/
/-- What may stand behind a value's text. -/
def Ends (r : List UInt8) : Prop := ∀ c t, r = c :: t → c = 44 ∨ c = 93
theorem Ends.num {r : List UInt8} (h : Ends r) : ∀ c t, r = c :: t → numC c = false := by
  intro c t e
  rcases h c t e with rfl | rfl <;> decide
def tailB (l : List Tr) : List UInt8 := (l.map showT).flatMap fun y => 44 :: y
theorem showL_cons (t : Tr) (l : List Tr) : showL (t :: l) = showT t ++ tailB l := rfl
theorem tailB_cons (t : Tr) (l : List Tr) : tailB (t :: l) = 44 :: (showT t ++ tailB l) := by simp [tailB]
theorem tail_ends (l : List Tr) (r : List UInt8) : Ends (tailB l ++ 93 :: r) := by
  intro c t e
  cases l with
  | nil => simp [tailB] at e; exact .inr e.1.symm
  | cons x xs => rw [tailB_cons] at e; injection e with e _; exact .inl e.symm
theorem showT_head (t : Tr) : ∃ c cs, showT t = c :: cs ∧ c ≠ 93 := by
  obtain ⟨k, n, s, l⟩ := t
  rw [showT_node]
  split
  · obtain ⟨c, cs, h, hc⟩ := itoa_head n
    exact ⟨c, cs, h, fun e => by subst e; revert hc; decide⟩
  · split
    · exact ⟨_, _, rfl, by decide⟩
    · exact ⟨_, _, rfl, by decide⟩
theorem show_tails {l : List Tr} (ih : ∀ t, t ∈ l → ∀ (u : Tr) (r s : List UInt8), kindsT t = true → kindsT u = true → Ends r → Ends s → showT t ++ r = showT u ++ s → t = u ∧ r = s) :
    ∀ (m : List Tr) (r s : List UInt8), l.all kindsT = true → m.all kindsT = true → tailB l ++ 93 :: r = tailB m ++ 93 :: s → l = m ∧ r = s := by
  induction l with
  | nil =>
    intro m r s _ _ h
    cases m with
    | nil => simp [tailB] at h; exact ⟨rfl, h⟩
    | cons y ys => rw [tailB_cons] at h; injection h with h _; exact absurd h (by decide)
  | cons x xs iht =>
    intro m r s hl hm h
    cases m with
    | nil => rw [tailB_cons] at h; injection h with h _; exact absurd h (by decide)
    | cons y ys =>
      rw [tailB_cons, tailB_cons, List.cons_append, List.cons_append, List.append_assoc, List.append_assoc] at h
      injection h with _ h
      rw [List.all_cons, Bool.and_eq_true] at hl hm
      obtain ⟨rfl, h2⟩ := ih x (List.mem_cons_self ..) y _ _ hl.1 hm.1 (tail_ends _ _) (tail_ends _ _) h
      obtain ⟨rfl, h3⟩ := iht (fun t ht => ih t (List.mem_cons_of_mem _ ht)) ys r s hl.2 hm.2 h2
      exact ⟨rfl, h3⟩
theorem show_inj (t : Tr) : ∀ (u : Tr) (r s : List UInt8), kindsT t = true → kindsT u = true → Ends r → Ends s → showT t ++ r = showT u ++ s → t = u ∧ r = s := by
  induction t using Tr.ind with
  | h k n x l ih =>
  intro u r s ht hu hr hs h
  obtain ⟨k', n', x', l'⟩ := u
  rw [kindsT_node, Bool.and_eq_true] at ht hu
  rw [showT_node, showT_node] at h
  obtain ⟨c, cs, hi, hc⟩ := itoa_head n
  obtain ⟨c', cs', hi', hc'⟩ := itoa_head n'
  have num34 : ∀ c : UInt8, numC c = true → c ≠ 34 := fun c h e => by subst e; revert h; decide
  have num91 : ∀ c : UInt8, numC c = true → c ≠ 91 := fun c h e => by subst e; revert h; decide
  by_cases k0 : k = 0
  · rw [if_pos k0] at h
    obtain ⟨rfl, hm⟩ := plainB_zero ht.1 k0
    obtain rfl := List.eq_nil_of_length_eq_zero hm
    by_cases k0' : k' = 0
    · rw [if_pos k0'] at h
      obtain ⟨rfl, hm'⟩ := plainB_zero hu.1 k0'
      obtain rfl := List.eq_nil_of_length_eq_zero hm'
      obtain ⟨e1, e2⟩ := split_eq numC _ _ _ _ (itoa_num n) (itoa_num n') hr.num hs.num h
      exact ⟨by rw [k0, k0', itoa_inj e1], e2⟩
    · rw [if_neg k0', hi] at h
      exfalso
      split at h
      · injection h with h _; exact num34 c hc h
      · injection h with h _; exact num91 c hc h
  · rw [if_neg k0] at h
    by_cases k0' : k' = 0
    · rw [if_pos k0', hi'] at h
      exfalso
      split at h
      · injection h with h _; exact num34 c' hc' h.symm
      · injection h with h _; exact num91 c' hc' h.symm
    · rw [if_neg k0'] at h
      by_cases k1 : k = 1
      · rw [if_pos k1] at h
        by_cases k1' : k' = 1
        · rw [if_pos k1'] at h
          obtain ⟨rfl, hm, _⟩ := plainB_one ht.1 k1
          obtain ⟨rfl, hm', _⟩ := plainB_one hu.1 k1'
          obtain rfl := List.eq_nil_of_length_eq_zero hm
          obtain rfl := List.eq_nil_of_length_eq_zero hm'
          simp only [List.cons_append, List.append_assoc, List.nil_append] at h
          injection h with _ h
          obtain ⟨e1, e2⟩ := split_eq (fun x => x != 34) _ _ (34 :: r) (34 :: s) (escB_no x) (escB_no x') (fun c t e => by injection e with e _; subst e; rfl) (fun c t e => by injection e with e _; subst e; rfl) h
          injection e2 with _ e2
          exact ⟨by rw [k1, k1', escB_inj e1], e2⟩
        · rw [if_neg k1'] at h
          injection h with h _
          exact absurd h (by decide)
      · rw [if_neg k1] at h
        by_cases k1' : k' = 1
        · rw [if_pos k1'] at h
          injection h with h _
          exact absurd h (by decide)
        · rw [if_neg k1'] at h
          obtain ⟨rfl, rfl, rfl, _⟩ := plainB_two ht.1 k0 k1
          obtain ⟨rfl, rfl, rfl, _⟩ := plainB_two hu.1 k0' k1'
          simp only [List.cons_append, List.append_assoc, List.nil_append] at h
          injection h with _ h
          have key : l = l' ∧ r = s := by
            cases l with
            | nil =>
              cases l' with
              | nil => rw [showL_nil] at h; injection h with _ h; exact ⟨rfl, h⟩
              | cons y ys =>
                exfalso
                obtain ⟨c, cs, hy, hc⟩ := showT_head y
                rw [showL_nil, showL_cons, hy] at h
                injection h with h _
                exact hc h.symm
            | cons z zs =>
              cases l' with
              | nil =>
                exfalso
                obtain ⟨c, cs, hy, hc⟩ := showT_head z
                rw [showL_nil, showL_cons, hy] at h
                injection h with h _
                exact hc h
              | cons y ys =>
                rw [showL_cons, showL_cons, List.append_assoc, List.append_assoc] at h
                have hl := ht.2
                have hm := hu.2
                rw [List.all_cons, Bool.and_eq_true] at hl hm
                obtain ⟨rfl, h2⟩ := ih z (List.mem_cons_self ..) y _ _ hl.1 hm.1 (tail_ends _ _) (tail_ends _ _) h
                obtain ⟨rfl, h3⟩ := show_tails (fun t ht => ih t (List.mem_cons_of_mem _ ht)) ys r s hl.2 hm.2 h2
                exact ⟨rfl, h3⟩
          exact ⟨by rw [key.1], key.2⟩
/-- Unlike right values are shown unlike. -/
theorem showT_inj {t u : Tr} (ht : rightT t = true) (hu : rightT u = true) (h : showT t = showT u) : t = u := by
  refine (show_inj t u [] [] (rightT_iff.1 ht).1 (rightT_iff.1 hu).1 (fun c t e => by cases e) (fun c t e => by cases e) (by rw [h])).1
end Fm
