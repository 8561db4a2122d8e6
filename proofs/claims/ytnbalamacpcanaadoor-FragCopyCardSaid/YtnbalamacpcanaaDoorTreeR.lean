/- Reading a value off bytes: what the program's reader does, and what the reference's does: plain facts. No program is imported. -/
import Derived.Test.YtnbalamacpcanaaDoorTreeG
namespace Fm
open Go Go.RowKit

/-- The number at the head, and what is behind it. -/
def hdN (xs : List UInt8) : Option (Int × List UInt8) := (takeN xs).map fun p => (p.1, xs.drop p.2)
/-- The text at the head, and what is behind it. -/
def hdT (xs : List UInt8) : Option (List UInt8 × List UInt8) := (takeT xs 100).map fun p => ((xs.drop p.1).take p.2, (xs.drop p.1).drop p.2)

theorem hdN_none {xs : List UInt8} (h : takeN xs = none) : hdN xs = none := by unfold hdN; rw [h]; rfl
theorem hdN_some {xs : List UInt8} {n : Int} {k : Nat} (h : takeN xs = some (n, k)) : hdN xs = some (n, xs.drop k) := by unfold hdN; rw [h]; rfl
theorem hdT_none {xs : List UInt8} (h : takeT xs 100 = none) : hdT xs = none := by unfold hdT; rw [h]; rfl
theorem hdT_some {xs : List UInt8} {k n : Nat} (h : takeT xs 100 = some (k, n)) : hdT xs = some ((xs.drop k).take n, (xs.drop k).drop n) := by unfold hdT; rw [h]; rfl

theorem hdN_num {n : Int} (h : isI64 n) (r : List UInt8) : hdN (numB n ++ r) = some (n, r) := by
  rw [hdN_some (takeN_num h r), List.drop_left]
theorem hdN_inv {xs r : List UInt8} {n : Int} (h : hdN xs = some (n, r)) : isI64 n ∧ xs = numB n ++ r := by
  unfold hdN at h
  cases hN : takeN xs with
  | none => rw [hN] at h; cases h
  | some p =>
    obtain ⟨n', k⟩ := p
    rw [hN] at h
    simp only [Option.map_some, Option.some.injEq, Prod.mk.injEq] at h
    obtain ⟨rfl, rfl⟩ := h
    obtain ⟨h1, _, _, _, h5, _⟩ := takeN_inv hN
    exact ⟨h1, by rw [← h5, List.take_append_drop]⟩
theorem i64_len {n : Nat} (h : n ≤ 100) : isI64 (n : Int) := by unfold isI64; omega
theorem hdT_text {s : List UInt8} (h : s.length ≤ 100) (r : List UInt8) : hdT (textB s ++ r) = some (s, r) := by
  have hn : takeN (textB s ++ r) = some ((s.length : Int), (numB s.length).length) := by
    unfold textB; rw [List.append_assoc]; exact takeN_num (i64_len h) _
  have ht := takeT_some (top := 100) hn (by
    unfold textB; simp only [List.length_append]; omega)
  rw [hdT_some ht]
  simp [textB]
theorem hdT_inv {xs s r : List UInt8} (h : hdT xs = some (s, r)) : s.length ≤ 100 ∧ xs = textB s ++ r := by
  unfold hdT at h
  cases hT : takeT xs 100 with
  | none => rw [hT] at h; cases h
  | some p =>
    obtain ⟨k, n⟩ := p
    rw [hT] at h
    simp only [Option.map_some, Option.some.injEq, Prod.mk.injEq] at h
    obtain ⟨rfl, rfl⟩ := h
    obtain ⟨h1, h2, h3⟩ := takeT_inv hT
    have hl : ((xs.drop k).take n).length = n := by simp; omega
    obtain ⟨_, _, _, _, h5, _⟩ := takeN_inv h1
    refine ⟨by omega, ?_⟩
    unfold textB
    rw [hl, List.append_assoc, List.take_append_drop, ← h5, List.take_append_drop]

/-- All numbers are of 64 bits. -/
inductive NumsT : Tr → Prop where
  | node (k : UInt8) (n : Int) (s : List UInt8) (l : List Tr) (h : isI64 n) (hl : ∀ t, t ∈ l → NumsT t) : NumsT (.node k n s l)
theorem NumsT.num {k : UInt8} {n : Int} {s : List UInt8} {l : List Tr} (h : NumsT (.node k n s l)) : isI64 n := by cases h; assumption
theorem NumsT.list {k : UInt8} {n : Int} {s : List UInt8} {l : List Tr} (h : NumsT (.node k n s l)) : ∀ t, t ∈ l → NumsT t := by cases h; assumption
theorem Lies.nums {w : World} {t : Tr} {v : Value} (h : Lies w t v) : NumsT t := by
  induction h with
  | node k n s l a cap C hn hs h1 h2 h3 h4 h5 ih =>
    refine .node k n s l hn fun t ht => ?_
    obtain ⟨i, hi, rfl⟩ := List.getElem_of_mem ht
    exact ih i hi

/-- The program's reader: how deep, how many parts more. -/
def readL (f : Nat → List UInt8 → Option (Tr × List UInt8 × Nat)) : Nat → Nat → List UInt8 → Option (List Tr × List UInt8 × Nat)
  | 0, m, xs => some ([], xs, m)
  | c + 1, m, xs => match f m xs with
    | none => none
    | some (t, r, m') => match readL f c m' r with
      | none => none
      | some (ts, r', m'') => some (t :: ts, r', m'')
def readT : Nat → Nat → List UInt8 → Option (Tr × List UInt8 × Nat)
  | 0, _, _ => none
  | d + 1, m, xs => match hdN xs with
    | none => none
    | some (k, r) =>
      if k < 0 ∨ 2 < k ∨ m = 0 then none
      else if k = 0 then match hdN r with
        | none => none
        | some (n, r') => some (.node 0 n [] [], r', m - 1)
      else if k = 1 then match hdT r with
        | none => none
        | some (s, r') => some (.node 1 0 s [], r', m - 1)
      else match hdN r with
        | none => none
        | some (n, r') => if n < 0 ∨ 40 < n then none else match readL (readT d) n.toNat (m - 1) r' with
          | none => none
          | some (l, r'', m') => some (.node 2 0 [] l, r'', m')

theorem readT_zero (m : Nat) (xs : List UInt8) : readT 0 m xs = none := by rw [readT]
theorem readT_hd {d m : Nat} {xs : List UInt8} (h : hdN xs = none) : readT d m xs = none := by
  cases d with
  | zero => rw [readT]
  | succ d => rw [readT, h]
theorem readT_bad {d m : Nat} {xs r : List UInt8} {k : Int} (h : hdN xs = some (k, r)) (hb : k < 0 ∨ 2 < k ∨ m = 0 ∨ d = 0) : readT d m xs = none := by
  cases d with
  | zero => rw [readT]
  | succ d =>
    rw [readT, h]
    simp only
    rw [if_pos (by omega)]
theorem readT_num {d m : Nat} {xs r : List UInt8} (h : hdN xs = some (0, r)) (hm : 0 < m) (hd : 0 < d) :
    readT d m xs = match hdN r with
      | none => none
      | some (n, r') => some (.node 0 n [] [], r', m - 1) := by
  obtain ⟨d, rfl⟩ : ∃ e, d = e + 1 := ⟨d - 1, by omega⟩
  rw [readT, h]
  simp only
  rw [if_neg (by omega), if_pos trivial]
theorem readT_text {d m : Nat} {xs r : List UInt8} (h : hdN xs = some (1, r)) (hm : 0 < m) (hd : 0 < d) :
    readT d m xs = match hdT r with
      | none => none
      | some (s, r') => some (.node 1 0 s [], r', m - 1) := by
  obtain ⟨d, rfl⟩ : ∃ e, d = e + 1 := ⟨d - 1, by omega⟩
  rw [readT, h]
  simp only
  rw [if_neg (by omega), if_neg (by decide), if_pos trivial]
theorem readT_list {d m : Nat} {xs r : List UInt8} (h : hdN xs = some (2, r)) (hm : 0 < m) :
    readT (d + 1) m xs = match hdN r with
      | none => none
      | some (n, r') => if n < 0 ∨ 40 < n then none else match readL (readT d) n.toNat (m - 1) r' with
        | none => none
        | some (l, r'', m') => some (.node 2 0 [] l, r'', m') := by
  rw [readT, h]
  simp only
  rw [if_neg (by omega), if_neg (by decide), if_neg (by decide)]

theorem readL_bytes (f : Nat → List UInt8 → Option (Tr × List UInt8 × Nat)) : ∀ (l : List Tr) (m : Nat) (r : List UInt8),
    (∀ t, t ∈ l → ∀ m r, partsT t ≤ m → f m (bytesT t ++ r) = some (t, r, m - partsT t)) → partsL l ≤ m → readL f l.length m (bytesL l ++ r) = some (l, r, m - partsL l)
  | [], m, r, _, _ => by simp [readL, bytesL, partsL_nil]
  | t :: ts, m, r, hf, hp => by
    rw [partsL_cons] at hp ⊢
    have e : bytesL (t :: ts) ++ r = bytesT t ++ (bytesL ts ++ r) := by simp [bytesL]
    rw [List.length_cons, readL, e, hf t (List.mem_cons_self ..) m _ (by omega)]
    simp only
    rw [readL_bytes f ts (m - partsT t) r (fun x hx => hf x (List.mem_cons_of_mem _ hx)) (by omega)]
    simp only
    congr 3
    omega

theorem u8_int {k : UInt8} {n : Nat} (h : k.toNat = n) (hn : n < 256) : k = UInt8.ofNat n := by
  apply UInt8.toNat_inj.1; rw [toNat_ofNat_lt hn]; exact h

theorem plainB_zero {k : UInt8} {n : Int} {s : List UInt8} {m : Nat} (h : plainB k n s m = true) (hk : k = 0) : s = [] ∧ m = 0 := by
  unfold plainB at h; rw [if_pos hk] at h; simpa using h
theorem plainB_one {k : UInt8} {n : Int} {s : List UInt8} {m : Nat} (h : plainB k n s m = true) (hk : k = 1) : n = 0 ∧ m = 0 ∧ s.length ≤ 100 := by
  subst hk; unfold plainB at h; rw [if_neg (by decide), if_pos rfl] at h; simpa using h
theorem plainB_two {k : UInt8} {n : Int} {s : List UInt8} {m : Nat} (h : plainB k n s m = true) (h0 : k ≠ 0) (h1 : k ≠ 1) : k = 2 ∧ n = 0 ∧ s = [] ∧ m ≤ 40 := by
  unfold plainB at h; rw [if_neg h0, if_neg h1] at h; simpa using h

/-- What is said of a right value is read, whatever is behind it. -/
theorem readT_bytes (t : Tr) : ∀ (d m : Nat) (r : List UInt8), kindsT t = true → NumsT t → deepT t ≤ d → partsT t ≤ m → readT d m (bytesT t ++ r) = some (t, r, m - partsT t) := by
  induction t using Tr.ind with
  | h k n s l ih =>
    intro d m r hk hn hd hp
    rw [deepT_node] at hd
    rw [partsT_node] at hp
    obtain ⟨d, rfl⟩ : ∃ e, d = e + 1 := ⟨d - 1, by omega⟩
    rw [kindsT_node, Bool.and_eq_true] at hk
    obtain ⟨hk, hl⟩ := hk
    have hk255 := k.toNat_lt
    have hh : hdN (bytesT (.node k n s l) ++ r) = some ((k.toNat : Int), (if k = 0 then numB n else if k = 1 then textB s else numB l.length ++ bytesL l) ++ r) := by
      rw [bytesT_node, List.append_assoc, hdN_num (by unfold isI64; omega)]
    by_cases h0 : k = 0
    · obtain ⟨rfl, hm⟩ := plainB_zero hk h0
      obtain rfl : l = [] := List.eq_nil_of_length_eq_zero hm
      subst h0
      rw [if_pos rfl] at hh
      rw [readT_num hh (by omega) (by omega), hdN_num hn.num, partsT_node, partsL_nil]
    by_cases h1 : k = 1
    · obtain ⟨rfl, hm, hs⟩ := plainB_one hk h1
      obtain rfl : l = [] := List.eq_nil_of_length_eq_zero hm
      subst h1
      rw [if_neg (by decide), if_pos rfl] at hh
      rw [readT_text hh (by omega) (by omega), hdT_text hs, partsT_node, partsL_nil]
    · obtain ⟨rfl, rfl, rfl, hm⟩ := plainB_two hk h0 h1
      rw [if_neg (by decide), if_neg (by decide), List.append_assoc] at hh
      rw [readT_list hh (by omega), hdN_num (by unfold isI64; omega)]
      simp only
      rw [if_neg (by omega), Int.toNat_natCast, readL_bytes (readT d) l (m - 1) r ?_ (by omega), partsT_node]
      · simp only
        congr 3; omega
      · intro t ht m' r' hp'
        refine ih t ht d m' r' (List.all_eq_true.1 hl t ht) (hn.list t ht) ?_ hp'
        have : deepT t ≤ deepL l := by
          obtain ⟨i, hi, rfl⟩ := List.getElem_of_mem ht
          have h := deepL_at l i hi
          have := deepL_take_le l (i + 1)
          omega
        omega

theorem readL_inv (f : Nat → List UInt8 → Option (Tr × List UInt8 × Nat)) (d : Nat)
    (hf : ∀ m xs t r m', f m xs = some (t, r, m') → xs = bytesT t ++ r ∧ kindsT t = true ∧ deepT t ≤ d ∧ partsT t + m' = m ∧ NumsT t) :
    ∀ (c m : Nat) (xs : List UInt8) (l : List Tr) (r : List UInt8) (m' : Nat), readL f c m xs = some (l, r, m') →
      l.length = c ∧ xs = bytesL l ++ r ∧ l.all kindsT = true ∧ deepL l ≤ d ∧ partsL l + m' = m ∧ ∀ t, t ∈ l → NumsT t
  | 0, m, xs, l, r, m', h => by
    simp only [readL, Option.some.injEq, Prod.mk.injEq] at h
    obtain ⟨rfl, rfl, rfl⟩ := h
    exact ⟨rfl, by simp [bytesL], rfl, by simp [deepL_nil], by simp [partsL_nil], fun t ht => by cases ht⟩
  | c + 1, m, xs, l, r, m', h => by
    rw [readL] at h
    cases h1 : f m xs with
    | none => rw [h1] at h; cases h
    | some p =>
      obtain ⟨t, r1, m1⟩ := p
      rw [h1] at h
      simp only at h
      cases h2 : readL f c m1 r1 with
      | none => rw [h2] at h; cases h
      | some q =>
        obtain ⟨ts, r2, m2⟩ := q
        rw [h2] at h
        simp only [Option.some.injEq, Prod.mk.injEq] at h
        obtain ⟨rfl, rfl, rfl⟩ := h
        obtain ⟨a1, a2, a3, a4, a5⟩ := hf _ _ _ _ _ h1
        obtain ⟨b1, b2, b3, b4, b5, b6⟩ := readL_inv f d hf c m1 r1 ts r2 m2 h2
        refine ⟨by simp [b1], by rw [a1, b2]; simp [bytesL], by simp [a2, b3], by rw [deepL_cons]; omega, by rw [partsL_cons]; omega, fun x hx => ?_⟩
        rcases List.mem_cons.1 hx with rfl | hx
        · exact a5
        · exact b6 x hx

/-- What is read is right, and is said just so. -/
theorem readT_inv : ∀ (d m : Nat) (xs : List UInt8) (t : Tr) (r : List UInt8) (m' : Nat), readT d m xs = some (t, r, m') →
    xs = bytesT t ++ r ∧ kindsT t = true ∧ deepT t ≤ d ∧ partsT t + m' = m ∧ NumsT t
  | 0, m, xs, t, r, m', h => by rw [readT_zero] at h; cases h
  | d + 1, m, xs, t, r, m', h => by
    cases hN : hdN xs with
    | none => rw [readT_hd hN] at h; cases h
    | some p =>
      obtain ⟨k, r1⟩ := p
      obtain ⟨hk64, hxs⟩ := hdN_inv hN
      by_cases hb : k < 0 ∨ 2 < k ∨ m = 0 ∨ d + 1 = 0
      · rw [readT_bad hN hb] at h; cases h
      by_cases h0 : k = 0
      · subst h0
        rw [readT_num hN (by omega) (by omega)] at h
        cases h2 : hdN r1 with
        | none => rw [h2] at h; cases h
        | some q =>
          obtain ⟨n, r2⟩ := q
          obtain ⟨hn64, hr1⟩ := hdN_inv h2
          rw [h2] at h
          simp only [Option.some.injEq, Prod.mk.injEq] at h
          obtain ⟨rfl, rfl, rfl⟩ := h
          refine ⟨?_, ?_, by rw [deepT_node, deepL_nil]; omega, by rw [partsT_node, partsL_nil]; omega, .node _ _ _ _ hn64 (fun t ht => by cases ht)⟩
          · rw [hxs, hr1, bytesT_node, if_pos rfl, List.append_assoc]; rfl
          · rw [kindsT_node]; simp [plainB]
      by_cases h1 : k = 1
      · subst h1
        rw [readT_text hN (by omega) (by omega)] at h
        cases h2 : hdT r1 with
        | none => rw [h2] at h; cases h
        | some q =>
          obtain ⟨s, r2⟩ := q
          obtain ⟨hs, hr1⟩ := hdT_inv h2
          rw [h2] at h
          simp only [Option.some.injEq, Prod.mk.injEq] at h
          obtain ⟨rfl, rfl, rfl⟩ := h
          refine ⟨?_, ?_, by rw [deepT_node, deepL_nil]; omega, by rw [partsT_node, partsL_nil]; omega, .node _ _ _ _ (by unfold isI64; omega) (fun t ht => by cases ht)⟩
          · rw [hxs, hr1, bytesT_node, if_neg (by decide), if_pos rfl, List.append_assoc]; rfl
          · rw [kindsT_node]; simp [plainB, hs]
      · obtain rfl : k = 2 := by omega
        rw [readT_list hN (by omega)] at h
        cases h2 : hdN r1 with
        | none => rw [h2] at h; cases h
        | some q =>
          obtain ⟨n, r2⟩ := q
          obtain ⟨hn64, hr1⟩ := hdN_inv h2
          rw [h2] at h
          simp only at h
          by_cases hb2 : n < 0 ∨ 40 < n
          · rw [if_pos hb2] at h; cases h
          rw [if_neg hb2] at h
          cases h3 : readL (readT d) n.toNat (m - 1) r2 with
          | none => rw [h3] at h; cases h
          | some z =>
            obtain ⟨l, r3, m3⟩ := z
            rw [h3] at h
            simp only [Option.some.injEq, Prod.mk.injEq] at h
            obtain ⟨rfl, rfl, rfl⟩ := h
            obtain ⟨b1, b2, b3, b4, b5, b6⟩ := readL_inv (readT d) d (readT_inv d) _ _ _ _ _ _ h3
            have hn : ((l.length : Nat) : Int) = n := by omega
            refine ⟨?_, ?_, by rw [deepT_node]; omega, by rw [partsT_node]; omega, .node _ _ _ _ (by unfold isI64; omega) b6⟩
            · rw [hxs, hr1, b2, bytesT_node, if_neg (by decide), if_neg (by decide), hn]; simp [List.append_assoc]
            · rw [kindsT_node, b3]; simp [plainB]; omega

/-- The program's Take. -/
def takeV' (xs : List UInt8) : Option (Tr × List UInt8) := match readT 6 200 xs with
  | none => none
  | some (t, r, _) => some (t, r)
theorem rightT_iff {t : Tr} : rightT t = true ↔ kindsT t = true ∧ deepT t ≤ 6 ∧ partsT t ≤ 200 := by
  simp only [rightT, Bool.and_eq_true, decide_eq_true_eq, and_assoc]
theorem takeV_bytes {t : Tr} (h : rightT t = true) (hn : NumsT t) (r : List UInt8) : takeV' (bytesT t ++ r) = some (t, r) := by
  obtain ⟨h1, h2, h3⟩ := rightT_iff.1 h
  unfold takeV'; rw [readT_bytes t 6 200 r h1 hn h2 h3]
theorem takeV_inv {xs : List UInt8} {t : Tr} {r : List UInt8} (h : takeV' xs = some (t, r)) : xs = bytesT t ++ r ∧ rightT t = true ∧ NumsT t := by
  unfold takeV' at h
  cases hr : readT 6 200 xs with
  | none => rw [hr] at h; cases h
  | some p =>
    obtain ⟨t', r', m⟩ := p
    rw [hr] at h
    simp only [Option.some.injEq, Prod.mk.injEq] at h
    obtain ⟨rfl, rfl⟩ := h
    obtain ⟨a1, a2, a3, a4, a5⟩ := readT_inv _ _ _ _ _ _ hr
    exact ⟨a1, rightT_iff.2 ⟨a2, a3, by omega⟩, a5⟩
/-- Unlike values have unlike bytes. -/
theorem bytesT_inj {t u : Tr} (ht : rightT t = true) (hu : rightT u = true) (hn : NumsT t) (hm : NumsT u) {r s : List UInt8} (h : bytesT t ++ r = bytesT u ++ s) : t = u ∧ r = s := by
  have h1 := takeV_bytes ht hn r
  rw [h, takeV_bytes hu hm s] at h1
  simp only [Option.some.injEq, Prod.mk.injEq] at h1
  exact ⟨h1.1.symm, h1.2.symm⟩
/-- Nothing less of a value's bytes is a value. -/
theorem takeV_short {t : Tr} (ht : rightT t = true) (hn : NumsT t) {i : Nat} (hi : i < (bytesT t).length) : takeV' ((bytesT t).take i) = none := by
  cases hx : takeV' ((bytesT t).take i) with
  | none => rfl
  | some p =>
    obtain ⟨u, r⟩ := p
    obtain ⟨a1, a2, a3⟩ := takeV_inv hx
    have e : bytesT t ++ [] = bytesT u ++ (r ++ (bytesT t).drop i) := by
      rw [← List.append_assoc, ← a1, List.take_append_drop, List.append_nil]
    obtain ⟨-, h2⟩ := bytesT_inj ht a2 hn a3 e
    have h3 := congrArg List.length h2
    simp at h3
    omega

/-- The reference's reader. -/
def rreadL (f : List UInt8 → Option (Tr × List UInt8)) : Nat → Nat → List UInt8 → Option (List Tr × List UInt8)
  | 0, _, xs => some ([], xs)
  | c + 1, P, xs => match f xs with
    | none => none
    | some (t, r) => if 200 < P + partsT t then none else match rreadL f c (P + partsT t) r with
      | none => none
      | some (ts, r') => some (t :: ts, r')
def rreadT : Nat → List UInt8 → Option (Tr × List UInt8)
  | 0, _ => none
  | d + 1, xs => match hdN xs with
    | none => none
    | some (k, r) =>
      if k < 0 ∨ 2 < k then none
      else if k = 1 then match hdT r with
        | none => none
        | some (s, r') => some (.node 1 0 s [], r')
      else match hdN r with
        | none => none
        | some (n, r') =>
          if k = 0 then some (.node 0 n [] [], r')
          else if n < 0 ∨ 40 < n then none else match rreadL (rreadT d) n.toNat 1 r' with
            | none => none
            | some (l, r'') => some (.node 2 0 [] l, r'')
theorem rreadT_zero (xs : List UInt8) : rreadT 0 xs = none := by rw [rreadT]
theorem rreadT_hd {d : Nat} {xs : List UInt8} (h : hdN xs = none) : rreadT d xs = none := by
  cases d with
  | zero => rw [rreadT]
  | succ d => rw [rreadT, h]
theorem rreadT_bad {d : Nat} {xs r : List UInt8} {k : Int} (h : hdN xs = some (k, r)) (hb : k < 0 ∨ 2 < k ∨ d = 0) : rreadT d xs = none := by
  cases d with
  | zero => rw [rreadT]
  | succ d =>
    rw [rreadT, h]
    simp only
    rw [if_pos (by omega)]
theorem rreadT_text {d : Nat} {xs r : List UInt8} (h : hdN xs = some (1, r)) (hd : 0 < d) :
    rreadT d xs = match hdT r with
      | none => none
      | some (s, r') => some (.node 1 0 s [], r') := by
  obtain ⟨d, rfl⟩ : ∃ e, d = e + 1 := ⟨d - 1, by omega⟩
  rw [rreadT, h]
  simp only
  rw [if_neg (by decide), if_pos trivial]
theorem rreadT_none2 {d : Nat} {xs r : List UInt8} {k : Int} (h : hdN xs = some (k, r)) (hk : k = 0 ∨ k = 2) (h2 : hdN r = none) : rreadT d xs = none := by
  cases d with
  | zero => rw [rreadT]
  | succ d =>
    rw [rreadT, h]
    simp only
    rw [if_neg (by omega), if_neg (by omega), h2]
theorem rreadT_num {d : Nat} {xs r r' : List UInt8} {n : Int} (h : hdN xs = some (0, r)) (hd : 0 < d) (h2 : hdN r = some (n, r')) : rreadT d xs = some (.node 0 n [] [], r') := by
  obtain ⟨d, rfl⟩ : ∃ e, d = e + 1 := ⟨d - 1, by omega⟩
  rw [rreadT, h]
  simp only
  rw [if_neg (by decide), if_neg (by decide), h2]
  rfl
theorem rreadT_list {d : Nat} {xs r r' : List UInt8} {n : Int} (h : hdN xs = some (2, r)) (h2 : hdN r = some (n, r')) :
    rreadT (d + 1) xs = if n < 0 ∨ 40 < n then none else match rreadL (rreadT d) n.toNat 1 r' with
      | none => none
      | some (l, r'') => some (.node 2 0 [] l, r'') := by
  rw [rreadT, h]
  simp only
  rw [if_neg (by decide), if_neg (by decide), h2]
  simp only
  rw [if_neg (by decide)]

theorem rreadL_bytes (f : List UInt8 → Option (Tr × List UInt8)) : ∀ (l : List Tr) (P : Nat) (r : List UInt8),
    (∀ t, t ∈ l → ∀ r, f (bytesT t ++ r) = some (t, r)) → P + partsL l ≤ 200 → rreadL f l.length P (bytesL l ++ r) = some (l, r)
  | [], P, r, _, _ => by simp [rreadL, bytesL]
  | t :: ts, P, r, hf, hp => by
    rw [partsL_cons] at hp
    have e : bytesL (t :: ts) ++ r = bytesT t ++ (bytesL ts ++ r) := by simp [bytesL]
    rw [List.length_cons, rreadL, e, hf t (List.mem_cons_self ..) _]
    simp only
    rw [if_neg (by omega), rreadL_bytes f ts (P + partsT t) r (fun x hx => hf x (List.mem_cons_of_mem _ hx)) (by omega)]
theorem rreadT_bytes (t : Tr) : ∀ (d : Nat) (r : List UInt8), kindsT t = true → NumsT t → deepT t ≤ d → partsT t ≤ 200 → rreadT d (bytesT t ++ r) = some (t, r) := by
  induction t using Tr.ind with
  | h k n s l ih =>
    intro d r hk hn hd hp
    rw [deepT_node] at hd
    rw [partsT_node] at hp
    obtain ⟨d, rfl⟩ : ∃ e, d = e + 1 := ⟨d - 1, by omega⟩
    rw [kindsT_node, Bool.and_eq_true] at hk
    obtain ⟨hk, hl⟩ := hk
    have hk255 := k.toNat_lt
    have hh : hdN (bytesT (.node k n s l) ++ r) = some ((k.toNat : Int), (if k = 0 then numB n else if k = 1 then textB s else numB l.length ++ bytesL l) ++ r) := by
      rw [bytesT_node, List.append_assoc, hdN_num (by unfold isI64; omega)]
    by_cases h0 : k = 0
    · obtain ⟨rfl, hm⟩ := plainB_zero hk h0
      obtain rfl : l = [] := List.eq_nil_of_length_eq_zero hm
      subst h0
      rw [if_pos rfl] at hh
      rw [rreadT_num hh (by omega) (hdN_num hn.num _)]
    by_cases h1 : k = 1
    · obtain ⟨rfl, hm, hs⟩ := plainB_one hk h1
      obtain rfl : l = [] := List.eq_nil_of_length_eq_zero hm
      subst h1
      rw [if_neg (by decide), if_pos rfl] at hh
      rw [rreadT_text hh (by omega), hdT_text hs]
    · obtain ⟨rfl, rfl, rfl, hm⟩ := plainB_two hk h0 h1
      rw [if_neg (by decide), if_neg (by decide), List.append_assoc] at hh
      rw [rreadT_list hh (hdN_num (by unfold isI64; omega) _)]
      rw [if_neg (by omega), Int.toNat_natCast, rreadL_bytes (rreadT d) l 1 r ?_ (by omega)]
      · intro t ht r'
        obtain ⟨i, hi, rfl⟩ := List.getElem_of_mem ht
        have h1 := deepL_at l i hi
        have h2 := deepL_take_le l (i + 1)
        have h3 := partsL_at l i hi
        have h4 := partsL_take_le l (i + 1)
        exact ih _ ht d r' (List.all_eq_true.1 hl _ ht) (hn.list _ ht) (by omega) (by omega)

theorem rreadL_inv (f : List UInt8 → Option (Tr × List UInt8)) (d : Nat)
    (hf : ∀ xs t r, f xs = some (t, r) → xs = bytesT t ++ r ∧ kindsT t = true ∧ deepT t ≤ d ∧ NumsT t) :
    ∀ (c P : Nat) (xs : List UInt8) (l : List Tr) (r : List UInt8), rreadL f c P xs = some (l, r) → P ≤ 200 →
      l.length = c ∧ xs = bytesL l ++ r ∧ l.all kindsT = true ∧ deepL l ≤ d ∧ P + partsL l ≤ 200 ∧ ∀ t, t ∈ l → NumsT t
  | 0, P, xs, l, r, h, hP => by
    simp only [rreadL, Option.some.injEq, Prod.mk.injEq] at h
    obtain ⟨rfl, rfl⟩ := h
    exact ⟨rfl, by simp [bytesL], rfl, by simp [deepL_nil], by simpa [partsL_nil] using hP, fun t ht => by cases ht⟩
  | c + 1, P, xs, l, r, h, hP => by
    rw [rreadL] at h
    cases h1 : f xs with
    | none => rw [h1] at h; cases h
    | some p =>
      obtain ⟨t, r1⟩ := p
      rw [h1] at h
      simp only at h
      by_cases hb : 200 < P + partsT t
      · rw [if_pos hb] at h; cases h
      rw [if_neg hb] at h
      cases h2 : rreadL f c (P + partsT t) r1 with
      | none => rw [h2] at h; cases h
      | some q =>
        obtain ⟨ts, r2⟩ := q
        rw [h2] at h
        simp only [Option.some.injEq, Prod.mk.injEq] at h
        obtain ⟨rfl, rfl⟩ := h
        obtain ⟨a1, a2, a3, a4⟩ := hf _ _ _ h1
        obtain ⟨b1, b2, b3, b4, b5, b6⟩ := rreadL_inv f d hf c (P + partsT t) r1 ts r2 h2 (by omega)
        refine ⟨by simp [b1], by rw [a1, b2]; simp [bytesL], by simp [a2, b3], by rw [deepL_cons]; omega, by rw [partsL_cons]; omega, fun x hx => ?_⟩
        rcases List.mem_cons.1 hx with rfl | hx
        · exact a4
        · exact b6 x hx
theorem rreadT_inv : ∀ (d : Nat) (xs : List UInt8) (t : Tr) (r : List UInt8), rreadT d xs = some (t, r) →
    xs = bytesT t ++ r ∧ kindsT t = true ∧ deepT t ≤ d ∧ NumsT t ∧ partsT t ≤ 200
  | 0, xs, t, r, h => by rw [rreadT_zero] at h; cases h
  | d + 1, xs, t, r, h => by
    cases hN : hdN xs with
    | none => rw [rreadT_hd hN] at h; cases h
    | some p =>
      obtain ⟨k, r1⟩ := p
      obtain ⟨hk64, hxs⟩ := hdN_inv hN
      by_cases hb : k < 0 ∨ 2 < k ∨ d + 1 = 0
      · rw [rreadT_bad hN hb] at h; cases h
      by_cases h1 : k = 1
      · subst h1
        rw [rreadT_text hN (by omega)] at h
        cases h2 : hdT r1 with
        | none => rw [h2] at h; cases h
        | some q =>
          obtain ⟨s, r2⟩ := q
          obtain ⟨hs, hr1⟩ := hdT_inv h2
          rw [h2] at h
          simp only [Option.some.injEq, Prod.mk.injEq] at h
          obtain ⟨rfl, rfl⟩ := h
          refine ⟨?_, ?_, by rw [deepT_node, deepL_nil]; omega, .node _ _ _ _ (by unfold isI64; omega) (fun t ht => by cases ht), by rw [partsT_node, partsL_nil]; omega⟩
          · rw [hxs, hr1, bytesT_node, if_neg (by decide), if_pos rfl, List.append_assoc]; rfl
          · rw [kindsT_node]; simp [plainB, hs]
      cases h2 : hdN r1 with
      | none => rw [rreadT_none2 hN (by omega) h2] at h; cases h
      | some q =>
        obtain ⟨n, r2⟩ := q
        obtain ⟨hn64, hr1⟩ := hdN_inv h2
        by_cases h0 : k = 0
        · subst h0
          rw [rreadT_num hN (by omega) h2] at h
          simp only [Option.some.injEq, Prod.mk.injEq] at h
          obtain ⟨rfl, rfl⟩ := h
          refine ⟨?_, ?_, by rw [deepT_node, deepL_nil]; omega, .node _ _ _ _ hn64 (fun t ht => by cases ht), by rw [partsT_node, partsL_nil]; omega⟩
          · rw [hxs, hr1, bytesT_node, if_pos rfl, List.append_assoc]; rfl
          · rw [kindsT_node]; simp [plainB]
        · obtain rfl : k = 2 := by omega
          rw [rreadT_list hN h2] at h
          by_cases hb2 : n < 0 ∨ 40 < n
          · rw [if_pos hb2] at h; cases h
          rw [if_neg hb2] at h
          cases h3 : rreadL (rreadT d) n.toNat 1 r2 with
          | none => rw [h3] at h; cases h
          | some z =>
            obtain ⟨l, r3⟩ := z
            rw [h3] at h
            simp only [Option.some.injEq, Prod.mk.injEq] at h
            obtain ⟨rfl, rfl⟩ := h
            obtain ⟨b1, b2, b3, b4, b5, b6⟩ := rreadL_inv (rreadT d) d (fun xs t r h => let ⟨a, b, c, e, _⟩ := rreadT_inv d xs t r h; ⟨a, b, c, e⟩) _ _ _ _ _ h3 (by omega)
            have hn : ((l.length : Nat) : Int) = n := by omega
            refine ⟨?_, ?_, by rw [deepT_node]; omega, .node _ _ _ _ (by unfold isI64; omega) b6, by rw [partsT_node]; omega⟩
            · rw [hxs, hr1, b2, bytesT_node, if_neg (by decide), if_neg (by decide), hn]; simp [List.append_assoc]
            · rw [kindsT_node, b3]; simp [plainB]; omega
/-- Both readers come to the same. -/
theorem rread_same (xs : List UInt8) : rreadT 6 xs = takeV' xs := by
  cases h : takeV' xs with
  | some p =>
    obtain ⟨t, r⟩ := p
    obtain ⟨rfl, h2, h3⟩ := takeV_inv h
    obtain ⟨a, b, c⟩ := rightT_iff.1 h2
    exact rreadT_bytes t 6 r a h3 b c
  | none =>
    cases h2 : rreadT 6 xs with
    | none => rfl
    | some p =>
      obtain ⟨t, r⟩ := p
      obtain ⟨rfl, a, b, c, e⟩ := rreadT_inv _ _ _ _ h2
      rw [takeV_bytes (rightT_iff.2 ⟨a, b, e⟩) c] at h
      cases h
end Fm
