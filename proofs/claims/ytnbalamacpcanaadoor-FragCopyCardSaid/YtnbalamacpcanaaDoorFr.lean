/- Fragments: right forms, bytes, what is taken: plain facts. No program is imported. -/
import Derived.Test.YtnbalamacpcanaaDoorSl
import Derived.Test.YtnbalamacpcanaaDoorTreeR
namespace Fm
open Go Go.RowKit

/-- An item. -/
structure It where
  name : List UInt8
  kind : UInt8
  after : List (List UInt8)
  over : List UInt8
  width : Int
  quota : Int
def itE : Elem It where
  sz := 6
  R w x c := c 0 = .string (str x.name) ∧ c 1 = .int .u8 (x.kind.toNat : Int) ∧ strE.Row w x.after (c 2) ∧ c 3 = .string (str x.over) ∧ c 4 = .int .i64 x.width ∧ c 5 = .int .i64 x.quota ∧
    x.name.length ≤ 9223372036854775807 ∧ x.over.length ≤ 9223372036854775807 ∧ isI64 x.width ∧ isI64 x.quota
  ext hx h := ⟨h.1, h.2.1, h.2.2.1.ext hx, h.2.2.2⟩
  loc hc h := ⟨(hc 0 (by omega)).symm.trans h.1, (hc 1 (by omega)).symm.trans h.2.1, (by rw [← hc 2 (by omega)]; exact h.2.2.1), (hc 3 (by omega)).symm.trans h.2.2.2.1, (hc 4 (by omega)).symm.trans h.2.2.2.2.1, (hc 5 (by omega)).symm.trans h.2.2.2.2.2.1, h.2.2.2.2.2.2⟩

/-- A letter of a name. -/
def letB (c : UInt8) : Bool := (decide (97 ≤ c.toNat) && decide (c.toNat ≤ 122)) || (decide (48 ≤ c.toNat) && decide (c.toNat ≤ 57)) || decide (c.toNat = 95)
def nameB (s : List UInt8) : Bool := s.all letB && decide (1 ≤ s.length) && decide (s.length ≤ 20)
def itB (x : It) : Bool := nameB x.name && decide (x.after.length ≤ 20) && (decide (0 ≤ x.quota) && decide (x.quota ≤ 400)) && x.after.all nameB &&
  (if x.kind = 0 then decide (x.over = []) && decide (x.width = 0) else decide (x.kind = 1) && nameB x.over && (decide (0 ≤ x.width) && decide (x.width ≤ 40)))
def fragB (l : List It) : Bool := l.all itB && decide (l.length ≤ 40)
/-- Both are the same. -/
noncomputable def eqF (l m : List It) : Bool := @decide (l = m) (Classical.propDecidable _)
theorem eqF_iff {l m : List It} : eqF l m = true ↔ l = m := by unfold eqF; exact @decide_eq_true_iff _ (Classical.propDecidable _)
theorem eqF_ne {l m : List It} (h : l ≠ m) : eqF l m = false := by
  cases e : eqF l m with
  | false => rfl
  | true => exact absurd (eqF_iff.1 e) h
noncomputable def eqI (l m : It) : Bool := @decide (l = m) (Classical.propDecidable _)
theorem eqI_iff {l m : It} : eqI l m = true ↔ l = m := by unfold eqI; exact @decide_eq_true_iff _ (Classical.propDecidable _)
theorem eqI_ne {l m : It} (h : l ≠ m) : eqI l m = false := by
  cases e : eqI l m with
  | false => rfl
  | true => exact absurd (eqI_iff.1 e) h

/-- Bytes. -/
def namesBy (l : List (List UInt8)) : List UInt8 := (l.map textB).flatten
def itBy (x : It) : List UInt8 := textB x.name ++ (numB x.kind.toNat ++ (numB x.after.length ++ (namesBy x.after ++ (numB x.quota ++ (if x.kind = 1 then textB x.over ++ numB x.width else [])))))
def itsBy (l : List It) : List UInt8 := (l.map itBy).flatten
def fragBy (l : List It) : List UInt8 := numB l.length ++ itsBy l
theorem flat_at {α : Type} (f : α → List UInt8) (l : List α) (i : Nat) (hi : i < l.length) : ((l.take (i + 1)).map f).flatten = ((l.take i).map f).flatten ++ f l[i] := by
  rw [List.take_add_one, List.getElem?_eq_getElem hi, List.map_append, List.flatten_append]
  simp only [Option.toList_some, List.map_cons, List.map_nil, List.flatten_cons, List.flatten_nil, List.append_nil]
theorem flat_take_le {α : Type} (f : α → List UInt8) (l : List α) (i : Nat) : ((l.take i).map f).flatten.length ≤ (l.map f).flatten.length := by
  have h : (l.map f).flatten = ((l.take i).map f).flatten ++ ((l.drop i).map f).flatten := by
    rw [← List.flatten_append, ← List.map_append, List.take_append_drop]
  rw [h, List.length_append]; omega
theorem flat_len {α : Type} (f : α → List UInt8) (B : Nat) : ∀ l : List α, (∀ x, x ∈ l → (f x).length ≤ B) → (l.map f).flatten.length ≤ l.length * B
  | [], _ => by simp
  | x :: xs, h => by
    have h1 := flat_len f B xs (fun y hy => h y (List.mem_cons_of_mem _ hy))
    have h2 := h x (List.mem_cons_self ..)
    rw [List.map_cons, List.flatten_cons, List.length_append, List.length_cons, Nat.succ_mul]; omega
theorem nameB_iff {s : List UInt8} : nameB s = true ↔ s.all letB = true ∧ 1 ≤ s.length ∧ s.length ≤ 20 := by unfold nameB; simp [and_assoc]
theorem itB_iff {x : It} : itB x = true ↔ nameB x.name = true ∧ x.after.length ≤ 20 ∧ 0 ≤ x.quota ∧ x.quota ≤ 400 ∧ x.after.all nameB = true ∧
    ((x.kind = 0 ∧ x.over = [] ∧ x.width = 0) ∨ (x.kind = 1 ∧ nameB x.over = true ∧ 0 ≤ x.width ∧ x.width ≤ 40)) := by
  unfold itB
  by_cases h : x.kind = 0
  · simp [h, and_assoc]
  · simp [h, and_assoc]
theorem fragB_iff {l : List It} : fragB l = true ↔ l.all itB = true ∧ l.length ≤ 40 := by unfold fragB; simp

/-- A text of at most so many bytes at the head, and what is behind it. -/
def hdX (top : Int) (xs : List UInt8) : Option (List UInt8 × List UInt8) := (takeT xs top).map fun p => ((xs.drop p.1).take p.2, (xs.drop p.1).drop p.2)
theorem hdX_none {top : Int} {xs : List UInt8} (h : takeT xs top = none) : hdX top xs = none := by unfold hdX; rw [h]; rfl
theorem hdX_some {top : Int} {xs : List UInt8} {k n : Nat} (h : takeT xs top = some (k, n)) : hdX top xs = some ((xs.drop k).take n, (xs.drop k).drop n) := by unfold hdX; rw [h]; rfl
theorem hdX_text {top : Int} {s : List UInt8} (hs : s.length ≤ 1000000) (h : (s.length : Int) ≤ top) (r : List UInt8) : hdX top (textB s ++ r) = some (s, r) := by
  have hn : takeN (textB s ++ r) = some ((s.length : Int), (numB s.length).length) := by
    unfold textB; rw [List.append_assoc]; exact takeN_num (by unfold isI64; omega) _
  have ht := takeT_some (top := top) hn (by
    unfold textB; simp only [List.length_append]; omega)
  rw [hdX_some ht]
  simp [textB]
theorem hdX_inv {top : Int} {xs s r : List UInt8} (h : hdX top xs = some (s, r)) : (s.length : Int) ≤ top ∧ xs = textB s ++ r := by
  unfold hdX at h
  cases hT : takeT xs top with
  | none => rw [hT] at h; cases h
  | some p =>
    obtain ⟨k, n⟩ := p
    rw [hT] at h
    simp only [Option.map_some, Option.some.injEq, Prod.mk.injEq] at h
    obtain ⟨rfl, rfl⟩ := h
    obtain ⟨h1, h2, h3⟩ := takeT_inv hT
    have hl : ((xs.drop k).take n).length = n := by simp; omega
    obtain ⟨_, _, _, _, h5, _⟩ := takeN_inv h1
    refine ⟨by omega, ?_⟩
    unfold textB
    rw [hl, List.append_assoc, List.take_append_drop, ← h5, List.take_append_drop]
/-- A number from 0 to another one at the head. -/
def hdB (high : Int) (xs : List UInt8) : Option (Int × List UInt8) := (hdN xs).bind fun p => if p.1 < 0 ∨ high < p.1 then none else some p
theorem hdB_num {high n : Int} (h0 : 0 ≤ n) (h1 : n ≤ high) (h2 : n ≤ 1000000) (r : List UInt8) : hdB high (numB n ++ r) = some (n, r) := by
  unfold hdB; rw [hdN_num (by unfold isI64; omega)]; simp; omega
theorem hdB_inv {high n : Int} {xs r : List UInt8} (h : hdB high xs = some (n, r)) : 0 ≤ n ∧ n ≤ high ∧ isI64 n ∧ xs = numB n ++ r := by
  unfold hdB at h
  obtain ⟨p, hp, hq⟩ := Option.bind_eq_some_iff.1 h
  split at hq
  · cases hq
  · rename_i hb
    cases hq
    obtain ⟨a, b⟩ := hdN_inv hp
    exact ⟨by omega, by omega, a, b⟩

/-- So many, each as it is read. -/
def readM {α : Type} (f : List UInt8 → Option (α × List UInt8)) : Nat → List UInt8 → Option (List α × List UInt8)
  | 0, xs => some ([], xs)
  | n + 1, xs => (f xs).bind fun p => (readM f n p.2).map fun q => (p.1 :: q.1, q.2)
theorem readM_by {α : Type} (f : List UInt8 → Option (α × List UInt8)) (g : α → List UInt8) : ∀ (l : List α) (r : List UInt8), (∀ x, x ∈ l → ∀ r, f (g x ++ r) = some (x, r)) → readM f l.length ((l.map g).flatten ++ r) = some (l, r)
  | [], r, _ => rfl
  | x :: xs, r, h => by
    rw [List.length_cons, readM, List.map_cons, List.flatten_cons, List.append_assoc, h x (List.mem_cons_self ..)]
    simp only [Option.bind_some]
    rw [readM_by f g xs r (fun y hy => h y (List.mem_cons_of_mem _ hy))]
    rfl
theorem readM_inv {α : Type} (f : List UInt8 → Option (α × List UInt8)) (g : α → List UInt8) (P : α → Prop) (hf : ∀ xs x r, f xs = some (x, r) → xs = g x ++ r ∧ P x) :
    ∀ (n : Nat) (xs : List UInt8) (l : List α) (r : List UInt8), readM f n xs = some (l, r) → l.length = n ∧ xs = (l.map g).flatten ++ r ∧ ∀ x, x ∈ l → P x
  | 0, xs, l, r, h => by
    rw [readM] at h
    cases h
    exact ⟨rfl, rfl, fun x hx => by cases hx⟩
  | n + 1, xs, l, r, h => by
    rw [readM] at h
    obtain ⟨⟨x, r1⟩, hx, h⟩ := Option.bind_eq_some_iff.1 h
    obtain ⟨⟨m, r2⟩, hm, h⟩ := Option.map_eq_some_iff.1 h
    cases h
    obtain ⟨a, b⟩ := hf _ _ _ hx
    obtain ⟨c, d, e⟩ := readM_inv f g P hf n _ _ _ hm
    refine ⟨by rw [List.length_cons, c], ?_, fun y hy => ?_⟩
    · rw [List.map_cons, List.flatten_cons, List.append_assoc, ← d, a]
    · rcases List.mem_cons.1 hy with rfl | hy
      · exact b
      · exact e y hy
/-- One round of it, from the end: what is read of the first i, and the next. -/
theorem readM_snoc {α : Type} (f : List UInt8 → Option (α × List UInt8)) : ∀ (i : Nat) (xs : List UInt8), readM f (i + 1) xs = (readM f i xs).bind fun p => (f p.2).map fun q => (p.1 ++ [q.1], q.2)
  | 0, xs => by
    rw [readM, readM]
    simp only [Option.bind_some]
    cases f xs with
    | none => rfl
    | some p => rw [Option.bind_some, readM]; rfl
  | i + 1, xs => by
    rw [readM, readM]
    cases f xs with
    | none => rfl
    | some p =>
      simp only [Option.bind_some]
      rw [readM_snoc f i p.2]
      cases readM f i p.2 with
      | none => rfl
      | some q =>
        simp only [Option.bind_some, Option.map_some]
        cases f q.2 with
        | none => rfl
        | some z => rfl
theorem readM_none {α : Type} (f : List UInt8 → Option (α × List UInt8)) {i n : Nat} {xs : List UInt8} (h : readM f i xs = none) (hi : i ≤ n) : readM f n xs = none := by
  obtain ⟨d, rfl⟩ : ∃ d, n = i + d := ⟨n - i, by omega⟩
  clear hi
  induction d with
  | zero => exact h
  | succ d ih => rw [← Nat.add_assoc, readM_snoc, ih]; rfl

/-- An item, right or not, at the head. -/
def readI (xs : List UInt8) : Option (It × List UInt8) :=
  (hdX 20 xs).bind fun a => (hdB 1 a.2).bind fun b => (hdB 20 b.2).bind fun c => (readM (hdX 20) c.1.toNat c.2).bind fun d => (hdB 400 d.2).bind fun e =>
    if b.1 = 0 then some (⟨a.1, 0, d.1, [], 0, e.1⟩, e.2) else (hdX 20 e.2).bind fun f => (hdB 40 f.2).bind fun g => some (⟨a.1, 1, d.1, f.1, g.1, e.1⟩, g.2)
def readR (xs : List UInt8) : Option (It × List UInt8) := (readI xs).bind fun p => if itB p.1 then some p else none
/-- A fragment at the head. -/
def takeF (xs : List UInt8) : Option (List It × List UInt8) := (hdB 40 xs).bind fun p => readM readR p.1.toNat p.2

theorem nameB_len {s : List UInt8} (h : nameB s = true) : s.length ≤ 20 := (nameB_iff.1 h).2.2
theorem readI_by {x : It} (h : itB x = true) (r : List UInt8) : readI (itBy x ++ r) = some (x, r) := by
  obtain ⟨h1, h2, h3, h4, h5, h6⟩ := itB_iff.1 h
  obtain ⟨nm, kd, af, ov, wd, qu⟩ := x
  simp only at h1 h2 h3 h4 h5 h6
  have l1 := nameB_len h1
  have hk : (kd.toNat : Int) ≤ 1 := by rcases h6 with ⟨rfl, _⟩ | ⟨rfl, _⟩ <;> decide
  unfold readI itBy
  simp only [List.append_assoc]
  rw [hdX_text (by omega) (by omega), Option.bind_some, hdB_num (by omega) hk (by omega), Option.bind_some, hdB_num (by omega) (by omega) (by omega), Option.bind_some]
  simp only [Int.toNat_natCast]
  unfold namesBy
  rw [readM_by (hdX 20) textB af _ (fun s hs r => hdX_text (by have := nameB_len (List.all_eq_true.1 h5 s hs); omega) (by have := nameB_len (List.all_eq_true.1 h5 s hs); omega) r), Option.bind_some]
  simp only
  rw [hdB_num h3 h4 (by omega), Option.bind_some]
  rcases h6 with ⟨rfl, rfl, rfl⟩ | ⟨rfl, h7, h8, h9⟩
  · rfl
  · have l7 := nameB_len h7
    have e1 : ¬ (((1 : UInt8).toNat : Int) = 0) := by decide
    simp only [if_true, List.append_assoc]
    rw [if_neg e1, hdX_text (by omega) (by omega), Option.bind_some]
    simp only
    rw [hdB_num h8 h9 (by omega), Option.bind_some]
theorem readI_inv {xs r : List UInt8} {x : It} (h : readI xs = some (x, r)) : xs = itBy x ++ r := by
  unfold readI at h
  obtain ⟨⟨nm, r1⟩, h1, h⟩ := Option.bind_eq_some_iff.1 h
  obtain ⟨⟨kd, r2⟩, h2, h⟩ := Option.bind_eq_some_iff.1 h
  obtain ⟨⟨mn, r3⟩, h3, h⟩ := Option.bind_eq_some_iff.1 h
  obtain ⟨⟨af, r4⟩, h4, h⟩ := Option.bind_eq_some_iff.1 h
  obtain ⟨⟨qu, r5⟩, h5, h⟩ := Option.bind_eq_some_iff.1 h
  obtain ⟨_, e1⟩ := hdX_inv h1
  obtain ⟨k0, k1, _, e2⟩ := hdB_inv h2
  obtain ⟨m0, m1, _, e3⟩ := hdB_inv h3
  obtain ⟨a0, e4, _⟩ := readM_inv (hdX 20) textB (fun _ => True) (fun xs x r hx => ⟨(hdX_inv hx).2, trivial⟩) _ _ _ _ h4
  obtain ⟨_, _, _, e5⟩ := hdB_inv h5
  simp only at e1 e2 e3 e4 e5 h k0 k1
  have hmn : (af.length : Int) = mn := by omega
  unfold itBy
  by_cases hk : kd = 0
  · rw [if_pos hk] at h
    cases h
    subst hk
    simp only [List.append_assoc]
    rw [e1, e2, e3, e4, e5, hmn]
    rfl
  · rw [if_neg hk] at h
    obtain ⟨⟨ov, r6⟩, h6, h⟩ := Option.bind_eq_some_iff.1 h
    obtain ⟨⟨wd, r7⟩, h7, h⟩ := Option.bind_eq_some_iff.1 h
    cases h
    obtain ⟨_, e6⟩ := hdX_inv h6
    obtain ⟨_, _, _, e7⟩ := hdB_inv h7
    simp only at e6 e7
    obtain rfl : kd = 1 := by omega
    simp only [List.append_assoc, if_true]
    rw [e1, e2, e3, e4, e5, e6, e7, hmn]
    rfl
theorem readR_by {x : It} (h : itB x = true) (r : List UInt8) : readR (itBy x ++ r) = some (x, r) := by
  unfold readR; rw [readI_by h, Option.bind_some]; simp only; rw [if_pos h]
theorem readR_inv {xs r : List UInt8} {x : It} (h : readR xs = some (x, r)) : xs = itBy x ++ r ∧ itB x = true := by
  unfold readR at h
  obtain ⟨p, hp, h⟩ := Option.bind_eq_some_iff.1 h
  split at h
  · cases h; exact ⟨readI_inv hp, ‹_›⟩
  · cases h
theorem takeF_by {l : List It} (h : fragB l = true) (r : List UInt8) : takeF (fragBy l ++ r) = some (l, r) := by
  obtain ⟨h1, h2⟩ := fragB_iff.1 h
  unfold takeF fragBy
  rw [List.append_assoc, hdB_num (by omega) (by omega) (by omega), Option.bind_some]
  simp only [Int.toNat_natCast]
  exact readM_by readR itBy l r (fun x hx r => readR_by (List.all_eq_true.1 h1 x hx) r)
theorem takeF_inv {xs r : List UInt8} {l : List It} (h : takeF xs = some (l, r)) : xs = fragBy l ++ r ∧ fragB l = true := by
  unfold takeF at h
  obtain ⟨⟨n, r1⟩, h1, h⟩ := Option.bind_eq_some_iff.1 h
  obtain ⟨a, b, _, e1⟩ := hdB_inv h1
  obtain ⟨e2, e3, e4⟩ := readM_inv readR itBy (fun x => itB x = true) (fun xs x r hx => readR_inv hx) _ _ _ _ h
  simp only at e1 e2 e3
  refine ⟨?_, fragB_iff.2 ⟨List.all_eq_true.2 e4, by omega⟩⟩
  unfold fragBy itsBy
  rw [e1, e3, List.append_assoc, show ((l.length : Int)) = n by omega]
theorem fragBy_inj {l m : List It} (hl : fragB l = true) (hm : fragB m = true) {r s : List UInt8} (h : fragBy l ++ r = fragBy m ++ s) : l = m ∧ r = s := by
  have h1 := takeF_by hl r
  rw [h, takeF_by hm s] at h1
  simp only [Option.some.injEq, Prod.mk.injEq] at h1
  exact ⟨h1.1.symm, h1.2.symm⟩
/-- Nothing less of a fragment's bytes is one. -/
theorem takeF_short {l : List It} (hl : fragB l = true) {i : Nat} (hi : i < (fragBy l).length) : takeF ((fragBy l).take i) = none := by
  cases hx : takeF ((fragBy l).take i) with
  | none => rfl
  | some p =>
    obtain ⟨u, r⟩ := p
    obtain ⟨a1, a2⟩ := takeF_inv hx
    have e : fragBy l ++ [] = fragBy u ++ (r ++ (fragBy l).drop i) := by
      rw [← List.append_assoc, ← a1, List.take_append_drop, List.append_nil]
    obtain ⟨-, h2⟩ := fragBy_inj hl a2 e
    have h3 := congrArg List.length h2
    simp at h3
    omega
end Fm
