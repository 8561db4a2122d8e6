/- Data in slices: a slice whose elements are of any kind. No program is imported. -/
import Derived.Test.YtdienbcjfljjnaaDoorPlA
import Derived.Test.YtdienbcjfljjnaaDoorPlT
import Derived.Lib.SlTrimSet
namespace Fm
open Go Go.RowKit

/-- A kind of data: how many cells one has, and how it lies in them. -/
structure Elem (α : Type) where
  sz : Nat
  R : World → α → (Nat → Value) → Prop
  ext : ∀ {w w' : World} {x : α} {c : Nat → Value}, Ext w w' → R w x c → R w' x c
  loc : ∀ {w : World} {x : α} {c d : Nat → Value}, (∀ j, j < sz → c j = d j) → R w x c → R w x d

/-- The slice v holds the list l. -/
def Elem.Row {α : Type} (E : Elem α) (w : World) (l : List α) (v : Value) : Prop :=
  ∃ a cap, v = .slice a l.length cap ∧ l.length ≤ cap ∧ cap ≤ maxLen ∧ (a = none → cap = 0) ∧ ∃ C : Nat → Nat → Value,
    (0 < l.length → ∃ b off, a = some ⟨b, off, none⟩ ∧ b < w.heap.size ∧ ∀ i j, i < l.length → j < E.sz → w.cell? ⟨b, off + (i * E.sz + j), none⟩ = some (C i j)) ∧
    (∀ (i : Nat) (hi : i < l.length), E.R w l[i] (C i))
theorem Elem.Row.ext {α : Type} {E : Elem α} {w w' : World} {l : List α} {v : Value} (h : E.Row w l v) (hx : Ext w w') : E.Row w' l v := by
  obtain ⟨a, cap, hv, h1, h2, h3, C, h4, h5⟩ := h
  refine ⟨a, cap, hv, h1, h2, h3, C, fun hp => ?_, fun i hi => E.ext hx (h5 i hi)⟩
  obtain ⟨b, off, ha, hb, hc⟩ := h4 hp
  exact ⟨b, off, ha, Nat.lt_of_lt_of_le hb hx.size, fun i j hi hj => (hx.cell (p := ⟨b, _, none⟩) hb).trans (hc i j hi hj)⟩
theorem Elem.Row.void {α : Type} (E : Elem α) (w : World) (a : Option Addr) : E.Row w [] (.slice a 0 0) :=
  ⟨a, 0, rfl, by simp, by simp [maxLen], fun _ => rfl, fun _ _ => .nilFunc, fun h => by simp at h, fun i hi => by simp at hi⟩
theorem Elem.Row.slice {α : Type} {E : Elem α} {w : World} {l : List α} {v : Value} (h : E.Row w l v) : ∃ a cap, v = .slice a l.length cap ∧ l.length ≤ cap ∧ cap ≤ 9223372036854775807 := by
  obtain ⟨a, cap, hv, h1, h2, _⟩ := h
  exact ⟨a, cap, hv, h1, by unfold maxLen at h2; omega⟩
theorem Elem.Row.length_le {α : Type} {E : Elem α} {w : World} {l : List α} {v : Value} (h : E.Row w l v) : l.length ≤ 9223372036854775807 := by
  obtain ⟨a, cap, _, h1, h2⟩ := h.slice; omega
/-- An element: its cells, in a world that has grown. -/
theorem Elem.Row.at {α : Type} {E : Elem α} {w : World} {l : List α} {a : Option Addr} {n cap : Nat} (h : E.Row w l (.slice a n cap)) (hp : 0 < l.length) :
    n = l.length ∧ ∃ b off, a = some ⟨b, off, none⟩ ∧ b < w.heap.size ∧ ∀ i (hi : i < l.length), ∃ c : Nat → Value, E.R w l[i] c ∧ ∀ j, j < E.sz → ∀ wr, Ext w wr → wr.cell? ⟨b, off + (i * E.sz + j), none⟩ = some (c j) := by
  obtain ⟨a', cap', hv, h1, h2, h3, C, h4, h5⟩ := h
  injection hv with e1 e2 e3
  obtain ⟨b, off, ha, hb, hc⟩ := h4 hp
  subst e1
  exact ⟨e2, b, off, ha, hb, fun i hi => ⟨C i, h5 i hi, fun j hj wr hx => (hx.cell (p := ⟨b, _, none⟩) hb).trans (hc i j hi hj)⟩⟩
theorem Elem.Row.mk {α : Type} {E : Elem α} {w : World} {l : List α} {b off n cap : Nat} (hn : n = l.length) (h1 : l.length ≤ cap) (h2 : cap ≤ maxLen) (hb : b < w.heap.size)
    (hc : ∀ i (hi : i < l.length), ∃ c : Nat → Value, E.R w l[i] c ∧ ∀ j, j < E.sz → w.cell? ⟨b, off + (i * E.sz + j), none⟩ = some (c j)) : E.Row w l (.slice (some ⟨b, off, none⟩) n cap) := by
  subst hn
  refine ⟨_, cap, rfl, h1, h2, fun h => (by cases h), fun i => if hi : i < l.length then Classical.choose (hc i hi) else fun _ => .nilFunc, fun _ => ⟨b, off, rfl, hb, fun i j hi hj => ?_⟩, fun i hi => ?_⟩
  · simp only [dif_pos hi]; exact (Classical.choose_spec (hc i hi)).2 j hj
  · simp only [dif_pos hi]; exact (Classical.choose_spec (hc i hi)).1
/-- The first k. -/
theorem Elem.Row.take {α : Type} {E : Elem α} {w : World} {l : List α} {a : Option Addr} {n cap : Nat} (h : E.Row w l (.slice a n cap)) {k : Nat} (hk : k ≤ l.length) : E.Row w (l.take k) (.slice a k cap) := by
  obtain ⟨a', cap', hv, h1, h2, h3, C, h4, h5⟩ := h
  injection hv with e1 e2 e3
  subst e1 e3
  have hl : (l.take k).length = k := by simp; omega
  refine ⟨a, cap, by rw [hl], by omega, h2, h3, C, fun hp => ?_, fun i hi => ?_⟩
  · obtain ⟨b, off, ha, hb, hc⟩ := h4 (by omega)
    exact ⟨b, off, ha, hb, fun i j hi hj => hc i j (by omega) hj⟩
  · rw [List.getElem_take]; exact h5 i (by omega)
/-- What is behind the first k. -/
theorem Elem.Row.drop {α : Type} {E : Elem α} {w : World} {l : List α} {a : Option Addr} {n cap : Nat} (h : E.Row w l (.slice a n cap)) {k : Nat} (hk : k ≤ l.length) :
    E.Row w (l.drop k) (.slice (if cap = k then a else a.map (·.add (k * E.sz))) (n - k) (cap - k)) := by
  obtain ⟨a', cap', hv, h1, h2, h3, C, h4, h5⟩ := h
  injection hv with e1 e2 e3
  subst e1 e3 e2
  have hl : (l.drop k).length = l.length - k := by simp
  refine ⟨_, _, by rw [hl], by omega, by omega, ?_, fun i => C (k + i), fun hp => ?_, fun i hi => ?_⟩
  · intro hn
    by_cases hck : cap = k
    · omega
    · rw [if_neg hck] at hn
      cases a with
      | none => have := h3 rfl; omega
      | some ad => simp at hn
  · obtain ⟨b, off, ha, hb, hc⟩ := h4 (by omega)
    refine ⟨b, off + k * E.sz, ?_, hb, fun i j hi hj => ?_⟩
    · rw [if_neg (by omega), ha]; simp [Addr.add_lit]
    · have := hc (k + i) j (by omega) hj
      rw [← this]; congr 2; rw [Nat.add_mul]; omega
  · rw [List.getElem_drop]; exact h5 (k + i) (by omega)

/-! ### kinds -/
def strE : Elem (List UInt8) where
  sz := 1
  R _ s c := c 0 = .string (str s) ∧ s.length ≤ 9223372036854775807
  ext _ h := h
  loc hc h := ⟨(hc 0 (by omega)).symm.trans h.1, h.2⟩
def intE : Elem Int where
  sz := 1
  R _ n c := c 0 = .int .i64 n ∧ isI64 n
  ext _ h := h
  loc hc h := ⟨(hc 0 (by omega)).symm.trans h.1, h.2⟩
def u8E : Elem UInt8 where
  sz := 1
  R _ k c := c 0 = .int .u8 (k.toNat : Int)
  ext _ h := h
  loc hc h := (hc 0 (by omega)).symm.trans h
def rowE {α : Type} (E : Elem α) : Elem (List α) where
  sz := 1
  R w l c := E.Row w l (c 0)
  ext hx h := h.ext hx
  loc hc h := by rw [← hc 0 (by omega)]; exact h
end Fm

/- Fragments: right forms, bytes, what is taken: plain facts. No program is imported. -/
namespace Fm
open Go Go.RowKit

/-- An item. -/
structure It where
  name : List UInt8
  kind : UInt8
  after : List (List UInt8)
  over : List UInt8
  width : Int
  quota : Int
def itE : Elem It where
  sz := 6
  R w x c := c 0 = .string (str x.name) ∧ c 1 = .int .u8 (x.kind.toNat : Int) ∧ strE.Row w x.after (c 2) ∧ c 3 = .string (str x.over) ∧ c 4 = .int .i64 x.width ∧ c 5 = .int .i64 x.quota ∧
    x.name.length ≤ 9223372036854775807 ∧ x.over.length ≤ 9223372036854775807 ∧ isI64 x.width ∧ isI64 x.quota
  ext hx h := ⟨h.1, h.2.1, h.2.2.1.ext hx, h.2.2.2⟩
  loc hc h := ⟨(hc 0 (by omega)).symm.trans h.1, (hc 1 (by omega)).symm.trans h.2.1, (by rw [← hc 2 (by omega)]; exact h.2.2.1), (hc 3 (by omega)).symm.trans h.2.2.2.1, (hc 4 (by omega)).symm.trans h.2.2.2.2.1, (hc 5 (by omega)).symm.trans h.2.2.2.2.2.1, h.2.2.2.2.2.2⟩

/-- A letter of a name. -/
def letB (c : UInt8) : Bool := (decide (97 ≤ c.toNat) && decide (c.toNat ≤ 122)) || (decide (48 ≤ c.toNat) && decide (c.toNat ≤ 57)) || decide (c.toNat = 95)
def nameB (s : List UInt8) : Bool := s.all letB && decide (1 ≤ s.length) && decide (s.length ≤ 20)
def itB (x : It) : Bool := nameB x.name && decide (x.after.length ≤ 20) && (decide (0 ≤ x.quota) && decide (x.quota ≤ 400)) && x.after.all nameB &&
  (if x.kind = 0 then decide (x.over = []) && decide (x.width = 0) else decide (x.kind = 1) && nameB x.over && (decide (0 ≤ x.width) && decide (x.width ≤ 40)))
def fragB (l : List It) : Bool := l.all itB && decide (l.length ≤ 40)
/-- Both are the same. -/
noncomputable def eqF (l m : List It) : Bool := @decide (l = m) (Classical.propDecidable _)
theorem eqF_iff {l m : List It} : eqF l m = true ↔ l = m := by unfold eqF; exact @decide_eq_true_iff _ (Classical.propDecidable _)
theorem eqF_ne {l m : List It} (h : l ≠ m) : eqF l m = false := by
  cases e : eqF l m with
  | false => rfl
  | true => exact absurd (eqF_iff.1 e) h
noncomputable def eqI (l m : It) : Bool := @decide (l = m) (Classical.propDecidable _)
theorem eqI_iff {l m : It} : eqI l m = true ↔ l = m := by unfold eqI; exact @decide_eq_true_iff _ (Classical.propDecidable _)
theorem eqI_ne {l m : It} (h : l ≠ m) : eqI l m = false := by
  cases e : eqI l m with
  | false => rfl
  | true => exact absurd (eqI_iff.1 e) h

/-- Bytes. -/
def namesBy (l : List (List UInt8)) : List UInt8 := (l.map textB).flatten
def itBy (x : It) : List UInt8 := textB x.name ++ (numB x.kind.toNat ++ (numB x.after.length ++ (namesBy x.after ++ (numB x.quota ++ (if x.kind = 1 then textB x.over ++ numB x.width else [])))))
def itsBy (l : List It) : List UInt8 := (l.map itBy).flatten
def fragBy (l : List It) : List UInt8 := numB l.length ++ itsBy l
theorem flat_at {α : Type} (f : α → List UInt8) (l : List α) (i : Nat) (hi : i < l.length) : ((l.take (i + 1)).map f).flatten = ((l.take i).map f).flatten ++ f l[i] := by
  rw [List.take_add_one, List.getElem?_eq_getElem hi, List.map_append, List.flatten_append]
  simp only [Option.toList_some, List.map_cons, List.map_nil, List.flatten_cons, List.flatten_nil, List.append_nil]
theorem flat_take_le {α : Type} (f : α → List UInt8) (l : List α) (i : Nat) : ((l.take i).map f).flatten.length ≤ (l.map f).flatten.length := by
  have h : (l.map f).flatten = ((l.take i).map f).flatten ++ ((l.drop i).map f).flatten := by
    rw [← List.flatten_append, ← List.map_append, List.take_append_drop]
  rw [h, List.length_append]; omega
theorem flat_len {α : Type} (f : α → List UInt8) (B : Nat) : ∀ l : List α, (∀ x, x ∈ l → (f x).length ≤ B) → (l.map f).flatten.length ≤ l.length * B
  | [], _ => by simp
  | x :: xs, h => by
    have h1 := flat_len f B xs (fun y hy => h y (List.mem_cons_of_mem _ hy))
    have h2 := h x (List.mem_cons_self ..)
    rw [List.map_cons, List.flatten_cons, List.length_append, List.length_cons, Nat.succ_mul]; omega
theorem nameB_iff {s : List UInt8} : nameB s = true ↔ s.all letB = true ∧ 1 ≤ s.length ∧ s.length ≤ 20 := by unfold nameB; simp [and_assoc]
theorem itB_iff {x : It} : itB x = true ↔ nameB x.name = true ∧ x.after.length ≤ 20 ∧ 0 ≤ x.quota ∧ x.quota ≤ 400 ∧ x.after.all nameB = true ∧
    ((x.kind = 0 ∧ x.over = [] ∧ x.width = 0) ∨ (x.kind = 1 ∧ nameB x.over = true ∧ 0 ≤ x.width ∧ x.width ≤ 40)) := by
  unfold itB
  by_cases h : x.kind = 0
  · simp [h, and_assoc]
  · simp [h, and_assoc]
theorem fragB_iff {l : List It} : fragB l = true ↔ l.all itB = true ∧ l.length ≤ 40 := by unfold fragB; simp

/-- A text of at most so many bytes at the head, and what is behind it. -/
def hdX (top : Int) (xs : List UInt8) : Option (List UInt8 × List UInt8) := (takeT xs top).map fun p => ((xs.drop p.1).take p.2, (xs.drop p.1).drop p.2)
theorem hdX_none {top : Int} {xs : List UInt8} (h : takeT xs top = none) : hdX top xs = none := by unfold hdX; rw [h]; rfl
theorem hdX_some {top : Int} {xs : List UInt8} {k n : Nat} (h : takeT xs top = some (k, n)) : hdX top xs = some ((xs.drop k).take n, (xs.drop k).drop n) := by unfold hdX; rw [h]; rfl
theorem hdX_text {top : Int} {s : List UInt8} (hs : s.length ≤ 1000000) (h : (s.length : Int) ≤ top) (r : List UInt8) : hdX top (textB s ++ r) = some (s, r) := by
  have hn : takeN (textB s ++ r) = some ((s.length : Int), (numB s.length).length) := by
    unfold textB; rw [List.append_assoc]; exact takeN_num (by unfold isI64; omega) _
  have ht := takeT_some (top := top) hn (by
    unfold textB; simp only [List.length_append]; omega)
  rw [hdX_some ht]
  simp [textB]
theorem hdX_inv {top : Int} {xs s r : List UInt8} (h : hdX top xs = some (s, r)) : (s.length : Int) ≤ top ∧ xs = textB s ++ r := by
  unfold hdX at h
  cases hT : takeT xs top with
  | none => rw [hT] at h; cases h
  | some p =>
    obtain ⟨k, n⟩ := p
    rw [hT] at h
    simp only [Option.map_some, Option.some.injEq, Prod.mk.injEq] at h
    obtain ⟨rfl, rfl⟩ := h
    obtain ⟨h1, h2, h3⟩ := takeT_inv hT
    have hl : ((xs.drop k).take n).length = n := by simp; omega
    obtain ⟨_, _, _, _, h5, _⟩ := takeN_inv h1
    refine ⟨by omega, ?_⟩
    unfold textB
    rw [hl, List.append_assoc, List.take_append_drop, ← h5, List.take_append_drop]
/-- A number from 0 to another one at the head. -/
def hdB (high : Int) (xs : List UInt8) : Option (Int × List UInt8) := (hdN xs).bind fun p => if p.1 < 0 ∨ high < p.1 then none else some p
theorem hdB_num {high n : Int} (h0 : 0 ≤ n) (h1 : n ≤ high) (h2 : n ≤ 1000000) (r : List UInt8) : hdB high (numB n ++ r) = some (n, r) := by
  unfold hdB; rw [hdN_num (by unfold isI64; omega)]; simp; omega
theorem hdB_inv {high n : Int} {xs r : List UInt8} (h : hdB high xs = some (n, r)) : 0 ≤ n ∧ n ≤ high ∧ isI64 n ∧ xs = numB n ++ r := by
  unfold hdB at h
  obtain ⟨p, hp, hq⟩ := Option.bind_eq_some_iff.1 h
  split at hq
  · cases hq
  · rename_i hb
    cases hq
    obtain ⟨a, b⟩ := hdN_inv hp
    exact ⟨by omega, by omega, a, b⟩

/-- So many, each as it is read. -/
def readM {α : Type} (f : List UInt8 → Option (α × List UInt8)) : Nat → List UInt8 → Option (List α × List UInt8)
  | 0, xs => some ([], xs)
  | n + 1, xs => (f xs).bind fun p => (readM f n p.2).map fun q => (p.1 :: q.1, q.2)
theorem readM_by {α : Type} (f : List UInt8 → Option (α × List UInt8)) (g : α → List UInt8) : ∀ (l : List α) (r : List UInt8), (∀ x, x ∈ l → ∀ r, f (g x ++ r) = some (x, r)) → readM f l.length ((l.map g).flatten ++ r) = some (l, r)
  | [], r, _ => rfl
  | x :: xs, r, h => by
    rw [List.length_cons, readM, List.map_cons, List.flatten_cons, List.append_assoc, h x (List.mem_cons_self ..)]
    simp only [Option.bind_some]
    rw [readM_by f g xs r (fun y hy => h y (List.mem_cons_of_mem _ hy))]
    rfl
theorem readM_inv {α : Type} (f : List UInt8 → Option (α × List UInt8)) (g : α → List UInt8) (P : α → Prop) (hf : ∀ xs x r, f xs = some (x, r) → xs = g x ++ r ∧ P x) :
    ∀ (n : Nat) (xs : List UInt8) (l : List α) (r : List UInt8), readM f n xs = some (l, r) → l.length = n ∧ xs = (l.map g).flatten ++ r ∧ ∀ x, x ∈ l → P x
  | 0, xs, l, r, h => by
    rw [readM] at h
    cases h
    exact ⟨rfl, rfl, fun x hx => by cases hx⟩
  | n + 1, xs, l, r, h => by
    rw [readM] at h
    obtain ⟨⟨x, r1⟩, hx, h⟩ := Option.bind_eq_some_iff.1 h
    obtain ⟨⟨m, r2⟩, hm, h⟩ := Option.map_eq_some_iff.1 h
    cases h
    obtain ⟨a, b⟩ := hf _ _ _ hx
    obtain ⟨c, d, e⟩ := readM_inv f g P hf n _ _ _ hm
    refine ⟨by rw [List.length_cons, c], ?_, fun y hy => ?_⟩
    · rw [List.map_cons, List.flatten_cons, List.append_assoc, ← d, a]
    · rcases List.mem_cons.1 hy with rfl | hy
      · exact b
      · exact e y hy
/-- One round of it, from the end: what is read of the first i, and the next. -/
theorem readM_snoc {α : Type} (f : List UInt8 → Option (α × List UInt8)) : ∀ (i : Nat) (xs : List UInt8), readM f (i + 1) xs = (readM f i xs).bind fun p => (f p.2).map fun q => (p.1 ++ [q.1], q.2)
  | 0, xs => by
    rw [readM, readM]
    simp only [Option.bind_some]
    cases f xs with
    | none => rfl
    | some p => rw [Option.bind_some, readM]; rfl
  | i + 1, xs => by
    rw [readM, readM]
    cases f xs with
    | none => rfl
    | some p =>
      simp only [Option.bind_some]
      rw [readM_snoc f i p.2]
      cases readM f i p.2 with
      | none => rfl
      | some q =>
        simp only [Option.bind_some, Option.map_some]
        cases f q.2 with
        | none => rfl
        | some z => rfl
theorem readM_none {α : Type} (f : List UInt8 → Option (α × List UInt8)) {i n : Nat} {xs : List UInt8} (h : readM f i xs = none) (hi : i ≤ n) : readM f n xs = none := by
  obtain ⟨d, rfl⟩ : ∃ d, n = i + d := ⟨n - i, by omega⟩
  clear hi
  induction d with
  | zero => exact h
  | succ d ih => rw [← Nat.add_assoc, readM_snoc, ih]; rfl

/-- An item, right or not, at the head. -/
def readI (xs : List UInt8) : Option (It × List UInt8) :=
  (hdX 20 xs).bind fun a => (hdB 1 a.2).bind fun b => (hdB 20 b.2).bind fun c => (readM (hdX 20) c.1.toNat c.2).bind fun d => (hdB 400 d.2).bind fun e =>
    if b.1 = 0 then some (⟨a.1, 0, d.1, [], 0, e.1⟩, e.2) else (hdX 20 e.2).bind fun f => (hdB 40 f.2).bind fun g => some (⟨a.1, 1, d.1, f.1, g.1, e.1⟩, g.2)
def readR (xs : List UInt8) : Option (It × List UInt8) := (readI xs).bind fun p => if itB p.1 then some p else none
/-- A fragment at the head. -/
def takeF (xs : List UInt8) : Option (List It × List UInt8) := (hdB 40 xs).bind fun p => readM readR p.1.toNat p.2

theorem nameB_len {s : List UInt8} (h : nameB s = true) : s.length ≤ 20 := (nameB_iff.1 h).2.2
theorem readI_by {x : It} (h : itB x = true) (r : List UInt8) : readI (itBy x ++ r) = some (x, r) := by
  obtain ⟨h1, h2, h3, h4, h5, h6⟩ := itB_iff.1 h
  obtain ⟨nm, kd, af, ov, wd, qu⟩ := x
  simp only at h1 h2 h3 h4 h5 h6
  have l1 := nameB_len h1
  have hk : (kd.toNat : Int) ≤ 1 := by rcases h6 with ⟨rfl, _⟩ | ⟨rfl, _⟩ <;> decide
  unfold readI itBy
  simp only [List.append_assoc]
  rw [hdX_text (by omega) (by omega), Option.bind_some, hdB_num (by omega) hk (by omega), Option.bind_some, hdB_num (by omega) (by omega) (by omega), Option.bind_some]
  simp only [Int.toNat_natCast]
  unfold namesBy
  rw [readM_by (hdX 20) textB af _ (fun s hs r => hdX_text (by have := nameB_len (List.all_eq_true.1 h5 s hs); omega) (by have := nameB_len (List.all_eq_true.1 h5 s hs); omega) r), Option.bind_some]
  simp only
  rw [hdB_num h3 h4 (by omega), Option.bind_some]
  rcases h6 with ⟨rfl, rfl, rfl⟩ | ⟨rfl, h7, h8, h9⟩
  · rfl
  · have l7 := nameB_len h7
    have e1 : ¬ (((1 : UInt8).toNat : Int) = 0) := by decide
    simp only [if_true, List.append_assoc]
    rw [if_neg e1, hdX_text (by omega) (by omega), Option.bind_some]
    simp only
    rw [hdB_num h8 h9 (by omega), Option.bind_some]
theorem readI_inv {xs r : List UInt8} {x : It} (h : readI xs = some (x, r)) : xs = itBy x ++ r := by
  unfold readI at h
  obtain ⟨⟨nm, r1⟩, h1, h⟩ := Option.bind_eq_some_iff.1 h
  obtain ⟨⟨kd, r2⟩, h2, h⟩ := Option.bind_eq_some_iff.1 h
  obtain ⟨⟨mn, r3⟩, h3, h⟩ := Option.bind_eq_some_iff.1 h
  obtain ⟨⟨af, r4⟩, h4, h⟩ := Option.bind_eq_some_iff.1 h
  obtain ⟨⟨qu, r5⟩, h5, h⟩ := Option.bind_eq_some_iff.1 h
  obtain ⟨_, e1⟩ := hdX_inv h1
  obtain ⟨k0, k1, _, e2⟩ := hdB_inv h2
  obtain ⟨m0, m1, _, e3⟩ := hdB_inv h3
  obtain ⟨a0, e4, _⟩ := readM_inv (hdX 20) textB (fun _ => True) (fun xs x r hx => ⟨(hdX_inv hx).2, trivial⟩) _ _ _ _ h4
  obtain ⟨_, _, _, e5⟩ := hdB_inv h5
  simp only at e1 e2 e3 e4 e5 h k0 k1
  have hmn : (af.length : Int) = mn := by omega
  unfold itBy
  by_cases hk : kd = 0
  · rw [if_pos hk] at h
    cases h
    subst hk
    simp only [List.append_assoc]
    rw [e1, e2, e3, e4, e5, hmn]
    rfl
  · rw [if_neg hk] at h
    obtain ⟨⟨ov, r6⟩, h6, h⟩ := Option.bind_eq_some_iff.1 h
    obtain ⟨⟨wd, r7⟩, h7, h⟩ := Option.bind_eq_some_iff.1 h
    cases h
    obtain ⟨_, e6⟩ := hdX_inv h6
    obtain ⟨_, _, _, e7⟩ := hdB_inv h7
    simp only at e6 e7
    obtain rfl : kd = 1 := by omega
    simp only [List.append_assoc, if_true]
    rw [e1, e2, e3, e4, e5, e6, e7, hmn]
    rfl
theorem readR_by {x : It} (h : itB x = true) (r : List UInt8) : readR (itBy x ++ r) = some (x, r) := by
  unfold readR; rw [readI_by h, Option.bind_some]; simp only; rw [if_pos h]
theorem readR_inv {xs r : List UInt8} {x : It} (h : readR xs = some (x, r)) : xs = itBy x ++ r ∧ itB x = true := by
  unfold readR at h
  obtain ⟨p, hp, h⟩ := Option.bind_eq_some_iff.1 h
  split at h
  · cases h; exact ⟨readI_inv hp, ‹_›⟩
  · cases h
theorem takeF_by {l : List It} (h : fragB l = true) (r : List UInt8) : takeF (fragBy l ++ r) = some (l, r) := by
  obtain ⟨h1, h2⟩ := fragB_iff.1 h
  unfold takeF fragBy
  rw [List.append_assoc, hdB_num (by omega) (by omega) (by omega), Option.bind_some]
  simp only [Int.toNat_natCast]
  exact readM_by readR itBy l r (fun x hx r => readR_by (List.all_eq_true.1 h1 x hx) r)
theorem takeF_inv {xs r : List UInt8} {l : List It} (h : takeF xs = some (l, r)) : xs = fragBy l ++ r ∧ fragB l = true := by
  unfold takeF at h
  obtain ⟨⟨n, r1⟩, h1, h⟩ := Option.bind_eq_some_iff.1 h
  obtain ⟨a, b, _, e1⟩ := hdB_inv h1
  obtain ⟨e2, e3, e4⟩ := readM_inv readR itBy (fun x => itB x = true) (fun xs x r hx => readR_inv hx) _ _ _ _ h
  simp only at e1 e2 e3
  refine ⟨?_, fragB_iff.2 ⟨List.all_eq_true.2 e4, by omega⟩⟩
  unfold fragBy itsBy
  rw [e1, e3, List.append_assoc, show ((l.length : Int)) = n by omega]
theorem fragBy_inj {l m : List It} (hl : fragB l = true) (hm : fragB m = true) {r s : List UInt8} (h : fragBy l ++ r = fragBy m ++ s) : l = m ∧ r = s := by
  have h1 := takeF_by hl r
  rw [h, takeF_by hm s] at h1
  simp only [Option.some.injEq, Prod.mk.injEq] at h1
  exact ⟨h1.1.symm, h1.2.symm⟩
/-- Nothing less of a fragment's bytes is one. -/
theorem takeF_short {l : List It} (hl : fragB l = true) {i : Nat} (hi : i < (fragBy l).length) : takeF ((fragBy l).take i) = none := by
  cases hx : takeF ((fragBy l).take i) with
  | none => rfl
  | some p =>
    obtain ⟨u, r⟩ := p
    obtain ⟨a1, a2⟩ := takeF_inv hx
    have e : fragBy l ++ [] = fragBy u ++ (r ++ (fragBy l).drop i) := by
      rw [← List.append_assoc, ← a1, List.take_append_drop, List.append_nil]
    obtain ⟨-, h2⟩ := fragBy_inj hl a2 e
    have h3 := congrArg List.length h2
    simp at h3
    omega
end Fm

/- Names: a text's letters, and what strings.Trim leaves of it: plain facts. No program is imported. -/
namespace Fm
open Go Go.RowKit

/-- The letters of a name. -/
def letL : List UInt8 := [97, 98, 99, 100, 101, 102, 103, 104, 105, 106, 107, 108, 109, 110, 111, 112, 113, 114, 115, 116, 117, 118, 119, 120, 121, 122, 48, 49, 50, 51, 52, 53, 54, 55, 56, 57, 95]
theorem letL_has (c : UInt8) : letL.contains c = letB c := by
  have h : ∀ n, n < 256 → letL.contains (UInt8.ofNat n) = letB (UInt8.ofNat n) := by decide +kernel
  have := h c.toNat c.toNat_lt
  rwa [UInt8.ofNat_toNat] at this
theorem dropWhile_nil {p : UInt8 → Bool} : ∀ l : List UInt8, l.dropWhile p = [] ↔ l.all p = true
  | [] => by simp
  | c :: l => by
    rw [List.dropWhile_cons, List.all_cons]
    by_cases h : p c = true
    · rw [if_pos h, h, Bool.true_and]; exact dropWhile_nil l
    · rw [if_neg h]; simp [h]
theorem dropWhile_all {p : UInt8 → Bool} : ∀ l : List UInt8, (l.dropWhile p).all p = l.all p
  | [] => rfl
  | c :: l => by
    rw [List.dropWhile_cons]
    by_cases h : p c = true
    · rw [if_pos h, List.all_cons, h, Bool.true_and]; exact dropWhile_all l
    · rw [if_neg h]
theorem trim_nil (s : List UInt8) : Lib.trimS s letL = [] ↔ s.all letB = true := by
  have e : (fun b => letL.contains b) = letB := funext letL_has
  unfold Lib.trimS Lib.trimLeftS Lib.trimRightS
  rw [e, dropWhile_nil, List.all_reverse, dropWhile_all, List.all_reverse]
theorem nameB_short {s : List UInt8} (h : ¬ 1 ≤ s.length) : nameB s = false := by unfold nameB; simp; omega
theorem nameB_long {s : List UInt8} (h : ¬ s.length ≤ 20) : nameB s = false := by unfold nameB; simp; omega
theorem nameB_all {s : List UInt8} (h1 : 1 ≤ s.length) (h2 : s.length ≤ 20) : nameB s = s.all letB := by unfold nameB; simp [h1, h2]
theorem all_at {f : UInt8 → Bool} {s : List UInt8} {j : Nat} (hj : j < s.length) (h : (s.take j).all f = true) (hx : f s[j] = true) : (s.take (j + 1)).all f = true := by
  rw [List.take_add_one, List.getElem?_eq_getElem hj, List.all_append, h]; simpa using hx
theorem all_not {f : UInt8 → Bool} {s : List UInt8} {j : Nat} (hj : j < s.length) (hx : f s[j] = false) : s.all f = false := by
  rw [List.all_eq_false]; exact ⟨s[j], List.getElem_mem hj, by simp [hx]⟩
end Fm

/- Items and texts in slices: what a walk asks. No program is imported. -/
namespace Fm
open Go Go.RowKit

/-- An item as a value. -/
def ItV (w : World) (x : It) (v : Value) : Prop :=
  ∃ (a : Option Addr) (m c : Nat), v = .agg #[.string (str x.name), .int .u8 (x.kind.toNat : Int), .slice a m c, .string (str x.over), .int .i64 x.width, .int .i64 x.quota] ∧ strE.Row w x.after (.slice a m c) ∧
    x.name.length ≤ 9223372036854775807 ∧ x.over.length ≤ 9223372036854775807 ∧ isI64 x.width ∧ isI64 x.quota
theorem ItV.ext {w w' : World} {x : It} {v : Value} (h : ItV w x v) (hx : Ext w w') : ItV w' x v := by
  obtain ⟨a, m, c, hv, hr, h⟩ := h
  exact ⟨a, m, c, hv, hr.ext hx, h⟩
theorem strRow_slice {w : World} {l : List (List UInt8)} {v : Value} (h : strE.Row w l v) : ∃ (a : Option Addr) (c : Nat), v = .slice a l.length c ∧ l.length ≤ c ∧ c ≤ 9223372036854775807 ∧ strE.Row w l (.slice a l.length c) := by
  obtain ⟨a, c, rfl, h1, h2⟩ := h.slice
  exact ⟨a, c, rfl, h1, h2, h⟩
theorem ItV.len {w : World} {x : It} {a : Option Addr} {m c : Nat} {n k o wd q : Value} (h : ItV w x (.agg #[n, k, .slice a m c, o, wd, q])) : m = x.after.length := by
  obtain ⟨a', m', c', hv, hr, _⟩ := h
  obtain ⟨a2, c2, e, _⟩ := hr.slice
  simp at hv
  injection e with _ e _
  omega
theorem ItV.row {w : World} {x : It} {d n k o wd q : Value} (h : ItV w x (.agg #[n, k, d, o, wd, q])) : strE.Row w x.after d := by
  obtain ⟨a', m', c', hv, hr, _⟩ := h
  injection hv with hv
  have := congrArg (fun z => z[2]?) hv
  simp at this
  rw [this]; exact hr
/-- An element of a slice of items, in a world that has grown. -/
theorem it_at {w wr : World} {l : List It} {a : Option Addr} {n cap : Nat} (h : itE.Row w l (.slice a n cap)) (hE : Ext w wr) (i : Nat) (hi : i < l.length) :
    ∃ (b off : Nat), a = some ⟨b, off, none⟩ ∧ b < w.heap.size ∧ ∃ (aa : Option Addr) (m c : Nat), wr.cell? ⟨b, off + i * 6, none⟩ = some (.string (str l[i].name)) ∧ wr.cell? ⟨b, off + i * 6 + 1, none⟩ = some (.int .u8 (l[i].kind.toNat : Int)) ∧ wr.cell? ⟨b, off + i * 6 + 2, none⟩ = some (.slice aa m c) ∧
      wr.cell? ⟨b, off + i * 6 + 3, none⟩ = some (.string (str l[i].over)) ∧ wr.cell? ⟨b, off + i * 6 + 4, none⟩ = some (.int .i64 l[i].width) ∧ wr.cell? ⟨b, off + i * 6 + 5, none⟩ = some (.int .i64 l[i].quota) ∧
      ItV w l[i] (.agg #[.string (str l[i].name), .int .u8 (l[i].kind.toNat : Int), .slice aa m c, .string (str l[i].over), .int .i64 l[i].width, .int .i64 l[i].quota]) := by
  obtain ⟨hn, b, off, ha, hb, hc⟩ := h.at (by omega)
  obtain ⟨c, hR, hcell⟩ := hc i hi
  obtain ⟨r0, r1, r2, r3, r4, r5, r6⟩ := hR
  obtain ⟨aa, cc, e2, _⟩ := r2.slice
  refine ⟨b, off, ha, hb, aa, l[i].after.length, cc, ?_, ?_, ?_, ?_, ?_, ?_, aa, _, cc, rfl, by rw [← e2]; exact r2, r6⟩
  · have := hcell 0 (by decide) wr hE; rw [r0] at this; exact this
  · have := hcell 1 (by decide) wr hE; rw [r1] at this; exact this
  · have := hcell 2 (by decide) wr hE; rw [e2] at this; exact this
  · have := hcell 3 (by decide) wr hE; rw [r3] at this; exact this
  · have := hcell 4 (by decide) wr hE; rw [r4] at this; exact this
  · have := hcell 5 (by decide) wr hE; rw [r5] at this; exact this
/-- An element of a slice of texts. -/
theorem str_at {w wr : World} {l : List (List UInt8)} {a : Option Addr} {n cap : Nat} (h : strE.Row w l (.slice a n cap)) (hE : Ext w wr) (i : Nat) (hi : i < l.length) :
    ∃ (b off : Nat), a = some ⟨b, off, none⟩ ∧ b < w.heap.size ∧ wr.cell? ⟨b, off + i, none⟩ = some (.string (str l[i])) ∧ l[i].length ≤ 9223372036854775807 := by
  obtain ⟨hn, b, off, ha, hb, hc⟩ := h.at (by omega)
  obtain ⟨c, ⟨r0, r1⟩, hcell⟩ := hc i hi
  refine ⟨b, off, ha, hb, ?_, r1⟩
  have := hcell 0 (by decide) wr hE
  rw [r0] at this
  have e : i * strE.sz + 0 = i := by show i * 1 + 0 = i; omega
  rw [e] at this
  exact this
/-- The first that it is so of; else -1. -/
def idxL {α : Type} (p : α → Bool) (l : List α) : Int := match l.findIdx? p with | some i => (i : Int) | none => -1
/-- What an IndexFunc comes to: q: of each, in order; J: how the world stands behind so many. -/
def IdxPost (n : Nat) (q : Nat → Bool) (J : Nat → World → Prop) (e : Ending) (w' : World) : Prop :=
  (∃ i, i < n ∧ q i = true ∧ (∀ j, j < i → q j = false) ∧ e = .returned (.int .i64 (i : Int)) ∧ J (i + 1) w') ∨ ((∀ j, j < n → q j = false) ∧ e = .returned (.int .i64 (-1)) ∧ J n w')
/-- What a ContainsFunc comes to. -/
def HasPost (n : Nat) (q : Nat → Bool) (J : Nat → World → Prop) (e : Ending) (w' : World) : Prop :=
  (∃ i, i < n ∧ q i = true ∧ (∀ j, j < i → q j = false) ∧ e = .returned (.bool true) ∧ J (i + 1) w') ∨ ((∀ j, j < n → q j = false) ∧ e = .returned (.bool false) ∧ J n w')
theorem idx_some {α : Type} {p : α → Bool} {l : List α} {i : Nat} (hi : i < l.length) (h1 : p l[i] = true) (h2 : ∀ j (hj : j < i), p l[j] = false) : idxL p l = (i : Int) := by
  unfold idxL
  have : l.findIdx? p = some i := by
    rw [List.findIdx?_eq_some_iff_getElem]
    exact ⟨hi, h1, fun j hj => by simp [h2 j hj]⟩
  rw [this]
theorem idx_none {α : Type} {p : α → Bool} {l : List α} (h : ∀ j (hj : j < l.length), p l[j] = false) : idxL p l = -1 := by
  unfold idxL
  have : l.findIdx? p = none := by
    rw [List.findIdx?_eq_none_iff]
    intro x hx
    obtain ⟨j, hj, rfl⟩ := List.getElem_of_mem hx
    exact h j hj
  rw [this]
theorem any_some {α : Type} {p : α → Bool} {l : List α} {i : Nat} (hi : i < l.length) (h1 : p l[i] = true) : l.any p = true := List.any_eq_true.2 ⟨l[i], List.getElem_mem hi, h1⟩
theorem any_none {α : Type} {p : α → Bool} {l : List α} (h : ∀ j (hj : j < l.length), p l[j] = false) : l.any p = false := by
  rw [List.any_eq_false]
  intro x hx
  obtain ⟨j, hj, rfl⟩ := List.getElem_of_mem hx
  simp [h j hj]
end Fm

/- Light fragments: plain facts. No program is imported. -/
namespace Fm
open Go Go.RowKit

def lightI (x : It) : Bool := decide (x.after.length ≤ 40) && decide (x.name.length ≤ 100) && decide (x.over.length ≤ 100) && x.after.all (fun s => decide (s.length ≤ 100))
def fewF (l : List It) : Bool := l.all lightI && decide (l.length ≤ 60)
theorem lightI_iff {x : It} : lightI x = true ↔ x.after.length ≤ 40 ∧ x.name.length ≤ 100 ∧ x.over.length ≤ 100 ∧ ∀ s, s ∈ x.after → s.length ≤ 100 := by unfold lightI; simp [and_assoc]
theorem lightI_mk {x : It} (h1 : x.after.length ≤ 40) (h2 : x.name.length ≤ 100) (h3 : x.over.length ≤ 100) (h4 : x.after.all (fun s => decide (s.length ≤ 100)) = true) : lightI x = true := by
  unfold lightI; rw [h4]; simp [h1, h2, h3]
theorem lightI_after {x : It} (h : 40 < x.after.length) : lightI x = false := by
  cases e : lightI x with
  | false => rfl
  | true => have := (lightI_iff.1 e).1; omega
theorem lightI_name {x : It} (h : 100 < x.name.length) : lightI x = false := by
  cases e : lightI x with
  | false => rfl
  | true => have := (lightI_iff.1 e).2.1; omega
theorem lightI_over {x : It} (h : 100 < x.over.length) : lightI x = false := by
  cases e : lightI x with
  | false => rfl
  | true => have := (lightI_iff.1 e).2.2.1; omega
theorem lightI_text {x : It} {k : Nat} (hk : k < x.after.length) (h : 100 < x.after[k].length) : lightI x = false := by
  cases e : lightI x with
  | false => rfl
  | true => have := (lightI_iff.1 e).2.2.2 _ (List.getElem_mem hk); omega
theorem fewF_not {l : List It} {j : Nat} (hj : j < l.length) (h : lightI l[j] = false) : fewF l = false := by
  unfold fewF
  have : l.all lightI = false := by rw [List.all_eq_false]; exact ⟨l[j], List.getElem_mem hj, by simp [h]⟩
  rw [this]; rfl
theorem fewF_iff {l : List It} : fewF l = true ↔ (∀ x, x ∈ l → lightI x = true) ∧ l.length ≤ 60 := by unfold fewF; simp
end Fm

/- Texts and items in memory of their own: plain facts. No program is imported. -/
namespace Fm
open Go Go.RowKit

def strV (s : List UInt8) : Value := .string (str s)
/-- The texts l in a row of their own, from block 'base' on. e: the elements' type. -/
def OwnS (e : TypeId) (base : Nat) (w : World) (v : Value) (l : List (List UInt8)) : Prop := w.ownsRow base e 1 v l.length (l.map strV) ∧ ∀ s, s ∈ l → s.length ≤ 9223372036854775807
theorem OwnS.nil (e : TypeId) (base : Nat) (w : World) : OwnS e base w (.slice none 0 0) [] := ⟨World.ownsRow_nil w base e 1, fun s h => by cases h⟩
theorem OwnS.ext {e : TypeId} {base : Nat} {w w' : World} {v : Value} {l : List (List UInt8)} (h : OwnS e base w v l) (hE : Ext w w') : OwnS e base w' v l := ⟨hE.own h.1, h.2⟩
theorem ownsRow_base {w : World} {base base' e size n : Nat} {v : Value} {xs : List Value} (h : w.ownsRow base e size v n xs) (hb : base' ≤ base) : w.ownsRow base' e size v n xs := by
  refine ⟨h.1, ?_⟩
  rcases h.2 with h | ⟨g, cap, cur, a, b, c⟩
  · exact .inl h
  · exact .inr ⟨g, cap, cur, a, by omega, c⟩
theorem OwnS.mono {e : TypeId} {base base' : Nat} {w : World} {v : Value} {l : List (List UInt8)} (h : OwnS e base w v l) (hb : base' ≤ base) : OwnS e base' w v l := ⟨ownsRow_base h.1 hb, h.2⟩
theorem OwnS.kept {e : TypeId} {base : Nat} {w w' : World} {v : Value} {l : List (List UInt8)} {row : Option Nat} (h : OwnS e base w v l) (hg : w.grownBy w' row) (hr : ∀ b, v.ownBlock = some b → row ≠ some b) : OwnS e base w' v l :=
  ⟨h.1.kept hg (by
    cases hv : v.ownBlock with
    | none => exact .inl rfl
    | some b => right; exact fun e => hr b hv e.symm), h.2⟩
theorem OwnS.row {e : TypeId} {base : Nat} {w : World} {v : Value} {l : List (List UInt8)} (h : OwnS e base w v l) : strE.Row w l v := by
  have hc := fun g => World.ownsRow.cells h.1 (g := g)
  rcases h.1.2 with ⟨rfl, h0⟩ | ⟨g, cap, cur, rfl, hb, hg, h1, h2, h3, h4⟩
  · have : l = [] := List.eq_nil_of_length_eq_zero h0
    subst this
    exact Elem.Row.void strE w none
  · refine Elem.Row.mk rfl h1 h2 (Array.getElem?_eq_some_iff.1 hg).1 (fun i hi => ⟨fun _ => strV l[i], ⟨rfl, h.2 _ (List.getElem_mem hi)⟩, fun j hj => ?_⟩)
    have := hc g rfl i (strV l[i]) (by simp [hi])
    rw [Addr.add_lit] at this
    have e : (0 + (i * strE.sz + j)) = 0 + i := by
      have : j < 1 := hj
      show 0 + (i * 1 + j) = 0 + i
      omega
    rw [e]; exact this
theorem OwnS.block {e : TypeId} {base : Nat} {w : World} {v : Value} {l : List (List UInt8)} (h : OwnS e base w v l) : ∀ b, v.ownBlock = some b → base ≤ b ∧ b < w.heap.size := h.1.lt
theorem OwnS.snoc {e : TypeId} {base : Nat} {w' : World} {v' : Value} {l : List (List UInt8)} {s : List UInt8} (h : w'.ownsRow base e 1 v' (l.length + 1) (l.map strV ++ [strV s])) (hl : ∀ s, s ∈ l → s.length ≤ 9223372036854775807) (hs : s.length ≤ 9223372036854775807) : OwnS e base w' v' (l ++ [s]) := by
  refine ⟨by rw [List.length_append, List.map_append]; exact h, fun x hx => ?_⟩
  rcases List.mem_append.1 hx with hx | hx
  · exact hl x hx
  · rw [List.mem_singleton.1 hx]; exact hs

/-- 'append(s, x)' of one element, which a new block holds. -/
theorem wpList_appOne {P : Program} {w : World} {ops : Array Oper} {rest : List Oper} {o : Oper} {a : Act} {Q : Exit → Act → World → Prop} {t e : TypeId} {z : Value} {size bytes : Nat} (he : ElemOf P t e z size bytes)
    (hg : Region.wanted o (yielded ops a.tmps) = true) (s x : Operand) (hop : o.op = Op.call { callee := Callee.builtin Builtin.append, args := #[s, x], argTypes := #[t, t] }) {base : Nat}
    {v : Value} {k : Nat} {xs : List Value} (hs : a.eval s = v) (hown : w.ownsRow base e size v k xs) {B cp : Nat} {news : List Value} {e' : TypeId} {fr : Nat × Nat} (hx : a.eval x = .slice (some ⟨B, 0, none⟩) 1 cp)
    (hB : w.heap[B]? = some (.cells news.toArray e' fr)) (hn : news.length = size) (h1 : ∀ u ∈ news, u.oneCell' = true) (hb : k ≤ 1000) (hby : bytes ≤ 1000) (b3 : base ≤ w.heap.size)
    (hK : ∀ v' w', w'.ownsRow base e size v' (k + 1) (xs ++ news) → w.grownBy w' v.ownBlock → (v'.ownBlock = v.ownBlock ∨ v'.ownBlock = some w.heap.size) → wpList P ops Q rest (a.put o.dst v') w') :
    wpList P ops Q (o :: rest) a w := by
  have hm : (k + 1) * bytes ≤ 1001 * 1000 := Nat.mul_le_mul (by omega) hby
  refine wpList_appAt w he hg s x t hop base v k xs hs hown _ 1 news hx (Src.ofSlice _ he.1 _ _ _ _ (by rw [hn]; omega) ?_ h1) (by unfold maxLen; omega) (by omega) b3 hK
  intro j u hu
  rw [Addr.add_lit]
  simp only [World.cell?, hB]
  simpa using hu
end Fm

/- Fragments in memory of their own: plain facts. No program is imported. -/
namespace Fm
open Go Go.RowKit

def itCells (x : It) (d : Value) : List Value := [.string (str x.name), .int .u8 (x.kind.toNat : Int), d, .string (str x.over), .int .i64 x.width, .int .i64 x.quota]
def itWf (x : It) : Prop := x.name.length ≤ 9223372036854775807 ∧ x.over.length ≤ 9223372036854775807 ∧ isI64 x.width ∧ isI64 x.quota
/-- The cells of all items. -/
def itsCells (l : List It) (ds : List Value) : List Value := (List.zipWith itCells l ds).flatten
theorem itsCells_snoc {l : List It} {ds : List Value} (h : ds.length = l.length) (x : It) (d : Value) : itsCells (l ++ [x]) (ds ++ [d]) = itsCells l ds ++ itCells x d := by
  unfold itsCells
  rw [List.zipWith_append h.symm, List.flatten_append]
  simp
theorem itsCells_at : ∀ (l : List It) (ds : List Value) (i j : Nat) (hi : i < l.length) (hd : i < ds.length), j < 6 → (itsCells l ds)[i * 6 + j]? = (itCells l[i] ds[i])[j]?
  | [], _, i, _, hi, _, _ => by simp at hi
  | _ :: _, [], i, _, _, hd, _ => by simp at hd
  | x :: l, d :: ds, 0, j, _, _, hj => by
    unfold itsCells
    rw [List.zipWith_cons_cons, List.flatten_cons, List.getElem?_append_left (by simp [itCells]; omega)]
    simp
  | x :: l, d :: ds, i + 1, j, hi, hd, hj => by
    have ih := itsCells_at l ds i j (by simpa using hi) (by simpa using hd) hj
    unfold itsCells at ih ⊢
    rw [List.zipWith_cons_cons, List.flatten_cons, List.getElem?_append_right (by simp [itCells]; omega)]
    have e : (i + 1) * 6 + j - (itCells x d).length = i * 6 + j := by simp [itCells]; omega
    rw [e, ih]
    simp
/-- A fragment in memory of its own from block 'base' on. -/
def OwnF (eI eS : TypeId) (base : Nat) (w : World) (v : Value) (l : List It) : Prop :=
  ∃ ds : List Value, ds.length = l.length ∧ w.ownsRow base eI 6 v l.length (itsCells l ds) ∧
    ∀ i (hi : i < l.length) (hd : i < ds.length), OwnS eS base w ds[i] l[i].after ∧ itWf l[i] ∧ ∀ b, ds[i].ownBlock = some b → v.ownBlock ≠ some b
theorem OwnF.nil (eI eS : TypeId) (base : Nat) (w : World) : OwnF eI eS base w (.slice none 0 0) [] := ⟨[], rfl, World.ownsRow_nil w base eI 6, fun i hi => by simp at hi⟩
theorem OwnF.ext {eI eS : TypeId} {base : Nat} {w w' : World} {v : Value} {l : List It} (h : OwnF eI eS base w v l) (hE : Ext w w') : OwnF eI eS base w' v l := by
  obtain ⟨ds, h1, h2, h3⟩ := h
  exact ⟨ds, h1, hE.own h2, fun i hi hd => ⟨(h3 i hi hd).1.ext hE, (h3 i hi hd).2⟩⟩
theorem OwnF.mono {eI eS : TypeId} {base base' : Nat} {w : World} {v : Value} {l : List It} (h : OwnF eI eS base w v l) (hb : base' ≤ base) : OwnF eI eS base' w v l := by
  obtain ⟨ds, h1, h2, h3⟩ := h
  exact ⟨ds, h1, ownsRow_base h2 hb, fun i hi hd => ⟨(h3 i hi hd).1.mono hb, (h3 i hi hd).2⟩⟩
theorem OwnF.kept {eI eS : TypeId} {base : Nat} {w w' : World} {v : Value} {l : List It} {row : Option Nat} (h : OwnF eI eS base w v l) (hg : w.grownBy w' row) (hr : ∀ b, row = some b → b < base) : OwnF eI eS base w' v l := by
  obtain ⟨ds, h1, h2, h3⟩ := h
  have hlt := h2.lt
  refine ⟨ds, h1, h2.kept hg ?_, fun i hi hd => ⟨(h3 i hi hd).1.kept hg (fun b hb e => by have := hr b e; have := ((h3 i hi hd).1.block b hb).1; omega), (h3 i hi hd).2⟩⟩
  cases hv : v.ownBlock with
  | none => exact .inl rfl
  | some b => right; exact fun e => by have := hr b e.symm; have := (hlt b hv).1; omega
theorem OwnF.row {eI eS : TypeId} {base : Nat} {w : World} {v : Value} {l : List It} (h : OwnF eI eS base w v l) : itE.Row w l v := by
  obtain ⟨ds, h1, h2, h3⟩ := h
  have hc := fun g => World.ownsRow.cells h2 (g := g)
  rcases h2.2 with ⟨rfl, h0⟩ | ⟨g, cap, cur, rfl, hb, hg, hl, hm, h5, h6⟩
  · have : l = [] := List.eq_nil_of_length_eq_zero h0
    subst this
    exact Elem.Row.void itE w none
  · refine Elem.Row.mk rfl hl hm (Array.getElem?_eq_some_iff.1 hg).1 (fun i hi => ?_)
    have hd : i < ds.length := by omega
    obtain ⟨a1, a2, _⟩ := h3 i hi hd
    refine ⟨fun j => (itCells l[i] ds[i]).getD j .nilFunc, ⟨rfl, rfl, a1.row, rfl, rfl, rfl, a2⟩, fun j hj => ?_⟩
    have hj6 : j < 6 := hj
    have := hc g rfl (i * 6 + j) ((itCells l[i] ds[i]).getD j .nilFunc) (by
      rw [itsCells_at l ds i j hi hd hj6, List.getD_eq_getElem?_getD, List.getElem?_eq_getElem (by simp [itCells]; omega)]
      rfl)
    rw [Addr.add_lit] at this
    exact this
theorem OwnF.snoc {eI eS : TypeId} {base : Nat} {w w' : World} {v v' : Value} {l : List It} {x : It} {d : Value} {xs : List Value} (h : OwnF eI eS base w v l) (hd : OwnS eS base w d x.after) (hw : itWf x) (hdv : ∀ b, d.ownBlock = some b → v.ownBlock ≠ some b)
    (hx : w.ownsRow base eI 6 v l.length xs) (hrow : w'.ownsRow base eI 6 v' (l.length + 1) (xs ++ itCells x d)) (hg : w.grownBy w' v.ownBlock) (hat : v'.ownBlock = v.ownBlock ∨ v'.ownBlock = some w.heap.size) : OwnF eI eS base w' v' (l ++ [x]) := by
  obtain ⟨ds, h1, h2, h3⟩ := h
  have hxs : xs = itsCells l ds := by
    rcases h2.2 with ⟨hv, h0⟩ | ⟨g, cap, cur, hv, _, hgg, _, _, _, ht4⟩
    · have a1 := h2.1; have a2 := hx.1
      rw [h0] at a1 a2
      have b1 : itsCells l ds = [] := List.eq_nil_of_length_eq_zero (by omega)
      have b2 : xs = [] := List.eq_nil_of_length_eq_zero (by omega)
      rw [b1, b2]
    · rcases hx.2 with ⟨hv2, _⟩ | ⟨g2, cap2, cur2, hv2, _, hgg2, _, _, _, ht42⟩
      · rw [hv] at hv2; cases hv2
      · rw [hv] at hv2
        injection hv2 with ha _ _
        injection ha with ha
        injection ha with ha
        subst ha
        rw [hgg] at hgg2
        injection hgg2 with hc
        injection hc with hc
        rw [← ht4, ← ht42, hc]
  subst hxs
  refine ⟨ds ++ [d], by simp [h1], by rw [itsCells_snoc h1, List.length_append]; exact hrow, fun i hi hid => ?_⟩
  by_cases hil : i < l.length
  · have hil2 : i < ds.length := by omega
    rw [List.getElem_append_left hil, List.getElem_append_left hil2]
    obtain ⟨a1, a2, a3⟩ := h3 i hil hil2
    refine ⟨a1.kept hg (fun b hb e => a3 b hb e), a2, fun b hb e => ?_⟩
    rcases hat with h | h
    · exact a3 b hb (by rw [← h]; exact e)
    · rw [h] at e; injection e with e; have := (a1.block b hb).2; omega
  · have e1 : i = l.length := by simp at hi; omega
    subst e1
    have e2 : (ds ++ [d])[l.length]'hid = d := by rw [List.getElem_append_right (by omega)]; simp [h1]
    rw [List.getElem_append_right (Nat.le_refl _), e2]
    simp only [Nat.sub_self, List.getElem_cons_zero]
    refine ⟨hd.kept hg (fun b hb e => hdv b hb e), hw, fun b hb e => ?_⟩
    rcases hat with h | h
    · exact hdv b hb (by rw [← h]; exact e)
    · rw [h] at e; injection e with e; have := (hd.block b hb).2; omega
end Fm

/- The reader of fragments: its state, and what it reads: plain facts. No program is imported. -/
namespace Fm
open Go Go.RowKit

/-- Block R is the reader's: so much is left; is it bad? -/
structure RdF (w0 w : World) (R : Nat) (v : Value) (xs : List UInt8) (bad : Bool) : Prop where
  ext : Ext w0 w
  old : w0.heap.size ≤ R
  lt : R < w.heap.size
  c0 : w.cell? ⟨R, 0, none⟩ = some v
  c1 : w.cell? ⟨R, 1, none⟩ = some (.bool bad)
  f0 : w.frozen? ⟨R, 0, none⟩ = false
  f1 : w.frozen? ⟨R, 1, none⟩ = false
  bytes : Bytes w0 v xs
theorem RdF.then {w0 w w' : World} {R : Nat} {v : Value} {xs : List UInt8} {bad : Bool} (h : RdF w0 w R v xs bad) (hE : Ext w w') : RdF w0 w' R v xs bad :=
  ⟨h.ext.trans hE, h.old, Nat.lt_of_lt_of_le h.lt hE.size, (hE.cell (p := ⟨R, 0, none⟩) h.lt).trans h.c0, (hE.cell (p := ⟨R, 1, none⟩) h.lt).trans h.c1, (hE.frozen (p := ⟨R, 0, none⟩) h.lt).trans h.f0, (hE.frozen (p := ⟨R, 1, none⟩) h.lt).trans h.f1, h.bytes⟩
theorem RdF.kept {w0 w w' : World} {R : Nat} {v : Value} {xs : List UInt8} {bad : Bool} {row : Option Nat} (h : RdF w0 w R v xs bad) (hg : w.grownBy w' row) (hr : ∀ k, row = some k → w0.heap.size ≤ k ∧ k ≠ R) : RdF w0 w' R v xs bad := by
  have hne : some R ≠ row := fun e => (hr R e.symm).2 rfl
  exact ⟨h.ext.grown hg (fun k hk => (hr k hk).1), h.old, Nat.lt_of_lt_of_le h.lt hg.size, (hg.cell_far ⟨R, 0, none⟩ h.lt hne).trans h.c0, (hg.cell_far ⟨R, 1, none⟩ h.lt hne).trans h.c1, (hg.frozen_far ⟨R, 0, none⟩ h.lt hne).trans h.f0, (hg.frozen_far ⟨R, 1, none⟩ h.lt hne).trans h.f1, h.bytes⟩
theorem setOne_grown (w : World) (R j : Nat) (u : Value) : w.grownBy (w.setCell ⟨R, j, none⟩ u) (some R) :=
  ⟨rfl, rfl, rfl, by simp [World.setCell], fun k _ hk => Below.heap_setCell _ _ _ _ (fun e => hk (by simp [e]))⟩
theorem RdF.setBad {w0 w : World} {R : Nat} {v : Value} {xs : List UInt8} {bad : Bool} (h : RdF w0 w R v xs bad) (b : Bool) : RdF w0 (w.setCell ⟨R, 1, none⟩ (.bool b)) R v xs b := by
  refine ⟨h.ext.setCell h.old _, h.old, by simp [h.lt], ?_, World.cell?_setCell_same _ _ _ h.c1, by rw [World.frozen?_setCell]; exact h.f0, by rw [World.frozen?_setCell]; exact h.f1, h.bytes⟩
  exact (World.cell?_setCell_other w _ _ _ (fun e => by injection e with _ e _; omega)).trans h.c0
theorem RdF.setLeft {w0 w : World} {R : Nat} {v v' : Value} {xs ys : List UInt8} {bad : Bool} (h : RdF w0 w R v xs bad) (hb : Bytes w0 v' ys) : RdF w0 (w.setCell ⟨R, 0, none⟩ v') R v' ys bad := by
  refine ⟨h.ext.setCell h.old _, h.old, by simp [h.lt], World.cell?_setCell_same _ _ _ h.c0, ?_, by rw [World.frozen?_setCell]; exact h.f0, by rw [World.frozen?_setCell]; exact h.f1, hb⟩
  exact (World.cell?_setCell_other w _ _ _ (fun e => by injection e with _ e _; omega)).trans h.c1

/-- The state: what is left; none: it is bad. -/
def RdS (w0 w : World) (R : Nat) (s : Option (List UInt8)) : Prop := ∃ v ys, RdF w0 w R v ys s.isNone ∧ ∀ xs, s = some xs → ys = xs
theorem RdS.then {w0 w w' : World} {R : Nat} {s : Option (List UInt8)} (h : RdS w0 w R s) (hE : Ext w w') : RdS w0 w' R s := let ⟨v, ys, h, k⟩ := h; ⟨v, ys, h.then hE, k⟩
theorem RdS.kept {w0 w w' : World} {R : Nat} {s : Option (List UInt8)} {row : Option Nat} (h : RdS w0 w R s) (hg : w.grownBy w' row) (hr : ∀ k, row = some k → w0.heap.size ≤ k ∧ k ≠ R) : RdS w0 w' R s :=
  let ⟨v, ys, h, k⟩ := h; ⟨v, ys, h.kept hg hr, k⟩
theorem RdS.lt {w0 w : World} {R : Nat} {s : Option (List UInt8)} (h : RdS w0 w R s) : R < w.heap.size := let ⟨_, _, h, _⟩ := h; h.lt
theorem RdS.ext {w0 w : World} {R : Nat} {s : Option (List UInt8)} (h : RdS w0 w R s) : Ext w0 w := let ⟨_, _, h, _⟩ := h; h.ext
theorem RdS.old {w0 w : World} {R : Nat} {s : Option (List UInt8)} (h : RdS w0 w R s) : w0.heap.size ≤ R := let ⟨_, _, h, _⟩ := h; h.old

/-- A number from 0 to another one. -/
def numS (high : Int) (s : Option (List UInt8)) : Int × Option (List UInt8) := match s.bind (hdB high) with | some (n, r) => (n, some r) | none => (0, none)
/-- A text. -/
def textS (s : Option (List UInt8)) : List UInt8 × Option (List UInt8) := match s.bind (hdX 20) with | some (t, r) => (t, some r) | none => ([], none)
theorem numS_none (high : Int) : numS high none = (0, none) := rfl
theorem textS_none : textS none = ([], none) := rfl
theorem numS_some {high : Int} {xs r : List UInt8} {n : Int} (h : hdB high xs = some (n, r)) : numS high (some xs) = (n, some r) := by unfold numS; rw [Option.bind_some, h]
theorem numS_bad {high : Int} {xs : List UInt8} (h : hdB high xs = none) : numS high (some xs) = (0, none) := by unfold numS; rw [Option.bind_some, h]
theorem textS_some {xs r t : List UInt8} (h : hdX 20 xs = some (t, r)) : textS (some xs) = (t, some r) := by unfold textS; rw [Option.bind_some, h]
theorem textS_bad {xs : List UInt8} (h : hdX 20 xs = none) : textS (some xs) = ([], none) := by unfold textS; rw [Option.bind_some, h]
theorem numS_range (high : Int) (hh : 0 ≤ high) (s : Option (List UInt8)) : 0 ≤ (numS high s).1 ∧ (numS high s).1 ≤ high := by
  unfold numS
  cases h : s.bind (hdB high) with
  | none => exact ⟨by simp, by simpa using hh⟩
  | some p =>
    obtain ⟨n, r⟩ := p
    obtain ⟨xs, _, h⟩ := Option.bind_eq_some_iff.1 h
    obtain ⟨a, b, _⟩ := hdB_inv h
    exact ⟨a, b⟩
theorem textS_len (s : Option (List UInt8)) : (textS s).1.length ≤ 20 := by
  unfold textS
  cases h : s.bind (hdX 20) with
  | none => simp
  | some p =>
    obtain ⟨n, r⟩ := p
    obtain ⟨xs, _, h⟩ := Option.bind_eq_some_iff.1 h
    have := (hdX_inv h).1
    simp only; omega
/-- So many: each is taken in, as long as it is not bad. -/
def loopS {α : Type} (f : Option (List UInt8) → α × Option (List UInt8)) : Nat → List α → Option (List UInt8) → List α × Option (List UInt8)
  | 0, acc, s => (acc, s)
  | n + 1, acc, s => loopS f n (if (f s).2.isNone then acc else acc ++ [(f s).1]) (f s).2
def manyS {α : Type} (high : Int) (f : Option (List UInt8) → α × Option (List UInt8)) (s : Option (List UInt8)) : List α × Option (List UInt8) := loopS f (numS high s).1.toNat [] (numS high s).2
/-- An item. -/
def itemS (s : Option (List UInt8)) : It × Option (List UInt8) :=
  let a := textS s
  let b := numS 1 a.2
  let c := manyS 20 textS b.2
  let d := numS 400 c.2
  let e := if b.1 = 1 then textS d.2 else ([], d.2)
  let f := if b.1 = 1 then numS 40 e.2 else (0, e.2)
  let x : It := ⟨a.1, UInt8.ofNat b.1.toNat, c.1, e.1, f.1, d.1⟩
  (x, if f.2.isNone || !itB x then none else f.2)
/-- All of it. -/
def fragS (s : Option (List UInt8)) : List It × Option (List UInt8) := manyS 40 itemS s
end Fm

/- What frag's reader reads is what the bytes say: plain facts. No program is imported. -/
namespace Fm
open Go Go.RowKit

/-- f reads as g does. -/
def Reads2 {α : Type} (f : Option (List UInt8) → α × Option (List UInt8)) (g : List UInt8 → Option (α × List UInt8)) : Prop :=
  (f none).2 = none ∧ ∀ xs, match g xs with | some (x, r) => f (some xs) = (x, some r) | none => (f (some xs)).2 = none
theorem reads2_text : Reads2 textS (hdX 20) := by
  refine ⟨rfl, fun xs => ?_⟩
  cases h : hdX 20 xs with
  | none => simp only; rw [textS_bad h]
  | some p => obtain ⟨t, r⟩ := p; simp only; exact textS_some h
theorem reads2_num (high : Int) : Reads2 (numS high) (hdB high) := by
  refine ⟨rfl, fun xs => ?_⟩
  cases h : hdB high xs with
  | none => simp only; rw [numS_bad h]
  | some p => obtain ⟨t, r⟩ := p; simp only; exact numS_some h
theorem loopS_none {α : Type} {f : Option (List UInt8) → α × Option (List UInt8)} (hf : (f none).2 = none) : ∀ (n : Nat) (acc : List α), loopS f n acc none = (acc, none)
  | 0, acc => rfl
  | n + 1, acc => by
    rw [loopS, hf]
    exact loopS_none hf n acc
theorem loopS_some {α : Type} {f : Option (List UInt8) → α × Option (List UInt8)} {g : List UInt8 → Option (α × List UInt8)} (hf : Reads2 f g) : ∀ (n : Nat) (acc : List α) (xs : List UInt8),
    match readM g n xs with | some (l, r) => loopS f n acc (some xs) = (acc ++ l, some r) | none => (loopS f n acc (some xs)).2 = none
  | 0, acc, xs => by
    rw [readM, loopS]; simp
  | n + 1, acc, xs => by
    have h := hf.2 xs
    rw [readM, loopS]
    cases hg : g xs with
    | none =>
      rw [hg] at h
      simp only at h
      simp only [Option.bind_none]
      rw [h, loopS_none hf.1]
    | some p =>
      obtain ⟨x, r⟩ := p
      rw [hg] at h
      simp only at h
      rw [Option.bind_some, h]
      simp only [Option.isNone_some, Bool.false_eq_true, if_false]
      have ih := loopS_some hf n (acc ++ [x]) r
      cases hm : readM g n r with
      | none => rw [hm] at ih; simp only [Option.map_none]; exact ih
      | some q =>
        obtain ⟨l, r2⟩ := q
        rw [hm] at ih
        simp only [Option.map_some]
        rw [ih, List.append_assoc]; rfl
theorem reads2_many {α : Type} {f : Option (List UInt8) → α × Option (List UInt8)} {g : List UInt8 → Option (α × List UInt8)} (high : Int) (hf : Reads2 f g) :
    Reads2 (manyS high f) (fun xs => (hdB high xs).bind fun p => readM g p.1.toNat p.2) := by
  refine ⟨?_, fun xs => ?_⟩
  · unfold manyS; rw [numS_none, loopS_none hf.1]
  · have h := (reads2_num high).2 xs
    unfold manyS
    dsimp only
    cases hb : hdB high xs with
    | none =>
      rw [hb] at h
      simp only [Option.bind_none]
      simp only at h
      rw [h, loopS_none hf.1]
    | some p =>
      obtain ⟨n, r⟩ := p
      rw [hb] at h
      simp only at h
      rw [Option.bind_some, h]
      simp only
      have := loopS_some hf n.toNat [] r
      cases hm : readM g n.toNat r with
      | none => rw [hm] at this; exact this
      | some q =>
        obtain ⟨l, r2⟩ := q
        rw [hm] at this
        simp only at this ⊢
        rw [this, List.nil_append]
theorem manyText_none : (manyS 20 textS none) = ([], none) := rfl
theorem reads2_item : Reads2 itemS readR := by
  refine ⟨rfl, fun xs => ?_⟩
  have hA := reads2_text.2 xs
  unfold readR readI itemS
  cases ha : hdX 20 xs with
  | none =>
    rw [ha] at hA
    simp only at hA
    simp only [Option.bind_none]
    rw [hA, numS_none, manyText_none, numS_none]
    rfl
  | some p =>
    obtain ⟨nm, r1⟩ := p
    rw [ha] at hA
    simp only at hA
    rw [hA]
    simp only [Option.bind_some]
    have hB := (reads2_num 1).2 r1
    cases hb : hdB 1 r1 with
    | none =>
      rw [hb] at hB
      simp only at hB
      have e : numS 1 (some r1) = (0, none) := numS_bad hb
      simp only [Option.bind_none]
      rw [e, manyText_none, numS_none]
      rfl
    | some p =>
      obtain ⟨kd, r2⟩ := p
      rw [hb] at hB
      simp only at hB
      rw [hB]
      simp only [Option.bind_some]
      obtain ⟨k0, k1, _⟩ := hdB_inv hb
      have hC := (reads2_many 20 reads2_text).2 r2
      dsimp only at hC
      cases hc : hdB 20 r2 with
      | none =>
        rw [hc] at hC
        simp only [Option.bind_none] at hC ⊢
        have e : ∀ l s, manyS 20 textS (some r2) = (l, s) → s = none := fun l s h => by rw [h] at hC; exact hC
        obtain ⟨l, s⟩ : ∃ l s, manyS 20 textS (some r2) = (l, s) := ⟨_, _, rfl⟩
        obtain ⟨s, hl⟩ := s
        obtain rfl := e _ _ hl
        rw [hl, numS_none]
        simp only
        by_cases h1 : kd = 1
        · rw [if_pos h1, if_pos h1, textS_none, numS_none]; rfl
        · rw [if_neg h1, if_neg h1]; rfl
      | some p =>
        obtain ⟨mn, r3⟩ := p
        rw [hc] at hC
        simp only [Option.bind_some] at hC ⊢
        cases hd : readM (hdX 20) mn.toNat r3 with
        | none =>
          rw [hd] at hC
          simp only [Option.bind_none] at hC ⊢
          have e : ∀ l s, manyS 20 textS (some r2) = (l, s) → s = none := fun l s h => by rw [h] at hC; exact hC
          obtain ⟨l, s⟩ : ∃ l s, manyS 20 textS (some r2) = (l, s) := ⟨_, _, rfl⟩
          obtain ⟨s, hl⟩ := s
          obtain rfl := e _ _ hl
          rw [hl, numS_none]
          simp only
          by_cases h1 : kd = 1
          · rw [if_pos h1, if_pos h1, textS_none, numS_none]; rfl
          · rw [if_neg h1, if_neg h1]; rfl
        | some p =>
          obtain ⟨af, r4⟩ := p
          rw [hd] at hC
          simp only [Option.bind_some] at hC ⊢
          rw [hC]
          simp only
          cases he : hdB 400 r4 with
          | none =>
            rw [numS_bad he]
            simp only [Option.bind_none]
            by_cases h1 : kd = 1
            · rw [if_pos h1, if_pos h1, textS_none, numS_none]; rfl
            · rw [if_neg h1, if_neg h1]; rfl
          | some p =>
            obtain ⟨qu, r5⟩ := p
            rw [numS_some he]
            simp only [Option.bind_some]
            by_cases h1 : kd = 1
            · subst h1
              rw [if_pos rfl, if_pos rfl, if_neg (by decide)]
              cases hf : hdX 20 r5 with
              | none => rw [textS_bad hf, numS_none]; rfl
              | some p =>
                obtain ⟨ov, r6⟩ := p
                rw [textS_some hf]
                simp only [Option.bind_some]
                cases hg : hdB 40 r6 with
                | none => rw [numS_bad hg]; rfl
                | some p =>
                  obtain ⟨wd, r7⟩ := p
                  rw [numS_some hg]
                  simp only [Option.bind_some]
                  rw [show UInt8.ofNat (Int.toNat 1) = 1 from rfl]
                  by_cases hi : itB ⟨nm, 1, af, ov, wd, qu⟩ = true
                  · rw [if_pos hi]
                    show ((⟨nm, 1, af, ov, wd, qu⟩ : It), if (false || !itB ⟨nm, 1, af, ov, wd, qu⟩) = true then none else some r7) = _
                    rw [hi]; rfl
                  · rw [if_neg hi]
                    show (if (false || !itB ⟨nm, 1, af, ov, wd, qu⟩) = true then none else some r7) = none
                    rw [Bool.not_eq_true] at hi
                    rw [hi]; rfl
            · obtain rfl : kd = 0 := by omega
              rw [if_pos (rfl : (0 : Int) = 0)]
              simp only [Option.bind_some, if_neg (show ¬ (0 : Int) = 1 by decide)]
              rw [show UInt8.ofNat (Int.toNat 0) = 0 from rfl]
              by_cases hi : itB ⟨nm, 0, af, [], 0, qu⟩ = true
              · rw [if_pos hi]
                show ((⟨nm, 0, af, [], 0, qu⟩ : It), if (false || !itB ⟨nm, 0, af, [], 0, qu⟩) = true then none else some r5) = _
                rw [hi]; rfl
              · rw [if_neg hi]
                show (if (false || !itB ⟨nm, 0, af, [], 0, qu⟩) = true then none else some r5) = none
                rw [Bool.not_eq_true] at hi
                rw [hi]; rfl
theorem fragS_some {xs r : List UInt8} {l : List It} (h : takeF xs = some (l, r)) : fragS (some xs) = (l, some r) := by
  have := (reads2_many 40 reads2_item).2 xs
  dsimp only at this
  have e : ((hdB 40 xs).bind fun p => readM readR p.1.toNat p.2) = some (l, r) := h
  rw [e] at this
  exact this
theorem fragS_none {xs : List UInt8} (h : takeF xs = none) : (fragS (some xs)).2 = none := by
  have := (reads2_many 40 reads2_item).2 xs
  dsimp only at this
  have e : ((hdB 40 xs).bind fun p => readM readR p.1.toNat p.2) = none := h
  rw [e] at this
  exact this
end Fm

/- The reference's read of an item, step by step: plain facts. No program is imported. -/
namespace Fm
open Go Go.RowKit

theorem readI_n1 {xs : List UInt8} (h : hdX 20 xs = none) : readI xs = none := by unfold readI; rw [h]; rfl
theorem readI_n2 {xs : List UInt8} {a : List UInt8 × List UInt8} (h : hdX 20 xs = some a) (h2 : hdB 1 a.2 = none) : readI xs = none := by unfold readI; rw [h, Option.bind_some, h2]; rfl
theorem readI_n3 {xs : List UInt8} {a : List UInt8 × List UInt8} {b : Int × List UInt8} (h : hdX 20 xs = some a) (h2 : hdB 1 a.2 = some b) (h3 : hdB 20 b.2 = none) : readI xs = none := by
  unfold readI; rw [h, Option.bind_some, h2, Option.bind_some, h3]; rfl
theorem readI_n4 {xs : List UInt8} {a : List UInt8 × List UInt8} {b c : Int × List UInt8} (h : hdX 20 xs = some a) (h2 : hdB 1 a.2 = some b) (h3 : hdB 20 b.2 = some c) (h4 : readM (hdX 20) c.1.toNat c.2 = none) : readI xs = none := by
  unfold readI; rw [h, Option.bind_some, h2, Option.bind_some, h3, Option.bind_some, h4]; rfl
theorem readI_n5 {xs : List UInt8} {a : List UInt8 × List UInt8} {b c : Int × List UInt8} {d : List (List UInt8) × List UInt8} (h : hdX 20 xs = some a) (h2 : hdB 1 a.2 = some b) (h3 : hdB 20 b.2 = some c) (h4 : readM (hdX 20) c.1.toNat c.2 = some d) (h5 : hdB 400 d.2 = none) : readI xs = none := by
  unfold readI; rw [h, Option.bind_some, h2, Option.bind_some, h3, Option.bind_some, h4, Option.bind_some, h5]; rfl
theorem readI_task {xs : List UInt8} {a : List UInt8 × List UInt8} {b c : Int × List UInt8} {d : List (List UInt8) × List UInt8} {e : Int × List UInt8} (h : hdX 20 xs = some a) (h2 : hdB 1 a.2 = some b) (h3 : hdB 20 b.2 = some c) (h4 : readM (hdX 20) c.1.toNat c.2 = some d) (h5 : hdB 400 d.2 = some e) (hb : b.1 = 0) :
    readI xs = some (⟨a.1, 0, d.1, [], 0, e.1⟩, e.2) := by
  unfold readI; rw [h, Option.bind_some, h2, Option.bind_some, h3, Option.bind_some, h4, Option.bind_some, h5, Option.bind_some, if_pos hb]
theorem readI_n6 {xs : List UInt8} {a : List UInt8 × List UInt8} {b c : Int × List UInt8} {d : List (List UInt8) × List UInt8} {e : Int × List UInt8} (h : hdX 20 xs = some a) (h2 : hdB 1 a.2 = some b) (h3 : hdB 20 b.2 = some c) (h4 : readM (hdX 20) c.1.toNat c.2 = some d) (h5 : hdB 400 d.2 = some e) (hb : ¬ b.1 = 0) (h6 : hdX 20 e.2 = none) : readI xs = none := by
  unfold readI; rw [h, Option.bind_some, h2, Option.bind_some, h3, Option.bind_some, h4, Option.bind_some, h5, Option.bind_some, if_neg hb, h6]; rfl
theorem readI_n7 {xs : List UInt8} {a : List UInt8 × List UInt8} {b c : Int × List UInt8} {d : List (List UInt8) × List UInt8} {e : Int × List UInt8} {f : List UInt8 × List UInt8} (h : hdX 20 xs = some a) (h2 : hdB 1 a.2 = some b) (h3 : hdB 20 b.2 = some c) (h4 : readM (hdX 20) c.1.toNat c.2 = some d) (h5 : hdB 400 d.2 = some e) (hb : ¬ b.1 = 0) (h6 : hdX 20 e.2 = some f) (h7 : hdB 40 f.2 = none) : readI xs = none := by
  unfold readI; rw [h, Option.bind_some, h2, Option.bind_some, h3, Option.bind_some, h4, Option.bind_some, h5, Option.bind_some, if_neg hb, h6, Option.bind_some, h7]; rfl
theorem readI_map {xs : List UInt8} {a : List UInt8 × List UInt8} {b c : Int × List UInt8} {d : List (List UInt8) × List UInt8} {e : Int × List UInt8} {f : List UInt8 × List UInt8} {g : Int × List UInt8} (h : hdX 20 xs = some a) (h2 : hdB 1 a.2 = some b) (h3 : hdB 20 b.2 = some c) (h4 : readM (hdX 20) c.1.toNat c.2 = some d) (h5 : hdB 400 d.2 = some e) (hb : ¬ b.1 = 0) (h6 : hdX 20 e.2 = some f) (h7 : hdB 40 f.2 = some g) :
    readI xs = some (⟨a.1, 1, d.1, f.1, g.1, e.1⟩, g.2) := by
  unfold readI; rw [h, Option.bind_some, h2, Option.bind_some, h3, Option.bind_some, h4, Option.bind_some, h5, Option.bind_some, if_neg hb, h6, Option.bind_some, h7, Option.bind_some]
/-- A bounded number, by what TakeNum tells. -/
theorem hdB_of_none {high : Int} {xs : List UInt8} (h : takeN xs = none) : hdB high xs = none := by unfold hdB hdN; rw [h]; rfl
theorem hdB_of_bad {high n : Int} {xs : List UInt8} {k : Nat} (h : takeN xs = some (n, k)) (hb : n < 0 ∨ high < n) : hdB high xs = none := by unfold hdB hdN; rw [h]; simp [hb]
theorem hdB_of_some {high n : Int} {xs : List UInt8} {k : Nat} (h : takeN xs = some (n, k)) (h0 : ¬ n < 0) (h1 : ¬ high < n) : hdB high xs = some (n, xs.drop k) := by unfold hdB hdN; rw [h]; simp [h0, h1]
/-- A text, by what TakeText tells. -/
theorem hdX_of_some {top : Int} {xs : List UInt8} {k n : Nat} (h : takeT xs top = some (k, n)) : hdX top xs = some ((xs.drop k).take n, xs.drop (k + n)) := by rw [hdX_some h, List.drop_drop]
end Fm

/- What item of frag's reader holds on its way: plain facts. No program is imported. -/
namespace Fm
open Go Go.RowKit

theorem grown_row' {a b c : World} {r1 row : Option Nat} (h : a.grownBy b r1) (k : b.grownBy c row) (hr : ∀ x, row = some x → a.heap.size ≤ x) : a.grownBy c r1 :=
  ⟨k.os.trans h.os, k.tape.trans h.tape, k.output.trans h.output, Nat.le_trans h.size k.size,
    fun i hi hne => (k.block i (Nat.lt_of_lt_of_le hi h.size) (fun e => by have := hr i e.symm; omega)).trans (h.block i hi hne)⟩
/-- The reader's state; the result's box; the item's box. -/
structure ItSt (w0 w wr : World) (R Pb V : Nat) (s : Option (List UInt8)) (zs vs : List Value) : Prop where
  rd : RdS w0 wr R s
  g : w.grownBy wr (some R)
  pb : BoxL wr Pb zs
  bv : BoxL wr V vs
  hR : R < w.heap.size
  hP : w.heap.size ≤ Pb
  hV : Pb < V
theorem ItSt.step {w0 w wr wx : World} {R Pb V : Nat} {s s' : Option (List UInt8)} {zs vs : List Value} (h : ItSt w0 w wr R Pb V s zs vs) (hr : RdS w0 wx R s') (hg : wr.grownBy wx (some R)) : ItSt w0 w wx R Pb V s' zs vs :=
  ⟨hr, grown_trans h.g hg, h.pb.kept hg (fun e => by injection e with e; have := h.hR; have := h.hP; omega), h.bv.kept hg (fun e => by injection e with e; have := h.hR; have := h.hP; have := h.hV; omega), h.hR, h.hP, h.hV⟩
theorem ItSt.then {w0 w wr wx : World} {R Pb V : Nat} {s : Option (List UInt8)} {zs vs : List Value} (h : ItSt w0 w wr R Pb V s zs vs) (hE : Ext wr wx) : ItSt w0 w wx R Pb V s zs vs :=
  ⟨h.rd.then hE, grown_trans h.g (grown_ext hE _), h.pb.ext hE, h.bv.ext hE, h.hR, h.hP, h.hV⟩
theorem ItSt.set {w0 w wr : World} {R Pb V : Nat} {s : Option (List UInt8)} {zs vs : List Value} (h : ItSt w0 w wr R Pb V s zs vs) (j : Nat) (hj : j < vs.length) (u : Value) : ItSt w0 w (wr.setCell ⟨V, j, none⟩ u) R Pb V s zs (vs.set j u) := by
  have hg := setOne_grown wr V j u
  have a := h.hR; have b := h.hP; have c := h.hV
  have d := h.rd.old
  exact ⟨h.rd.kept hg (fun k hk => by injection hk with hk; omega), grown_row' h.g hg (fun x hx => by injection hx with hx; omega), h.pb.kept hg (fun e => by injection e with e; omega), h.bv.set j hj u, a, b, c⟩
theorem ItSt.setP {w0 w wr : World} {R Pb V : Nat} {s : Option (List UInt8)} {zs vs : List Value} (h : ItSt w0 w wr R Pb V s zs vs) (j : Nat) (hj : j < zs.length) (u : Value) : ItSt w0 w (wr.setCell ⟨Pb, j, none⟩ u) R Pb V s (zs.set j u) vs := by
  have hg := setOne_grown wr Pb j u
  have a := h.hR; have b := h.hP; have c := h.hV
  have d := h.rd.old
  exact ⟨h.rd.kept hg (fun k hk => by injection hk with hk; omega), grown_row' h.g hg (fun x hx => by injection hx with hx; omega), h.pb.set j hj u, h.bv.kept hg (fun e => by injection e with e; omega), a, b, c⟩
/-- The mark is set. -/
theorem ItSt.bad {w0 w wr : World} {R Pb V : Nat} {s : Option (List UInt8)} {zs vs : List Value} (h : ItSt w0 w wr R Pb V s zs vs) (b : Bool) (s' : Option (List UInt8)) (hb : b = s'.isNone) (hs : ∀ xs, s' = some xs → s = some xs) : ItSt w0 w (wr.setCell ⟨R, 1, none⟩ (.bool b)) R Pb V s' zs vs := by
  obtain ⟨v, ys, hF, hys⟩ := h.rd
  subst hb
  exact h.step ⟨v, ys, hF.setBad _, fun xs hx => hys xs (hs xs hx)⟩ (setOne_grown wr R 1 _)
theorem RdS.mark {w0 w : World} {R : Nat} {s : Option (List UInt8)} (h : RdS w0 w R s) : w.cell? ⟨R, 1, none⟩ = some (.bool s.isNone) := let ⟨_, _, h, _⟩ := h; h.c1
theorem RdS.free {w0 w : World} {R : Nat} {s : Option (List UInt8)} (h : RdS w0 w R s) : w.frozen? ⟨R, 1, none⟩ = false := let ⟨_, _, h, _⟩ := h; h.f1
/-- The results' six cells are written. -/
def set6W (w : World) (B : Nat) (c0 c1 c2 c3 c4 c5 : Value) : World := (((((w.setCell ⟨B, 0, none⟩ c0).setCell ⟨B, 1, none⟩ c1).setCell ⟨B, 2, none⟩ c2).setCell ⟨B, 3, none⟩ c3).setCell ⟨B, 4, none⟩ c4).setCell ⟨B, 5, none⟩ c5
theorem ItSt.done {w0 w wr : World} {R Pb V : Nat} {s : Option (List UInt8)} {z0 z1 z2 z3 z4 z5 : Value} {vs : List Value} (h : ItSt w0 w wr R Pb V s [z0, z1, z2, z3, z4, z5] vs) (c0 c1 c2 c3 c4 c5 : Value) :
    ItSt w0 w (set6W wr Pb c0 c1 c2 c3 c4 c5) R Pb V s [c0, c1, c2, c3, c4, c5] vs :=
  (((((h.setP 0 (by simp) c0).setP 1 (by simp) c1).setP 2 (by simp) c2).setP 3 (by simp) c3).setP 4 (by simp) c4).setP 5 (by simp) c5
end Fm
