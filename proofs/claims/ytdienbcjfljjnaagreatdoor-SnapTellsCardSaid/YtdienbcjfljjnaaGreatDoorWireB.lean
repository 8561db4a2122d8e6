/- The contracts of package wire, second part: groups, Size, AppendSeq, Clone, Num, Text. -/
import Derived.Test.YtdienbcjfljjnaaGreatDoorPlA
import Derived.Test.YtdienbcjfljjnaaGreatDoorPlT
import Derived.Lib.SlTrimSet
import Derived.Shelf.GgClosure.StringsIndexFuncTop
import Derived.Lib.SpaceUEq
import Derived.Test.YtdienbcjfljjnaaGreatDoorProg
import Derived.WalkLawsBesides
import Derived.WalkSpells
import Derived.Lib.Hide
import Derived.BigQuiet
import Derived.Deep.QuietTactic
import Derived.RangeFuncNested
import Derived.RangeFuncBound
import Derived.RangeFuncCalls
import Derived.RangeFuncLeaves
import Derived.OwnWalkIn
import Derived.TacticsInMore
import Derived.LoopNIn
import Derived.LoopIn
import Derived.Maps.AppendAt
import Derived.Shelf.Abstract
namespace Fm
open Go Go.RowKit

/-- A kind of data: how many cells one has, and how it lies in them. -/
structure Elem (α : Type) where
  sz : Nat
  R : World → α → (Nat → Value) → Prop
  ext : ∀ {w w' : World} {x : α} {c : Nat → Value}, Ext w w' → R w x c → R w' x c
  loc : ∀ {w : World} {x : α} {c d : Nat → Value}, (∀ j, j < sz → c j = d j) → R w x c → R w x d

/-- The slice v holds the list l. -/
def Elem.Row {α : Type} (E : Elem α) (w : World) (l : List α) (v : Value) : Prop :=
  ∃ a cap, v = .slice a l.length cap ∧ l.length ≤ cap ∧ cap ≤ maxLen ∧ (a = none → cap = 0) ∧ ∃ C : Nat → Nat → Value,
    (0 < l.length → ∃ b off, a = some ⟨b, off, none⟩ ∧ b < w.heap.size ∧ ∀ i j, i < l.length → j < E.sz → w.cell? ⟨b, off + (i * E.sz + j), none⟩ = some (C i j)) ∧
    (∀ (i : Nat) (hi : i < l.length), E.R w l[i] (C i))
theorem Elem.Row.ext {α : Type} {E : Elem α} {w w' : World} {l : List α} {v : Value} (h : E.Row w l v) (hx : Ext w w') : E.Row w' l v := by
  obtain ⟨a, cap, hv, h1, h2, h3, C, h4, h5⟩ := h
  refine ⟨a, cap, hv, h1, h2, h3, C, fun hp => ?_, fun i hi => E.ext hx (h5 i hi)⟩
  obtain ⟨b, off, ha, hb, hc⟩ := h4 hp
  exact ⟨b, off, ha, Nat.lt_of_lt_of_le hb hx.size, fun i j hi hj => (hx.cell (p := ⟨b, _, none⟩) hb).trans (hc i j hi hj)⟩
theorem Elem.Row.void {α : Type} (E : Elem α) (w : World) (a : Option Addr) : E.Row w [] (.slice a 0 0) :=
  ⟨a, 0, rfl, by simp, by simp [maxLen], fun _ => rfl, fun _ _ => .nilFunc, fun h => by simp at h, fun i hi => by simp at hi⟩
theorem Elem.Row.slice {α : Type} {E : Elem α} {w : World} {l : List α} {v : Value} (h : E.Row w l v) : ∃ a cap, v = .slice a l.length cap ∧ l.length ≤ cap ∧ cap ≤ 9223372036854775807 := by
  obtain ⟨a, cap, hv, h1, h2, _⟩ := h
  exact ⟨a, cap, hv, h1, by unfold maxLen at h2; omega⟩
theorem Elem.Row.length_le {α : Type} {E : Elem α} {w : World} {l : List α} {v : Value} (h : E.Row w l v) : l.length ≤ 9223372036854775807 := by
  obtain ⟨a, cap, _, h1, h2⟩ := h.slice; omega
/-- An element: its cells, in a world that has grown. -/
theorem Elem.Row.at {α : Type} {E : Elem α} {w : World} {l : List α} {a : Option Addr} {n cap : Nat} (h : E.Row w l (.slice a n cap)) (hp : 0 < l.length) :
    n = l.length ∧ ∃ b off, a = some ⟨b, off, none⟩ ∧ b < w.heap.size ∧ ∀ i (hi : i < l.length), ∃ c : Nat → Value, E.R w l[i] c ∧ ∀ j, j < E.sz → ∀ wr, Ext w wr → wr.cell? ⟨b, off + (i * E.sz + j), none⟩ = some (c j) := by
  obtain ⟨a', cap', hv, h1, h2, h3, C, h4, h5⟩ := h
  injection hv with e1 e2 e3
  obtain ⟨b, off, ha, hb, hc⟩ := h4 hp
  subst e1
  exact ⟨e2, b, off, ha, hb, fun i hi => ⟨C i, h5 i hi, fun j hj wr hx => (hx.cell (p := ⟨b, _, none⟩) hb).trans (hc i j hi hj)⟩⟩
theorem Elem.Row.mk {α : Type} {E : Elem α} {w : World} {l : List α} {b off n cap : Nat} (hn : n = l.length) (h1 : l.length ≤ cap) (h2 : cap ≤ maxLen) (hb : b < w.heap.size)
    (hc : ∀ i (hi : i < l.length), ∃ c : Nat → Value, E.R w l[i] c ∧ ∀ j, j < E.sz → w.cell? ⟨b, off + (i * E.sz + j), none⟩ = some (c j)) : E.Row w l (.slice (some ⟨b, off, none⟩) n cap) := by
  subst hn
  refine ⟨_, cap, rfl, h1, h2, fun h => (by cases h), fun i => if hi : i < l.length then Classical.choose (hc i hi) else fun _ => .nilFunc, fun _ => ⟨b, off, rfl, hb, fun i j hi hj => ?_⟩, fun i hi => ?_⟩
  · simp only [dif_pos hi]; exact (Classical.choose_spec (hc i hi)).2 j hj
  · simp only [dif_pos hi]; exact (Classical.choose_spec (hc i hi)).1
/-- The first k. -/
theorem Elem.Row.take {α : Type} {E : Elem α} {w : World} {l : List α} {a : Option Addr} {n cap : Nat} (h : E.Row w l (.slice a n cap)) {k : Nat} (hk : k ≤ l.length) : E.Row w (l.take k) (.slice a k cap) := by
  obtain ⟨a', cap', hv, h1, h2, h3, C, h4, h5⟩ := h
  injection hv with e1 e2 e3
  subst e1 e3
  have hl : (l.take k).length = k := by simp; omega
  refine ⟨a, cap, by rw [hl], by omega, h2, h3, C, fun hp => ?_, fun i hi => ?_⟩
  · obtain ⟨b, off, ha, hb, hc⟩ := h4 (by omega)
    exact ⟨b, off, ha, hb, fun i j hi hj => hc i j (by omega) hj⟩
  · rw [List.getElem_take]; exact h5 i (by omega)
/-- What is behind the first k. -/
theorem Elem.Row.drop {α : Type} {E : Elem α} {w : World} {l : List α} {a : Option Addr} {n cap : Nat} (h : E.Row w l (.slice a n cap)) {k : Nat} (hk : k ≤ l.length) :
    E.Row w (l.drop k) (.slice (if cap = k then a else a.map (·.add (k * E.sz))) (n - k) (cap - k)) := by
  obtain ⟨a', cap', hv, h1, h2, h3, C, h4, h5⟩ := h
  injection hv with e1 e2 e3
  subst e1 e3 e2
  have hl : (l.drop k).length = l.length - k := by simp
  refine ⟨_, _, by rw [hl], by omega, by omega, ?_, fun i => C (k + i), fun hp => ?_, fun i hi => ?_⟩
  · intro hn
    by_cases hck : cap = k
    · omega
    · rw [if_neg hck] at hn
      cases a with
      | none => have := h3 rfl; omega
      | some ad => simp at hn
  · obtain ⟨b, off, ha, hb, hc⟩ := h4 (by omega)
    refine ⟨b, off + k * E.sz, ?_, hb, fun i j hi hj => ?_⟩
    · rw [if_neg (by omega), ha]; simp [Addr.add_lit]
    · have := hc (k + i) j (by omega) hj
      rw [← this]; congr 2; rw [Nat.add_mul]; omega
  · rw [List.getElem_drop]; exact h5 (k + i) (by omega)

/-! ### kinds -/
def strE : Elem (List UInt8) where
  sz := 1
  R _ s c := c 0 = .string (str s) ∧ s.length ≤ 9223372036854775807
  ext _ h := h
  loc hc h := ⟨(hc 0 (by omega)).symm.trans h.1, h.2⟩
def intE : Elem Int where
  sz := 1
  R _ n c := c 0 = .int .i64 n ∧ isI64 n
  ext _ h := h
  loc hc h := ⟨(hc 0 (by omega)).symm.trans h.1, h.2⟩
def u8E : Elem UInt8 where
  sz := 1
  R _ k c := c 0 = .int .u8 (k.toNat : Int)
  ext _ h := h
  loc hc h := (hc 0 (by omega)).symm.trans h
def rowE {α : Type} (E : Elem α) : Elem (List α) where
  sz := 1
  R w l c := E.Row w l (c 0)
  ext hx h := h.ext hx
  loc hc h := by rw [← hc 0 (by omega)]; exact h
end Fm

/- Fragments: right forms, bytes, what is taken: plain facts. No program is imported. -/
namespace Fm
open Go Go.RowKit

/-- An item. -/
structure It where
  name : List UInt8
  kind : UInt8
  after : List (List UInt8)
  over : List UInt8
  width : Int
  quota : Int
def itE : Elem It where
  sz := 6
  R w x c := c 0 = .string (str x.name) ∧ c 1 = .int .u8 (x.kind.toNat : Int) ∧ strE.Row w x.after (c 2) ∧ c 3 = .string (str x.over) ∧ c 4 = .int .i64 x.width ∧ c 5 = .int .i64 x.quota ∧
    x.name.length ≤ 9223372036854775807 ∧ x.over.length ≤ 9223372036854775807 ∧ isI64 x.width ∧ isI64 x.quota
  ext hx h := ⟨h.1, h.2.1, h.2.2.1.ext hx, h.2.2.2⟩
  loc hc h := ⟨(hc 0 (by omega)).symm.trans h.1, (hc 1 (by omega)).symm.trans h.2.1, (by rw [← hc 2 (by omega)]; exact h.2.2.1), (hc 3 (by omega)).symm.trans h.2.2.2.1, (hc 4 (by omega)).symm.trans h.2.2.2.2.1, (hc 5 (by omega)).symm.trans h.2.2.2.2.2.1, h.2.2.2.2.2.2⟩

/-- A letter of a name. -/
def letB (c : UInt8) : Bool := (decide (97 ≤ c.toNat) && decide (c.toNat ≤ 122)) || (decide (48 ≤ c.toNat) && decide (c.toNat ≤ 57)) || decide (c.toNat = 95)
def nameB (s : List UInt8) : Bool := s.all letB && decide (1 ≤ s.length) && decide (s.length ≤ 20)
theorem flat_at {α : Type} (f : α → List UInt8) (l : List α) (i : Nat) (hi : i < l.length) : ((l.take (i + 1)).map f).flatten = ((l.take i).map f).flatten ++ f l[i] := by
  rw [List.take_add_one, List.getElem?_eq_getElem hi, List.map_append, List.flatten_append]
  simp only [Option.toList_some, List.map_cons, List.map_nil, List.flatten_cons, List.flatten_nil, List.append_nil]
theorem flat_take_le {α : Type} (f : α → List UInt8) (l : List α) (i : Nat) : ((l.take i).map f).flatten.length ≤ (l.map f).flatten.length := by
  have h : (l.map f).flatten = ((l.take i).map f).flatten ++ ((l.drop i).map f).flatten := by
    rw [← List.flatten_append, ← List.map_append, List.take_append_drop]
  rw [h, List.length_append]; omega
theorem flat_len {α : Type} (f : α → List UInt8) (B : Nat) : ∀ l : List α, (∀ x, x ∈ l → (f x).length ≤ B) → (l.map f).flatten.length ≤ l.length * B
  | [], _ => by simp
  | x :: xs, h => by
    have h1 := flat_len f B xs (fun y hy => h y (List.mem_cons_of_mem _ hy))
    have h2 := h x (List.mem_cons_self ..)
    rw [List.map_cons, List.flatten_cons, List.length_append, List.length_cons, Nat.succ_mul]; omega
theorem nameB_iff {s : List UInt8} : nameB s = true ↔ s.all letB = true ∧ 1 ≤ s.length ∧ s.length ≤ 20 := by unfold nameB; simp [and_assoc]
/-- A text of at most so many bytes at the head, and what is behind it. -/
def hdX (top : Int) (xs : List UInt8) : Option (List UInt8 × List UInt8) := (takeT xs top).map fun p => ((xs.drop p.1).take p.2, (xs.drop p.1).drop p.2)
theorem hdX_none {top : Int} {xs : List UInt8} (h : takeT xs top = none) : hdX top xs = none := by unfold hdX; rw [h]; rfl
theorem hdX_some {top : Int} {xs : List UInt8} {k n : Nat} (h : takeT xs top = some (k, n)) : hdX top xs = some ((xs.drop k).take n, (xs.drop k).drop n) := by unfold hdX; rw [h]; rfl
theorem hdX_text {top : Int} {s : List UInt8} (hs : s.length ≤ 1000000) (h : (s.length : Int) ≤ top) (r : List UInt8) : hdX top (textB s ++ r) = some (s, r) := by
  have hn : takeN (textB s ++ r) = some ((s.length : Int), (numB s.length).length) := by
    unfold textB; rw [List.append_assoc]; exact takeN_num (by unfold isI64; omega) _
  have ht := takeT_some (top := top) hn (by
    unfold textB; simp only [List.length_append]; omega)
  rw [hdX_some ht]
  simp [textB]
theorem hdX_inv {top : Int} {xs s r : List UInt8} (h : hdX top xs = some (s, r)) : (s.length : Int) ≤ top ∧ xs = textB s ++ r := by
  unfold hdX at h
  cases hT : takeT xs top with
  | none => rw [hT] at h; cases h
  | some p =>
    obtain ⟨k, n⟩ := p
    rw [hT] at h
    simp only [Option.map_some, Option.some.injEq, Prod.mk.injEq] at h
    obtain ⟨rfl, rfl⟩ := h
    obtain ⟨h1, h2, h3⟩ := takeT_inv hT
    have hl : ((xs.drop k).take n).length = n := by simp; omega
    obtain ⟨_, _, _, _, h5, _⟩ := takeN_inv h1
    refine ⟨by omega, ?_⟩
    unfold textB
    rw [hl, List.append_assoc, List.take_append_drop, ← h5, List.take_append_drop]
/-- So many, each as it is read. -/
def readM {α : Type} (f : List UInt8 → Option (α × List UInt8)) : Nat → List UInt8 → Option (List α × List UInt8)
  | 0, xs => some ([], xs)
  | n + 1, xs => (f xs).bind fun p => (readM f n p.2).map fun q => (p.1 :: q.1, q.2)
theorem readM_by {α : Type} (f : List UInt8 → Option (α × List UInt8)) (g : α → List UInt8) : ∀ (l : List α) (r : List UInt8), (∀ x, x ∈ l → ∀ r, f (g x ++ r) = some (x, r)) → readM f l.length ((l.map g).flatten ++ r) = some (l, r)
  | [], r, _ => rfl
  | x :: xs, r, h => by
    rw [List.length_cons, readM, List.map_cons, List.flatten_cons, List.append_assoc, h x (List.mem_cons_self ..)]
    simp only [Option.bind_some]
    rw [readM_by f g xs r (fun y hy => h y (List.mem_cons_of_mem _ hy))]
    rfl
theorem readM_inv {α : Type} (f : List UInt8 → Option (α × List UInt8)) (g : α → List UInt8) (P : α → Prop) (hf : ∀ xs x r, f xs = some (x, r) → xs = g x ++ r ∧ P x) :
    ∀ (n : Nat) (xs : List UInt8) (l : List α) (r : List UInt8), readM f n xs = some (l, r) → l.length = n ∧ xs = (l.map g).flatten ++ r ∧ ∀ x, x ∈ l → P x
  | 0, xs, l, r, h => by
    rw [readM] at h
    cases h
    exact ⟨rfl, rfl, fun x hx => by cases hx⟩
  | n + 1, xs, l, r, h => by
    rw [readM] at h
    obtain ⟨⟨x, r1⟩, hx, h⟩ := Option.bind_eq_some_iff.1 h
    obtain ⟨⟨m, r2⟩, hm, h⟩ := Option.map_eq_some_iff.1 h
    cases h
    obtain ⟨a, b⟩ := hf _ _ _ hx
    obtain ⟨c, d, e⟩ := readM_inv f g P hf n _ _ _ hm
    refine ⟨by rw [List.length_cons, c], ?_, fun y hy => ?_⟩
    · rw [List.map_cons, List.flatten_cons, List.append_assoc, ← d, a]
    · rcases List.mem_cons.1 hy with rfl | hy
      · exact b
      · exact e y hy
/-- One round of it, from the end: what is read of the first i, and the next. -/
theorem readM_snoc {α : Type} (f : List UInt8 → Option (α × List UInt8)) : ∀ (i : Nat) (xs : List UInt8), readM f (i + 1) xs = (readM f i xs).bind fun p => (f p.2).map fun q => (p.1 ++ [q.1], q.2)
  | 0, xs => by
    rw [readM, readM]
    simp only [Option.bind_some]
    cases f xs with
    | none => rfl
    | some p => rw [Option.bind_some, readM]; rfl
  | i + 1, xs => by
    rw [readM, readM]
    cases f xs with
    | none => rfl
    | some p =>
      simp only [Option.bind_some]
      rw [readM_snoc f i p.2]
      cases readM f i p.2 with
      | none => rfl
      | some q =>
        simp only [Option.bind_some, Option.map_some]
        cases f q.2 with
        | none => rfl
        | some z => rfl
theorem readM_none {α : Type} (f : List UInt8 → Option (α × List UInt8)) {i n : Nat} {xs : List UInt8} (h : readM f i xs = none) (hi : i ≤ n) : readM f n xs = none := by
  obtain ⟨d, rfl⟩ : ∃ d, n = i + d := ⟨n - i, by omega⟩
  clear hi
  induction d with
  | zero => exact h
  | succ d ih => rw [← Nat.add_assoc, readM_snoc, ih]; rfl

end Fm

/- Names: a text's letters, and what strings.Trim leaves of it: plain facts. No program is imported. -/
namespace Fm
open Go Go.RowKit

/-- The letters of a name. -/
def letL : List UInt8 := [97, 98, 99, 100, 101, 102, 103, 104, 105, 106, 107, 108, 109, 110, 111, 112, 113, 114, 115, 116, 117, 118, 119, 120, 121, 122, 48, 49, 50, 51, 52, 53, 54, 55, 56, 57, 95]
theorem letL_has (c : UInt8) : letL.contains c = letB c := by
  have h : ∀ n, n < 256 → letL.contains (UInt8.ofNat n) = letB (UInt8.ofNat n) := by decide +kernel
  have := h c.toNat c.toNat_lt
  rwa [UInt8.ofNat_toNat] at this
theorem dropWhile_nil {p : UInt8 → Bool} : ∀ l : List UInt8, l.dropWhile p = [] ↔ l.all p = true
  | [] => by simp
  | c :: l => by
    rw [List.dropWhile_cons, List.all_cons]
    by_cases h : p c = true
    · rw [if_pos h, h, Bool.true_and]; exact dropWhile_nil l
    · rw [if_neg h]; simp [h]
theorem dropWhile_all {p : UInt8 → Bool} : ∀ l : List UInt8, (l.dropWhile p).all p = l.all p
  | [] => rfl
  | c :: l => by
    rw [List.dropWhile_cons]
    by_cases h : p c = true
    · rw [if_pos h, List.all_cons, h, Bool.true_and]; exact dropWhile_all l
    · rw [if_neg h]
theorem trim_nil (s : List UInt8) : Lib.trimS s letL = [] ↔ s.all letB = true := by
  have e : (fun b => letL.contains b) = letB := funext letL_has
  unfold Lib.trimS Lib.trimLeftS Lib.trimRightS
  rw [e, dropWhile_nil, List.all_reverse, dropWhile_all, List.all_reverse]
theorem nameB_short {s : List UInt8} (h : ¬ 1 ≤ s.length) : nameB s = false := by unfold nameB; simp; omega
theorem nameB_long {s : List UInt8} (h : ¬ s.length ≤ 20) : nameB s = false := by unfold nameB; simp; omega
theorem nameB_all {s : List UInt8} (h1 : 1 ≤ s.length) (h2 : s.length ≤ 20) : nameB s = s.all letB := by unfold nameB; simp [h1, h2]
theorem all_at {f : UInt8 → Bool} {s : List UInt8} {j : Nat} (hj : j < s.length) (h : (s.take j).all f = true) (hx : f s[j] = true) : (s.take (j + 1)).all f = true := by
  rw [List.take_add_one, List.getElem?_eq_getElem hj, List.all_append, h]; simpa using hx
theorem all_not {f : UInt8 → Bool} {s : List UInt8} {j : Nat} (hj : j < s.length) (hx : f s[j] = false) : s.all f = false := by
  rw [List.all_eq_false]; exact ⟨s[j], List.getElem_mem hj, by simp [hx]⟩
end Fm

/- Items and texts in slices: what a walk asks. No program is imported. -/
namespace Fm
open Go Go.RowKit

/-- An item as a value. -/
def ItV (w : World) (x : It) (v : Value) : Prop :=
  ∃ (a : Option Addr) (m c : Nat), v = .agg #[.string (str x.name), .int .u8 (x.kind.toNat : Int), .slice a m c, .string (str x.over), .int .i64 x.width, .int .i64 x.quota] ∧ strE.Row w x.after (.slice a m c) ∧
    x.name.length ≤ 9223372036854775807 ∧ x.over.length ≤ 9223372036854775807 ∧ isI64 x.width ∧ isI64 x.quota
theorem ItV.ext {w w' : World} {x : It} {v : Value} (h : ItV w x v) (hx : Ext w w') : ItV w' x v := by
  obtain ⟨a, m, c, hv, hr, h⟩ := h
  exact ⟨a, m, c, hv, hr.ext hx, h⟩
theorem ItV.len {w : World} {x : It} {a : Option Addr} {m c : Nat} {n k o wd q : Value} (h : ItV w x (.agg #[n, k, .slice a m c, o, wd, q])) : m = x.after.length := by
  obtain ⟨a', m', c', hv, hr, _⟩ := h
  obtain ⟨a2, c2, e, _⟩ := hr.slice
  simp at hv
  injection e with _ e _
  omega
theorem ItV.row {w : World} {x : It} {d n k o wd q : Value} (h : ItV w x (.agg #[n, k, d, o, wd, q])) : strE.Row w x.after d := by
  obtain ⟨a', m', c', hv, hr, _⟩ := h
  injection hv with hv
  have := congrArg (fun z => z[2]?) hv
  simp at this
  rw [this]; exact hr
/-- What an IndexFunc comes to: q: of each, in order; J: how the world stands behind so many. -/
def IdxPost (n : Nat) (q : Nat → Bool) (J : Nat → World → Prop) (e : Ending) (w' : World) : Prop :=
  (∃ i, i < n ∧ q i = true ∧ (∀ j, j < i → q j = false) ∧ e = .returned (.int .i64 (i : Int)) ∧ J (i + 1) w') ∨ ((∀ j, j < n → q j = false) ∧ e = .returned (.int .i64 (-1)) ∧ J n w')
/-- What a ContainsFunc comes to. -/
def HasPost (n : Nat) (q : Nat → Bool) (J : Nat → World → Prop) (e : Ending) (w' : World) : Prop :=
  (∃ i, i < n ∧ q i = true ∧ (∀ j, j < i → q j = false) ∧ e = .returned (.bool true) ∧ J (i + 1) w') ∨ ((∀ j, j < n → q j = false) ∧ e = .returned (.bool false) ∧ J n w')
end Fm

/- Light fragments: plain facts. No program is imported. -/
namespace Fm
open Go Go.RowKit

end Fm

/- Texts and items in memory of their own: plain facts. No program is imported. -/
namespace Fm
open Go Go.RowKit

def strV (s : List UInt8) : Value := .string (str s)
/-- The texts l in a row of their own, from block 'base' on. e: the elements' type. -/
def OwnS (e : TypeId) (base : Nat) (w : World) (v : Value) (l : List (List UInt8)) : Prop := w.ownsRow base e 1 v l.length (l.map strV) ∧ ∀ s, s ∈ l → s.length ≤ 9223372036854775807
theorem OwnS.nil (e : TypeId) (base : Nat) (w : World) : OwnS e base w (.slice none 0 0) [] := ⟨World.ownsRow_nil w base e 1, fun s h => by cases h⟩
theorem OwnS.ext {e : TypeId} {base : Nat} {w w' : World} {v : Value} {l : List (List UInt8)} (h : OwnS e base w v l) (hE : Ext w w') : OwnS e base w' v l := ⟨hE.own h.1, h.2⟩
theorem ownsRow_base {w : World} {base base' e size n : Nat} {v : Value} {xs : List Value} (h : w.ownsRow base e size v n xs) (hb : base' ≤ base) : w.ownsRow base' e size v n xs := by
  refine ⟨h.1, ?_⟩
  rcases h.2 with h | ⟨g, cap, cur, a, b, c⟩
  · exact .inl h
  · exact .inr ⟨g, cap, cur, a, by omega, c⟩
theorem OwnS.mono {e : TypeId} {base base' : Nat} {w : World} {v : Value} {l : List (List UInt8)} (h : OwnS e base w v l) (hb : base' ≤ base) : OwnS e base' w v l := ⟨ownsRow_base h.1 hb, h.2⟩
theorem OwnS.kept {e : TypeId} {base : Nat} {w w' : World} {v : Value} {l : List (List UInt8)} {row : Option Nat} (h : OwnS e base w v l) (hg : w.grownBy w' row) (hr : ∀ b, v.ownBlock = some b → row ≠ some b) : OwnS e base w' v l :=
  ⟨h.1.kept hg (by
    cases hv : v.ownBlock with
    | none => exact .inl rfl
    | some b => right; exact fun e => hr b hv e.symm), h.2⟩
theorem OwnS.row {e : TypeId} {base : Nat} {w : World} {v : Value} {l : List (List UInt8)} (h : OwnS e base w v l) : strE.Row w l v := by
  have hc := fun g => World.ownsRow.cells h.1 (g := g)
  rcases h.1.2 with ⟨rfl, h0⟩ | ⟨g, cap, cur, rfl, hb, hg, h1, h2, h3, h4⟩
  · have : l = [] := List.eq_nil_of_length_eq_zero h0
    subst this
    exact Elem.Row.void strE w none
  · refine Elem.Row.mk rfl h1 h2 (Array.getElem?_eq_some_iff.1 hg).1 (fun i hi => ⟨fun _ => strV l[i], ⟨rfl, h.2 _ (List.getElem_mem hi)⟩, fun j hj => ?_⟩)
    have := hc g rfl i (strV l[i]) (by simp [hi])
    rw [Addr.add_lit] at this
    have e : (0 + (i * strE.sz + j)) = 0 + i := by
      have : j < 1 := hj
      show 0 + (i * 1 + j) = 0 + i
      omega
    rw [e]; exact this
theorem OwnS.block {e : TypeId} {base : Nat} {w : World} {v : Value} {l : List (List UInt8)} (h : OwnS e base w v l) : ∀ b, v.ownBlock = some b → base ≤ b ∧ b < w.heap.size := h.1.lt
theorem OwnS.snoc {e : TypeId} {base : Nat} {w' : World} {v' : Value} {l : List (List UInt8)} {s : List UInt8} (h : w'.ownsRow base e 1 v' (l.length + 1) (l.map strV ++ [strV s])) (hl : ∀ s, s ∈ l → s.length ≤ 9223372036854775807) (hs : s.length ≤ 9223372036854775807) : OwnS e base w' v' (l ++ [s]) := by
  refine ⟨by rw [List.length_append, List.map_append]; exact h, fun x hx => ?_⟩
  rcases List.mem_append.1 hx with hx | hx
  · exact hl x hx
  · rw [List.mem_singleton.1 hx]; exact hs

/-- 'append(s, x)' of one element, which a new block holds. -/
theorem wpList_appOne {P : Program} {w : World} {ops : Array Oper} {rest : List Oper} {o : Oper} {a : Act} {Q : Exit → Act → World → Prop} {t e : TypeId} {z : Value} {size bytes : Nat} (he : ElemOf P t e z size bytes)
    (hg : Region.wanted o (yielded ops a.tmps) = true) (s x : Operand) (hop : o.op = Op.call { callee := Callee.builtin Builtin.append, args := #[s, x], argTypes := #[t, t] }) {base : Nat}
    {v : Value} {k : Nat} {xs : List Value} (hs : a.eval s = v) (hown : w.ownsRow base e size v k xs) {B cp : Nat} {news : List Value} {e' : TypeId} {fr : Nat × Nat} (hx : a.eval x = .slice (some ⟨B, 0, none⟩) 1 cp)
    (hB : w.heap[B]? = some (.cells news.toArray e' fr)) (hn : news.length = size) (h1 : ∀ u ∈ news, u.oneCell' = true) (hb : k ≤ 1000) (hby : bytes ≤ 1000) (b3 : base ≤ w.heap.size)
    (hK : ∀ v' w', w'.ownsRow base e size v' (k + 1) (xs ++ news) → w.grownBy w' v.ownBlock → (v'.ownBlock = v.ownBlock ∨ v'.ownBlock = some w.heap.size) → wpList P ops Q rest (a.put o.dst v') w') :
    wpList P ops Q (o :: rest) a w := by
  have hm : (k + 1) * bytes ≤ 1001 * 1000 := Nat.mul_le_mul (by omega) hby
  refine wpList_appAt w he hg s x t hop base v k xs hs hown _ 1 news hx (Src.ofSlice _ he.1 _ _ _ _ (by rw [hn]; omega) ?_ h1) (by unfold maxLen; omega) (by omega) b3 hK
  intro j u hu
  rw [Addr.add_lit]
  simp only [World.cell?, hB]
  simpa using hu
end Fm

/- Fragments in memory of their own: plain facts. No program is imported. -/
namespace Fm
open Go Go.RowKit

def itCells (x : It) (d : Value) : List Value := [.string (str x.name), .int .u8 (x.kind.toNat : Int), d, .string (str x.over), .int .i64 x.width, .int .i64 x.quota]
def itWf (x : It) : Prop := x.name.length ≤ 9223372036854775807 ∧ x.over.length ≤ 9223372036854775807 ∧ isI64 x.width ∧ isI64 x.quota
/-- The cells of all items. -/
def itsCells (l : List It) (ds : List Value) : List Value := (List.zipWith itCells l ds).flatten
theorem itsCells_snoc {l : List It} {ds : List Value} (h : ds.length = l.length) (x : It) (d : Value) : itsCells (l ++ [x]) (ds ++ [d]) = itsCells l ds ++ itCells x d := by
  unfold itsCells
  rw [List.zipWith_append h.symm, List.flatten_append]
  simp
theorem itsCells_at : ∀ (l : List It) (ds : List Value) (i j : Nat) (hi : i < l.length) (hd : i < ds.length), j < 6 → (itsCells l ds)[i * 6 + j]? = (itCells l[i] ds[i])[j]?
  | [], _, i, _, hi, _, _ => by simp at hi
  | _ :: _, [], i, _, _, hd, _ => by simp at hd
  | x :: l, d :: ds, 0, j, _, _, hj => by
    unfold itsCells
    rw [List.zipWith_cons_cons, List.flatten_cons, List.getElem?_append_left (by simp [itCells]; omega)]
    simp
  | x :: l, d :: ds, i + 1, j, hi, hd, hj => by
    have ih := itsCells_at l ds i j (by simpa using hi) (by simpa using hd) hj
    unfold itsCells at ih ⊢
    rw [List.zipWith_cons_cons, List.flatten_cons, List.getElem?_append_right (by simp [itCells]; omega)]
    have e : (i + 1) * 6 + j - (itCells x d).length = i * 6 + j := by simp [itCells]; omega
    rw [e, ih]
    simp
/-- A fragment in memory of its own from block 'base' on. -/
def OwnF (eI eS : TypeId) (base : Nat) (w : World) (v : Value) (l : List It) : Prop :=
  ∃ ds : List Value, ds.length = l.length ∧ w.ownsRow base eI 6 v l.length (itsCells l ds) ∧
    ∀ i (hi : i < l.length) (hd : i < ds.length), OwnS eS base w ds[i] l[i].after ∧ itWf l[i] ∧ ∀ b, ds[i].ownBlock = some b → v.ownBlock ≠ some b
theorem OwnF.nil (eI eS : TypeId) (base : Nat) (w : World) : OwnF eI eS base w (.slice none 0 0) [] := ⟨[], rfl, World.ownsRow_nil w base eI 6, fun i hi => by simp at hi⟩
theorem OwnF.ext {eI eS : TypeId} {base : Nat} {w w' : World} {v : Value} {l : List It} (h : OwnF eI eS base w v l) (hE : Ext w w') : OwnF eI eS base w' v l := by
  obtain ⟨ds, h1, h2, h3⟩ := h
  exact ⟨ds, h1, hE.own h2, fun i hi hd => ⟨(h3 i hi hd).1.ext hE, (h3 i hi hd).2⟩⟩
theorem OwnF.mono {eI eS : TypeId} {base base' : Nat} {w : World} {v : Value} {l : List It} (h : OwnF eI eS base w v l) (hb : base' ≤ base) : OwnF eI eS base' w v l := by
  obtain ⟨ds, h1, h2, h3⟩ := h
  exact ⟨ds, h1, ownsRow_base h2 hb, fun i hi hd => ⟨(h3 i hi hd).1.mono hb, (h3 i hi hd).2⟩⟩
theorem OwnF.kept {eI eS : TypeId} {base : Nat} {w w' : World} {v : Value} {l : List It} {row : Option Nat} (h : OwnF eI eS base w v l) (hg : w.grownBy w' row) (hr : ∀ b, row = some b → b < base) : OwnF eI eS base w' v l := by
  obtain ⟨ds, h1, h2, h3⟩ := h
  have hlt := h2.lt
  refine ⟨ds, h1, h2.kept hg ?_, fun i hi hd => ⟨(h3 i hi hd).1.kept hg (fun b hb e => by have := hr b e; have := ((h3 i hi hd).1.block b hb).1; omega), (h3 i hi hd).2⟩⟩
  cases hv : v.ownBlock with
  | none => exact .inl rfl
  | some b => right; exact fun e => by have := hr b e.symm; have := (hlt b hv).1; omega
theorem OwnF.row {eI eS : TypeId} {base : Nat} {w : World} {v : Value} {l : List It} (h : OwnF eI eS base w v l) : itE.Row w l v := by
  obtain ⟨ds, h1, h2, h3⟩ := h
  have hc := fun g => World.ownsRow.cells h2 (g := g)
  rcases h2.2 with ⟨rfl, h0⟩ | ⟨g, cap, cur, rfl, hb, hg, hl, hm, h5, h6⟩
  · have : l = [] := List.eq_nil_of_length_eq_zero h0
    subst this
    exact Elem.Row.void itE w none
  · refine Elem.Row.mk rfl hl hm (Array.getElem?_eq_some_iff.1 hg).1 (fun i hi => ?_)
    have hd : i < ds.length := by omega
    obtain ⟨a1, a2, _⟩ := h3 i hi hd
    refine ⟨fun j => (itCells l[i] ds[i]).getD j .nilFunc, ⟨rfl, rfl, a1.row, rfl, rfl, rfl, a2⟩, fun j hj => ?_⟩
    have hj6 : j < 6 := hj
    have := hc g rfl (i * 6 + j) ((itCells l[i] ds[i]).getD j .nilFunc) (by
      rw [itsCells_at l ds i j hi hd hj6, List.getD_eq_getElem?_getD, List.getElem?_eq_getElem (by simp [itCells]; omega)]
      rfl)
    rw [Addr.add_lit] at this
    exact this
theorem OwnF.snoc {eI eS : TypeId} {base : Nat} {w w' : World} {v v' : Value} {l : List It} {x : It} {d : Value} {xs : List Value} (h : OwnF eI eS base w v l) (hd : OwnS eS base w d x.after) (hw : itWf x) (hdv : ∀ b, d.ownBlock = some b → v.ownBlock ≠ some b)
    (hx : w.ownsRow base eI 6 v l.length xs) (hrow : w'.ownsRow base eI 6 v' (l.length + 1) (xs ++ itCells x d)) (hg : w.grownBy w' v.ownBlock) (hat : v'.ownBlock = v.ownBlock ∨ v'.ownBlock = some w.heap.size) : OwnF eI eS base w' v' (l ++ [x]) := by
  obtain ⟨ds, h1, h2, h3⟩ := h
  have hxs : xs = itsCells l ds := by
    rcases h2.2 with ⟨hv, h0⟩ | ⟨g, cap, cur, hv, _, hgg, _, _, _, ht4⟩
    · have a1 := h2.1; have a2 := hx.1
      rw [h0] at a1 a2
      have b1 : itsCells l ds = [] := List.eq_nil_of_length_eq_zero (by omega)
      have b2 : xs = [] := List.eq_nil_of_length_eq_zero (by omega)
      rw [b1, b2]
    · rcases hx.2 with ⟨hv2, _⟩ | ⟨g2, cap2, cur2, hv2, _, hgg2, _, _, _, ht42⟩
      · rw [hv] at hv2; cases hv2
      · rw [hv] at hv2
        injection hv2 with ha _ _
        injection ha with ha
        injection ha with ha
        subst ha
        rw [hgg] at hgg2
        injection hgg2 with hc
        injection hc with hc
        rw [← ht4, ← ht42, hc]
  subst hxs
  refine ⟨ds ++ [d], by simp [h1], by rw [itsCells_snoc h1, List.length_append]; exact hrow, fun i hi hid => ?_⟩
  by_cases hil : i < l.length
  · have hil2 : i < ds.length := by omega
    rw [List.getElem_append_left hil, List.getElem_append_left hil2]
    obtain ⟨a1, a2, a3⟩ := h3 i hil hil2
    refine ⟨a1.kept hg (fun b hb e => a3 b hb e), a2, fun b hb e => ?_⟩
    rcases hat with h | h
    · exact a3 b hb (by rw [← h]; exact e)
    · rw [h] at e; injection e with e; have := (a1.block b hb).2; omega
  · have e1 : i = l.length := by simp at hi; omega
    subst e1
    have e2 : (ds ++ [d])[l.length]'hid = d := by rw [List.getElem_append_right (by omega)]; simp [h1]
    rw [List.getElem_append_right (Nat.le_refl _), e2]
    simp only [Nat.sub_self, List.getElem_cons_zero]
    refine ⟨hd.kept hg (fun b hb e => hdv b hb e), hw, fun b hb e => ?_⟩
    rcases hat with h | h
    · exact hdv b hb (by rw [← h]; exact e)
    · rw [h] at e; injection e with e; have := (hd.block b hb).2; omega
end Fm

/- The reader of fragments: its state, and what it reads: plain facts. No program is imported. -/
namespace Fm
open Go Go.RowKit

/-- Block R is the reader's: so much is left; is it bad? -/
structure RdF (w0 w : World) (R : Nat) (v : Value) (xs : List UInt8) (bad : Bool) : Prop where
  ext : Ext w0 w
  old : w0.heap.size ≤ R
  lt : R < w.heap.size
  c0 : w.cell? ⟨R, 0, none⟩ = some v
  c1 : w.cell? ⟨R, 1, none⟩ = some (.bool bad)
  f0 : w.frozen? ⟨R, 0, none⟩ = false
  f1 : w.frozen? ⟨R, 1, none⟩ = false
  bytes : Bytes w0 v xs
theorem RdF.then {w0 w w' : World} {R : Nat} {v : Value} {xs : List UInt8} {bad : Bool} (h : RdF w0 w R v xs bad) (hE : Ext w w') : RdF w0 w' R v xs bad :=
  ⟨h.ext.trans hE, h.old, Nat.lt_of_lt_of_le h.lt hE.size, (hE.cell (p := ⟨R, 0, none⟩) h.lt).trans h.c0, (hE.cell (p := ⟨R, 1, none⟩) h.lt).trans h.c1, (hE.frozen (p := ⟨R, 0, none⟩) h.lt).trans h.f0, (hE.frozen (p := ⟨R, 1, none⟩) h.lt).trans h.f1, h.bytes⟩
theorem RdF.kept {w0 w w' : World} {R : Nat} {v : Value} {xs : List UInt8} {bad : Bool} {row : Option Nat} (h : RdF w0 w R v xs bad) (hg : w.grownBy w' row) (hr : ∀ k, row = some k → w0.heap.size ≤ k ∧ k ≠ R) : RdF w0 w' R v xs bad := by
  have hne : some R ≠ row := fun e => (hr R e.symm).2 rfl
  exact ⟨h.ext.grown hg (fun k hk => (hr k hk).1), h.old, Nat.lt_of_lt_of_le h.lt hg.size, (hg.cell_far ⟨R, 0, none⟩ h.lt hne).trans h.c0, (hg.cell_far ⟨R, 1, none⟩ h.lt hne).trans h.c1, (hg.frozen_far ⟨R, 0, none⟩ h.lt hne).trans h.f0, (hg.frozen_far ⟨R, 1, none⟩ h.lt hne).trans h.f1, h.bytes⟩
theorem setOne_grown (w : World) (R j : Nat) (u : Value) : w.grownBy (w.setCell ⟨R, j, none⟩ u) (some R) :=
  ⟨rfl, rfl, rfl, by simp [World.setCell], fun k _ hk => Below.heap_setCell _ _ _ _ (fun e => hk (by simp [e]))⟩
theorem RdF.setBad {w0 w : World} {R : Nat} {v : Value} {xs : List UInt8} {bad : Bool} (h : RdF w0 w R v xs bad) (b : Bool) : RdF w0 (w.setCell ⟨R, 1, none⟩ (.bool b)) R v xs b := by
  refine ⟨h.ext.setCell h.old _, h.old, by simp [h.lt], ?_, World.cell?_setCell_same _ _ _ h.c1, by rw [World.frozen?_setCell]; exact h.f0, by rw [World.frozen?_setCell]; exact h.f1, h.bytes⟩
  exact (World.cell?_setCell_other w _ _ _ (fun e => by injection e with _ e _; omega)).trans h.c0
theorem RdF.setLeft {w0 w : World} {R : Nat} {v v' : Value} {xs ys : List UInt8} {bad : Bool} (h : RdF w0 w R v xs bad) (hb : Bytes w0 v' ys) : RdF w0 (w.setCell ⟨R, 0, none⟩ v') R v' ys bad := by
  refine ⟨h.ext.setCell h.old _, h.old, by simp [h.lt], World.cell?_setCell_same _ _ _ h.c0, ?_, by rw [World.frozen?_setCell]; exact h.f0, by rw [World.frozen?_setCell]; exact h.f1, hb⟩
  exact (World.cell?_setCell_other w _ _ _ (fun e => by injection e with _ e _; omega)).trans h.c1

/-- The state: what is left; none: it is bad. -/
def RdS (w0 w : World) (R : Nat) (s : Option (List UInt8)) : Prop := ∃ v ys, RdF w0 w R v ys s.isNone ∧ ∀ xs, s = some xs → ys = xs
theorem RdS.then {w0 w w' : World} {R : Nat} {s : Option (List UInt8)} (h : RdS w0 w R s) (hE : Ext w w') : RdS w0 w' R s := let ⟨v, ys, h, k⟩ := h; ⟨v, ys, h.then hE, k⟩
theorem RdS.kept {w0 w w' : World} {R : Nat} {s : Option (List UInt8)} {row : Option Nat} (h : RdS w0 w R s) (hg : w.grownBy w' row) (hr : ∀ k, row = some k → w0.heap.size ≤ k ∧ k ≠ R) : RdS w0 w' R s :=
  let ⟨v, ys, h, k⟩ := h; ⟨v, ys, h.kept hg hr, k⟩
theorem RdS.lt {w0 w : World} {R : Nat} {s : Option (List UInt8)} (h : RdS w0 w R s) : R < w.heap.size := let ⟨_, _, h, _⟩ := h; h.lt
theorem RdS.ext {w0 w : World} {R : Nat} {s : Option (List UInt8)} (h : RdS w0 w R s) : Ext w0 w := let ⟨_, _, h, _⟩ := h; h.ext
theorem RdS.old {w0 w : World} {R : Nat} {s : Option (List UInt8)} (h : RdS w0 w R s) : w0.heap.size ≤ R := let ⟨_, _, h, _⟩ := h; h.old

end Fm

/- What frag's reader reads is what the bytes say: plain facts. No program is imported. -/
namespace Fm
open Go Go.RowKit

end Fm

/- The reference's read of an item, step by step: plain facts. No program is imported. -/
namespace Fm
open Go Go.RowKit

/-- A text, by what TakeText tells. -/
theorem hdX_of_some {top : Int} {xs : List UInt8} {k n : Nat} (h : takeT xs top = some (k, n)) : hdX top xs = some ((xs.drop k).take n, xs.drop (k + n)) := by rw [hdX_some h, List.drop_drop]
end Fm

/- What item of frag's reader holds on its way: plain facts. No program is imported. -/
namespace Fm
open Go Go.RowKit

theorem grown_row' {a b c : World} {r1 row : Option Nat} (h : a.grownBy b r1) (k : b.grownBy c row) (hr : ∀ x, row = some x → a.heap.size ≤ x) : a.grownBy c r1 :=
  ⟨k.os.trans h.os, k.tape.trans h.tape, k.output.trans h.output, Nat.le_trans h.size k.size,
    fun i hi hne => (k.block i (Nat.lt_of_lt_of_le hi h.size) (fun e => by have := hr i e.symm; omega)).trans (h.block i hi hne)⟩
/-- The reader's state; the result's box; the item's box. -/
structure ItSt (w0 w wr : World) (R Pb V : Nat) (s : Option (List UInt8)) (zs vs : List Value) : Prop where
  rd : RdS w0 wr R s
  g : w.grownBy wr (some R)
  pb : BoxL wr Pb zs
  bv : BoxL wr V vs
  hR : R < w.heap.size
  hP : w.heap.size ≤ Pb
  hV : Pb < V
theorem ItSt.step {w0 w wr wx : World} {R Pb V : Nat} {s s' : Option (List UInt8)} {zs vs : List Value} (h : ItSt w0 w wr R Pb V s zs vs) (hr : RdS w0 wx R s') (hg : wr.grownBy wx (some R)) : ItSt w0 w wx R Pb V s' zs vs :=
  ⟨hr, grown_trans h.g hg, h.pb.kept hg (fun e => by injection e with e; have := h.hR; have := h.hP; omega), h.bv.kept hg (fun e => by injection e with e; have := h.hR; have := h.hP; have := h.hV; omega), h.hR, h.hP, h.hV⟩
theorem ItSt.then {w0 w wr wx : World} {R Pb V : Nat} {s : Option (List UInt8)} {zs vs : List Value} (h : ItSt w0 w wr R Pb V s zs vs) (hE : Ext wr wx) : ItSt w0 w wx R Pb V s zs vs :=
  ⟨h.rd.then hE, grown_trans h.g (grown_ext hE _), h.pb.ext hE, h.bv.ext hE, h.hR, h.hP, h.hV⟩
theorem ItSt.set {w0 w wr : World} {R Pb V : Nat} {s : Option (List UInt8)} {zs vs : List Value} (h : ItSt w0 w wr R Pb V s zs vs) (j : Nat) (hj : j < vs.length) (u : Value) : ItSt w0 w (wr.setCell ⟨V, j, none⟩ u) R Pb V s zs (vs.set j u) := by
  have hg := setOne_grown wr V j u
  have a := h.hR; have b := h.hP; have c := h.hV
  have d := h.rd.old
  exact ⟨h.rd.kept hg (fun k hk => by injection hk with hk; omega), grown_row' h.g hg (fun x hx => by injection hx with hx; omega), h.pb.kept hg (fun e => by injection e with e; omega), h.bv.set j hj u, a, b, c⟩
theorem ItSt.setP {w0 w wr : World} {R Pb V : Nat} {s : Option (List UInt8)} {zs vs : List Value} (h : ItSt w0 w wr R Pb V s zs vs) (j : Nat) (hj : j < zs.length) (u : Value) : ItSt w0 w (wr.setCell ⟨Pb, j, none⟩ u) R Pb V s (zs.set j u) vs := by
  have hg := setOne_grown wr Pb j u
  have a := h.hR; have b := h.hP; have c := h.hV
  have d := h.rd.old
  exact ⟨h.rd.kept hg (fun k hk => by injection hk with hk; omega), grown_row' h.g hg (fun x hx => by injection hx with hx; omega), h.pb.set j hj u, h.bv.kept hg (fun e => by injection e with e; omega), a, b, c⟩
/-- The mark is set. -/
theorem ItSt.bad {w0 w wr : World} {R Pb V : Nat} {s : Option (List UInt8)} {zs vs : List Value} (h : ItSt w0 w wr R Pb V s zs vs) (b : Bool) (s' : Option (List UInt8)) (hb : b = s'.isNone) (hs : ∀ xs, s' = some xs → s = some xs) : ItSt w0 w (wr.setCell ⟨R, 1, none⟩ (.bool b)) R Pb V s' zs vs := by
  obtain ⟨v, ys, hF, hys⟩ := h.rd
  subst hb
  exact h.step ⟨v, ys, hF.setBad _, fun xs hx => hys xs (hs xs hx)⟩ (setOne_grown wr R 1 _)
theorem RdS.mark {w0 w : World} {R : Nat} {s : Option (List UInt8)} (h : RdS w0 w R s) : w.cell? ⟨R, 1, none⟩ = some (.bool s.isNone) := let ⟨_, _, h, _⟩ := h; h.c1
theorem RdS.free {w0 w : World} {R : Nat} {s : Option (List UInt8)} (h : RdS w0 w R s) : w.frozen? ⟨R, 1, none⟩ = false := let ⟨_, _, h, _⟩ := h; h.f1
/-- The results' six cells are written. -/
def set6W (w : World) (B : Nat) (c0 c1 c2 c3 c4 c5 : Value) : World := (((((w.setCell ⟨B, 0, none⟩ c0).setCell ⟨B, 1, none⟩ c1).setCell ⟨B, 2, none⟩ c2).setCell ⟨B, 3, none⟩ c3).setCell ⟨B, 4, none⟩ c4).setCell ⟨B, 5, none⟩ c5
theorem ItSt.done {w0 w wr : World} {R Pb V : Nat} {s : Option (List UInt8)} {z0 z1 z2 z3 z4 z5 : Value} {vs : List Value} (h : ItSt w0 w wr R Pb V s [z0, z1, z2, z3, z4, z5] vs) (c0 c1 c2 c3 c4 c5 : Value) :
    ItSt w0 w (set6W wr Pb c0 c1 c2 c3 c4 c5) R Pb V s [c0, c1, c2, c3, c4, c5] vs :=
  (((((h.setP 0 (by simp) c0).setP 1 (by simp) c1).setP 2 (by simp) c2).setP 3 (by simp) c3).setP 4 (by simp) c4).setP 5 (by simp) c5
end Fm

namespace Fm
open Go Go.RowKit

/-- An operation. -/
structure Opn where
  what : UInt8
  id : List UInt8
  tok : Int
  val : Tr
  frg : List It
  quo : Int

/-- An id's text. -/
def idC (c : UInt8) : Bool := decide (33 ≤ c.toNat) && decide (c.toNat ≤ 126)
def idB (s : List UInt8) : Bool := s.all idC && decide (1 ≤ s.length) && decide (s.length ≤ 400)
theorem idB_iff {s : List UInt8} : idB s = true ↔ (∀ c, c ∈ s → idC c = true) ∧ 1 ≤ s.length ∧ s.length ≤ 400 := by
  simp only [idB, Bool.and_eq_true, decide_eq_true_eq, List.all_eq_true, and_assoc]
def zT : Tr := .node 0 0 [] []
theorem NumsT_zT : NumsT zT := .node 0 0 [] [] (by unfold isI64; omega) (fun t h => by cases h)
/-- Numbers that 64 bits hold. -/
def opWf (o : Opn) : Prop := o.id.length ≤ 9223372036854775807 ∧ isI64 o.tok ∧ NumsT o.val ∧ isI64 o.quo

/-- An operation that is handed in. -/
def OpV (w : World) (o : Opn) (v : Value) : Prop :=
  ∃ (k n s d : Value) (a : Option Addr) (m c : Nat), v = .agg #[.int .u8 (o.what.toNat : Int), .string (str o.id), .int .i64 o.tok, k, n, s, d, .slice a m c, .int .i64 o.quo] ∧ Lies w o.val (.agg #[k, n, s, d]) ∧ itE.Row w o.frg (.slice a m c) ∧ o.id.length ≤ 9223372036854775807 ∧ isI64 o.tok ∧ isI64 o.quo
theorem OpV.ext {w w' : World} {o : Opn} {v : Value} (h : OpV w o v) (hE : Ext w w') : OpV w' o v := by
  obtain ⟨k, n, s, d, a, m, c, h1, h2, h3, h4⟩ := h
  exact ⟨k, n, s, d, a, m, c, h1, h2.ext hE, h3.ext hE, h4⟩
theorem OpV.wf {w : World} {o : Opn} {v : Value} (h : OpV w o v) : opWf o := by
  obtain ⟨k, n, s, d, a, m, c, h1, h2, h3, h4, h5, h6⟩ := h
  exact ⟨h4, h5, h2.nums, h6⟩
theorem idB_short {s : List UInt8} (h : ¬ 1 ≤ s.length) : idB s = false := by unfold idB; simp [h]
theorem idB_long {s : List UInt8} (h : ¬ s.length ≤ 400) : idB s = false := by unfold idB; simp [h]
theorem idB_all {s : List UInt8} (h1 : 1 ≤ s.length) (h2 : s.length ≤ 400) : idB s = s.all idC := by unfold idB; simp [h1, h2]
/-- A call's results' box is written on the way. -/
structure OSt (w W : World) (vs : List Value) : Prop where
  e : Ext w W
  b : BoxL W w.heap.size vs
theorem OSt.set {w W : World} {vs : List Value} (h : OSt w W vs) (j : Nat) (hj : j < vs.length) (u : Value) : OSt w (W.setCell ⟨w.heap.size, j, none⟩ u) (vs.set j u) :=
  ⟨h.e.setCell (p := ⟨w.heap.size, j, none⟩) (Nat.le_refl _) u, h.b.set j hj u⟩
theorem OSt.ext {w W W' : World} {vs : List Value} (h : OSt w W vs) (hE : Ext W W') : OSt w W' vs := ⟨h.e.trans hE, h.b.ext hE⟩
end Fm

namespace Fm
open Go Go.RowKit

/-- What is no byte of an id, by its rune. -/
def notC (r : Nat) : Bool := decide (r < 33) || decide (126 < r)
theorem notC_byte {b : UInt8} (h : b.toNat < 128) : notC b.toNat = !idC b := by
  unfold notC idC
  rw [Bool.eq_iff_iff]
  simp only [Bool.or_eq_true, decide_eq_true_eq, Bool.not_eq_true', Bool.and_eq_false_iff, decide_eq_false_iff_not]
  omega
theorem decode_str (s : List UInt8) (pos : Nat) (h : pos < s.length) :
    (s[pos].toNat < 128 ∧ Utf8.decode (str s) pos = (s[pos].toNat, 1)) ∨ (128 ≤ s[pos].toNat ∧ 128 ≤ (Utf8.decode (str s) pos).1) := by
  have e : (str s).data.toList = s := by simp [str]
  rw [Lib.decode_N, e]
  have g : s.getD pos 0 = s[pos] := by simp [List.getD, h]
  rw [g]
  by_cases hb : s[pos].toNat < 128
  · exact .inl ⟨hb, by simp [Lib.decodeN, hb]⟩
  · refine .inr ⟨by omega, ?_⟩
    rcases Lib.decodeN_cases (s.length - pos) s[pos].toNat (s.getD (pos + 1) 0).toNat (s.getD (pos + 2) 0).toNat (s.getD (pos + 3) 0).toNat with ⟨c, e⟩ | ⟨_, _, _, c, e⟩ | ⟨_, _, _, _, c, e⟩ | ⟨c, _⟩ | e
    · omega
    · rw [e]; exact c
    · rw [e]; show 128 ≤ _; omega
    · omega
    · rw [e]; show 128 ≤ 65533; omega
theorem idx_from (s : List UInt8) : ∀ (f pos : Nat), s.length ≤ pos + f → (0 ≤ Lib.idxFuncFrom notC true (str s) f pos ↔ (s.drop pos).all idC = false)
  | 0, pos, h => by
    rw [Lib.idxFuncFrom, List.drop_eq_nil_of_le (by omega)]
    simp
  | f + 1, pos, h => by
    rw [Lib.idxFuncFrom, str_size]
    by_cases hp : pos < s.length
    · rw [if_pos hp, List.drop_eq_getElem_cons hp, List.all_cons]
      rcases decode_str s pos hp with ⟨c, e⟩ | ⟨c, e⟩
      · rw [e]
        simp only
        rw [notC_byte c]
        cases hi : idC s[pos] with
        | true =>
          simp only [Bool.not_true, Bool.false_eq_true, if_false, Bool.true_and]
          exact idx_from s f (pos + 1) (by omega)
        | false => simp
      · have hn : notC (Utf8.decode (str s) pos).1 = true := by unfold notC; simp; omega
        have hi : idC s[pos] = false := by unfold idC; simp; omega
        rw [if_pos hn, hi]
        simp
    · rw [if_neg hp, List.drop_eq_nil_of_le (by omega)]
      simp
theorem idx_id (s : List UInt8) : decide (0 ≤ Lib.idxFunc notC true (str s)) = !(s.all idC) := by
  have := idx_from s (str s).size 0 (by rw [str_size]; omega)
  rw [List.drop_zero] at this
  unfold Lib.idxFunc
  cases h : s.all idC with
  | true => rw [h] at this; simpa using this
  | false => rw [h] at this; simpa using this
end Fm

open Go.RowKit
namespace Go.Proofs.YtdienbcjfljjnaaGreatDoor
open Go Go.Proofs Fm

theorem xor_ones (a : Nat) (h : a < 18446744073709551616) : a ^^^ 18446744073709551615 = 18446744073709551615 - a := by
  have h1 := congrArg BitVec.toNat (BitVec.xor_allOnes (x := BitVec.ofNat 64 a))
  rw [BitVec.toNat_xor, BitVec.toNat_not, BitVec.toNat_allOnes, BitVec.toNat_ofNat, Nat.mod_eq_of_lt (by simpa using h)] at h1
  simpa using h1

theorem plain_bits (n : Int) (h : isI64 n) :
    bits BinOp.xor IntKind.u64 (IntKind.u64.wrap (IntKind.u64.wrap n * 2)) (IntKind.u64.wrap (n / 9223372036854775808)) = ((zig n : Nat) : Int) := by
  unfold isI64 at h
  simp only [IntKind.wrap_u64]
  by_cases h0 : 0 ≤ n
  · have e1 : n % 18446744073709551616 * 2 % 18446744073709551616 = ((2 * n.toNat : Nat) : Int) := by omega
    have e2 : n / 9223372036854775808 % 18446744073709551616 = ((0 : Nat) : Int) := by omega
    rw [e1, e2, bits_xor_u64_nat _ _ (by omega) (by omega), Nat.xor_zero]
    unfold zig; rw [if_pos h0]; omega
  · have e1 : n % 18446744073709551616 * 2 % 18446744073709551616 = (((2 * n + 18446744073709551616).toNat : Nat) : Int) := by omega
    have e2 : n / 9223372036854775808 % 18446744073709551616 = ((18446744073709551615 : Nat) : Int) := by omega
    rw [e1, e2, bits_xor_u64_nat _ _ (by omega) (by omega), xor_ones _ (by omega)]
    unfold zig; rw [if_neg h0]; omega

theorem xor_ones_i64 (a : Nat) (h : a < 9223372036854775808) : bits BinOp.xor IntKind.i64 (a : Int) (-1) = -(a : Int) - 1 := by
  have e : (BitVec.ofInt 64 (a : Int) ^^^ BitVec.ofInt 64 (-1)).toNat = 18446744073709551615 - a := by
    rw [BitVec.toNat_xor]
    have e1 : (BitVec.ofInt 64 (a : Int)).toNat = a := by rw [BitVec.ofInt_natCast, BitVec.toNat_ofNat]; exact Nat.mod_eq_of_lt (by omega)
    have e2 : (BitVec.ofInt 64 (-1)).toNat = 18446744073709551615 := by decide
    rw [e1, e2]; exact xor_ones a (by omega)
  show IntKind.i64.wrap ((BitVec.ofInt 64 (a : Int) ^^^ BitVec.ofInt 64 (-1)).toNat : Int) = _
  rw [e, IntKind.wrap_i64]; omega
theorem xor_zero_i64 (a : Nat) (h : a < 9223372036854775808) : bits BinOp.xor IntKind.i64 (a : Int) 0 = (a : Int) := by
  have e : (BitVec.ofInt 64 (a : Int) ^^^ BitVec.ofInt 64 0).toNat = a := by
    rw [BitVec.toNat_xor]
    have e1 : (BitVec.ofInt 64 (a : Int)).toNat = a := by rw [BitVec.ofInt_natCast, BitVec.toNat_ofNat]; exact Nat.mod_eq_of_lt (by omega)
    have e2 : (BitVec.ofInt 64 0).toNat = 0 := by decide
    rw [e1, e2]; simp
  show IntKind.i64.wrap ((BitVec.ofInt 64 (a : Int) ^^^ BitVec.ofInt 64 0).toNat : Int) = _
  rw [e, IntKind.wrap_i64]; omega

theorem signed_bits (u : Nat) (h : u < 18446744073709551616) :
    bits BinOp.xor IntKind.i64 ((u : Int) / 2) (wrap64 (-wrap64 (bits BinOp.and IntKind.u64 (u : Int) 1))) = unzig u := by
  rw [and_one_u64 _ (by omega) (by omega)]
  have e : (u : Int) / 2 = ((u / 2 : Nat) : Int) := by omega
  rw [e, IntWalk.wrap64_in ((u : Int) % 2) (by omega), IntWalk.wrap64_in _ (by omega)]
  unfold unzig
  by_cases h2 : u % 2 = 0
  · rw [if_pos h2, show -((u : Int) % 2) = 0 by omega, xor_zero_i64 _ (by omega)]
  · rw [if_neg h2, show -((u : Int) % 2) = -1 by omega, xor_ones_i64 _ (by omega)]

theorem ret_val {a b : Value} (h : a = b) : Ending.returned a = .returned b := by rw [h]

theorem plain_any (n : Int) (h : isI64 n) (w : World) :
    Calls Tryz.prog 113 #[.int .i64 n] w fun e w' => e = .returned (.int .u64 (zig n : Nat)) ∧ w = w' := by
  have hb := plain_bits n h
  unfold isI64 at h
  obtain ⟨h1, h2⟩ := h
  have HB := Lib.hid hb; clear hb
  go_enter Tryz.func113, Tryz.ntmps113
  go_wp2
  go_ret
  exact ⟨by rw [← HB.out]; rfl, rfl⟩

theorem signed_any (u : Nat) (h : u < 18446744073709551616) (w : World) :
    Calls Tryz.prog 117 #[.int .u64 u] w fun e w' => e = .returned (.int .i64 (unzig u)) ∧ w = w' := by
  have hb := signed_bits u h
  have HB := Lib.hid hb; clear hb
  have h0 : (u : Int) ≤ 18446744073709551615 := by omega
  clear h
  go_enter Tryz.func117, Tryz.ntmps117
  go_wp2
  go_ret
  exact ⟨by rw [← HB.out]; rfl, rfl⟩

theorem or_step (t p k : Nat) (ht : t < 128 ^ k) (hp : p < 128) (hk : k < 9 ∨ (k = 9 ∧ p ≤ 1)) :
    bits BinOp.or IntKind.u64 (t : Int) (IntKind.u64.wrap ((p : Int) * 2 ^ (7 * k))) = ((t + p * 128 ^ k : Nat) : Int) ∧ t + p * 128 ^ k < 18446744073709551616 ∧ t + p * 128 ^ k < 128 ^ (k + 1) := by
  have e128 : (128 : Nat) ^ k = 2 ^ (7 * k) := by rw [Nat.pow_mul]
  have hlt : t + p * 128 ^ k < 128 ^ (k + 1) := by
    rw [Nat.pow_succ]
    have : (p + 1) * 128 ^ k ≤ 128 * 128 ^ k := Nat.mul_le_mul_right _ (by omega)
    rw [Nat.add_mul, Nat.one_mul] at this
    rw [Nat.mul_comm (128 ^ k) 128]; omega
  have h64 : t + p * 128 ^ k < 18446744073709551616 := by
    rcases hk with hk | ⟨rfl, hp1⟩
    · refine Nat.lt_of_lt_of_le hlt ?_
      have h9 : 128 ^ (k + 1) ≤ 128 ^ 9 := Nat.pow_le_pow_right (by omega) (by omega)
      exact Nat.le_trans h9 (by decide)
    · have e9 : (128 : Nat) ^ 9 = 9223372036854775808 := by decide
      rw [e9] at ht ⊢
      have : p * 9223372036854775808 ≤ 1 * 9223372036854775808 := Nat.mul_le_mul_right _ hp1
      omega
  refine ⟨?_, h64, hlt⟩
  have ec : (p : Int) * 2 ^ (7 * k) = ((p * 128 ^ k : Nat) : Int) := by rw [e128]; simp
  have ew : IntKind.u64.wrap ((p * 128 ^ k : Nat) : Int) = ((p * 128 ^ k : Nat) : Int) := by
    rw [IntKind.wrap_u64]; omega
  rw [ec, ew, bits_or_u64_nat _ _ (by omega) (by omega)]
  congr 1
  rw [e128] at ht ⊢
  have := Nat.shiftLeft_add_eq_or_of_lt ht p
  rw [Nat.shiftLeft_eq] at this
  rw [Nat.or_comm, ← this, Nat.add_comm]

theorem takeG_at {xs : List UInt8} {k t p : Nat} {x : UInt8} (hk : k < xs.length) (hx : x = xs[k]?.getD 0) (hp : p = x.toNat % 128) :
    takeG k t (xs.drop k) = if 10 ≤ k then none else if (k = 9 ∧ 1 < p) ∨ (x.toNat = 0 ∧ 0 < k) then none else if x.toNat < 128 then some (t + p * 128 ^ k, k + 1) else takeG (k + 1) (t + p * 128 ^ k) (xs.drop (k + 1)) := by
  rw [List.drop_eq_getElem_cons hk, takeG]
  have : xs[k] = x := by rw [hx]; simp [hk]
  rw [this, ← hp]
theorem takeG_end {xs : List UInt8} {k t : Nat} (hk : xs.length ≤ k ∨ 10 ≤ k) : takeG k t (xs.drop k) = none := by
  rcases hk with hk | hk
  · rw [List.drop_eq_nil_of_le hk]; rfl
  · cases hd : xs.drop k with
    | nil => rfl
    | cons y r => simp [takeG, hk]
theorem xs_andNot (x : UInt8) : bits BinOp.andNot IntKind.u8 (x.toNat : Int) 128 = ((x.toNat % 128 : Nat) : Int) := by
  have := u8_andNot_nat x.toNat 128 (by have := x.toNat_lt; omega) (by omega)
  rw [show ((128 : Nat) : Int) = 128 from rfl] at this
  rw [this, show 255 - 128 = 2 ^ 7 - 1 by decide, Nat.and_two_pow_sub_one_eq_mod]

theorem slice_from (a : Option Addr) (len cap : Nat) (k : Int) (h0 : 0 ≤ k) (h1 : k ≤ len) (w : World) :
    (Instr.slice 27 (.slice a len cap) (some (.int .i64 k)) none none).run Tryz.prog w = .ok (dropV (.slice a len cap) k.toNat) w := by
  have hs : (sizeOf (Tryz.prog.elem 27)).run Tryz.prog w = .ok 1 w := by kernel_rfl
  rw [run_slice_l (ht := by kernel_rfl) (h0 := h0) (h1 := h1), hs]
  simp [Result.andThen, sliced, dropV]
theorem slice_upto (a : Option Addr) (len cap : Nat) (k : Int) (h0 : 0 ≤ k) (h1 : k ≤ cap) (w : World) :
    (Instr.slice 27 (.slice a len cap) none (some (.int .i64 k)) none).run Tryz.prog w = .ok (takeV (.slice a len cap) k.toNat) w := by
  have hs : (sizeOf (Tryz.prog.elem 27)).run Tryz.prog w = .ok 1 w := by kernel_rfl
  rw [run_slice_h (ht := by kernel_rfl) (h0 := h0) (h2 := h1), hs]
  cases a <;> simp [Result.andThen, sliced, takeV, Addr.add]

/-- What TakeNum comes to. -/
def TakeNumPost (v : Value) (xs : List UInt8) (w : World) (e : Ending) (w' : World) : Prop :=
  match takeN xs with
  | some (n, k) => ∃ nq, e = .returned (.tuple #[.int .i64 n, dropV v k, .int .i64 0]) ∧ w' = w.drewN nq
  | none => e = .returned (.tuple #[.int .i64 0, .slice none 0 0, .int .i64 30]) ∧ w = w'

theorem takeG_none_of {xs : List UInt8} (h : takeG 0 0 xs = none) {v : Value} {w : World} :
    TakeNumPost v xs w (.returned (.tuple #[.int .i64 0, .slice none 0 0, .int .i64 30])) w := by
  unfold TakeNumPost takeN; rw [h]; exact ⟨rfl, rfl⟩
theorem takeG_some_of {xs : List UInt8} {t k : Nat} (h : takeG 0 0 xs = some (t, k)) {v : Value} {w : World} (nq : Nat) :
    TakeNumPost v xs w (.returned (.tuple #[.int .i64 (unzig t), dropV v k, .int .i64 0])) (w.drewN nq) := by
  unfold TakeNumPost takeN; rw [h]; exact ⟨nq, rfl, rfl⟩

set_option maxRecDepth 100000 in
set_option maxHeartbeats 1000000 in
theorem takeNum_any (v : Value) (xs : List UInt8) (w : World) (h : Bytes w v xs) :
    Calls Tryz.prog 90 #[v] w (TakeNumPost v xs w) := by
  rcases h.parts with ⟨a, rfl, rfl⟩ | ⟨b, off, cap, rfl, hl, hc, hb, hcell⟩
  · go_enter Tryz.func90, Tryz.ntmps90
    go_wp2
    go_loop [15] (fun i => i = .int .i64 0) (fun _ => 0)
    case atStart => exact rfl
    case round =>
      subst hrel
      go_wp2
      go_ret3
      exact takeG_none_of rfl
  · clear hb h
    unfold maxLen at hc
    obtain ⟨len, hlen⟩ : ∃ len, len = xs.length := ⟨_, rfl⟩
    rw [← hlen] at hl hcell ⊢
    have HL := Lib.hid hlen; clear hlen
    by_cases h10 : len ≤ 10
    · go_enter Tryz.func90, Tryz.ntmps90
      go_wp2
      go_loop [5, 15] (fun u i => ∃ k t : Nat, k ≤ len ∧ Hid (t < 128 ^ k) ∧ Hid (takeG 0 0 xs = takeG k t (xs.drop k)) ∧ i = .int .i64 k ∧ u = .int .u64 t) (fun _ i => len - (intOf i).toNat)
      case atStart => exact ⟨0, 0, by omega, by simp [Hid], by simp [Hid], rfl, rfl⟩
      case round =>
        obtain ⟨k, t, hk, HTT, HT, rfl, rfl⟩ := hrel
        by_cases hlt : k < len
        · have hck := hcell k (by omega)
          clear hcell
          obtain ⟨x, hx⟩ : ∃ x : UInt8, x = xs[k]?.getD 0 := ⟨_, rfl⟩
          rw [← hx] at hck
          unfold bv at hck
          have ha := xs_andNot x
          have hp : x.toNat % 128 < 128 := Nat.mod_lt _ (by omega)
          obtain ⟨p, hpe⟩ : ∃ p, p = x.toNat % 128 := ⟨_, rfl⟩
          rw [← hpe] at ha hp
          have hat := takeG_at (t := t) (p := p) (k := k) (by rw [← HL.out]; omega) hx hpe
          have hxl : (x.toNat : Int) ≤ 255 := by have := x.toNat_lt; omega
          have hpl : x.toNat < 128 → p = x.toNat := fun h => by omega
          rw [if_neg (by omega)] at hat
          clear hx hpe
          by_cases hbad : (k = 9 ∧ 1 < p) ∨ (x.toNat = 0 ∧ 0 < k)
          · rw [if_pos hbad] at hat
            have HF := Lib.hid (HT.out.trans hat); clear hat
            rcases hbad with ⟨h9, h1⟩ | ⟨h0, h1⟩
            · have h9' : ((k : Int) == 9) = true := by simp; omega
              have h1' : (1 : Int) < p := by omega
              clear h9 h1 hpl
              go_wp2
              all_goals (go_ret3; exact takeG_none_of HF.out)
            · have h1' : (0 : Int) < k := by omega
              have h0' : ((x.toNat : Int) == 0) = true := by simp; omega
              have hp0 : p = 0 := by have := hpl (by omega); omega
              clear hpl ha
              have ha := xs_andNot x
              rw [h0, Nat.zero_mod] at ha
              subst hp0
              clear h0 h1
              by_cases h9 : k = 9
              · have h2' : ((k : Int) == 9) = true := by simp; omega
                clear h9
                go_wp2
                all_goals (go_ret3; exact takeG_none_of HF.out)
              · have h2' : ((k : Int) == 9) = false := by simp; omega
                clear h9
                go_wp2
                all_goals (go_ret3; exact takeG_none_of HF.out)
          · rw [if_neg hbad] at hat
            obtain ⟨hor, h64, h128⟩ := or_step t p k HTT.out hp (by omega)
            obtain ⟨t', ht'⟩ : ∃ t', t' = t + p * 128 ^ k := ⟨_, rfl⟩
            rw [← ht'] at hor h64 h128 hat
            clear ht'
            have HS := Lib.hid h128; clear h128
            have H64 := Lib.hid h64; clear h64
            have hcases : ((((k : Int) == 9) = true) ∧ ¬ (1 : Int) < p ∧ ((x.toNat : Int) == 0) = false) ∨ ((((k : Int) == 9) = false) ∧ ((x.toNat : Int) == 0) = false) ∨
                ((((k : Int) == 9) = false) ∧ ((x.toNat : Int) == 0) = true ∧ ¬ (0 : Int) < k) := by
              by_cases h9 : k = 9
              · refine .inl ⟨by simp; omega, by omega, ?_⟩
                by_cases h0 : x.toNat = 0
                · omega
                · simp; omega
              · by_cases h0 : x.toNat = 0
                · exact .inr (.inr ⟨by simp; omega, by simp; omega, by omega⟩)
                · exact .inr (.inl ⟨by simp; omega, by simp; omega⟩)
            clear hbad hpl
            by_cases hx1 : x.toNat < 128
            · rw [if_pos hx1] at hat
              have HF := Lib.hid (HT.out.trans hat); clear hat
              have hx1' : (x.toNat : Int) < 128 := by omega
              clear hx1
              have e1 : IntKind.i64.wrap ((k : Int) + 1) = (k : Int) + 1 := IntWalk.i64_in _ (by omega)
              have e2 : ((k : Int) + 1).toNat = k + 1 := by omega
              have e3 : 0 ≤ (k : Int) + 1 := by omega
              have e4 : (k : Int) + 1 ≤ len := by omega
              have hsl := slice_from (some ⟨b, off, none⟩) len cap ((k : Int) + 1) e3 e4
              rw [e2] at hsl
              rcases hcases with ⟨q1, q2, q3⟩ | ⟨q1, q2⟩ | ⟨q1, q2, q3⟩
              all_goals
                go_wp2
                go_quiet ((go_at_call 117; exact quiet_same (signed_any _ H64.out _)))
                go_wp2
                go_ret3
                exact takeG_some_of HF.out _
            · rw [if_neg hx1] at hat
              have HF := Lib.hid (HT.out.trans hat); clear hat
              have hx1' : ¬ (x.toNat : Int) < 128 := by omega
              clear hx1
              rcases hcases with ⟨q1, q2, q3⟩ | ⟨q1, q2⟩ | ⟨q1, q2, q3⟩
              all_goals
                go_wp2
                go_round
                case rel => exact ⟨k + 1, t', by omega, HS, HF, by go_num, rfl⟩
                case measure => simp [intOf]; omega
        · obtain rfl : k = len := by omega
          clear hcell
          have HF := Lib.hid (HT.out.trans (takeG_end (by have := HL.out; omega)))
          go_wp2
          go_ret3
          exact takeG_none_of HF.out
    · go_enter Tryz.func90, Tryz.ntmps90
      go_wp2
      go_loop [5, 15] (fun u i => ∃ k t : Nat, k ≤ 10 ∧ Hid (t < 128 ^ k) ∧ Hid (takeG 0 0 xs = takeG k t (xs.drop k)) ∧ i = .int .i64 k ∧ u = .int .u64 t) (fun _ i => 10 - (intOf i).toNat)
      case atStart => exact ⟨0, 0, by omega, by simp [Hid], by simp [Hid], rfl, rfl⟩
      case round =>
        obtain ⟨k, t, hk, HTT, HT, rfl, rfl⟩ := hrel
        by_cases hlt : k < 10
        · have hck := hcell k (by omega)
          clear hcell
          obtain ⟨x, hx⟩ : ∃ x : UInt8, x = xs[k]?.getD 0 := ⟨_, rfl⟩
          rw [← hx] at hck
          unfold bv at hck
          have ha := xs_andNot x
          have hp : x.toNat % 128 < 128 := Nat.mod_lt _ (by omega)
          obtain ⟨p, hpe⟩ : ∃ p, p = x.toNat % 128 := ⟨_, rfl⟩
          rw [← hpe] at ha hp
          have hat := takeG_at (t := t) (p := p) (k := k) (by rw [← HL.out]; omega) hx hpe
          have hxl : (x.toNat : Int) ≤ 255 := by have := x.toNat_lt; omega
          have hpl : x.toNat < 128 → p = x.toNat := fun h => by omega
          rw [if_neg (by omega)] at hat
          clear hx hpe
          by_cases hbad : (k = 9 ∧ 1 < p) ∨ (x.toNat = 0 ∧ 0 < k)
          · rw [if_pos hbad] at hat
            have HF := Lib.hid (HT.out.trans hat); clear hat
            rcases hbad with ⟨h9, h1⟩ | ⟨h0, h1⟩
            · have h9' : ((k : Int) == 9) = true := by simp; omega
              have h1' : (1 : Int) < p := by omega
              clear h9 h1 hpl
              go_wp2
              all_goals (go_ret3; exact takeG_none_of HF.out)
            · have h1' : (0 : Int) < k := by omega
              have h0' : ((x.toNat : Int) == 0) = true := by simp; omega
              have hp0 : p = 0 := by have := hpl (by omega); omega
              clear hpl ha
              have ha := xs_andNot x
              rw [h0, Nat.zero_mod] at ha
              subst hp0
              clear h0 h1
              by_cases h9 : k = 9
              · have h2' : ((k : Int) == 9) = true := by simp; omega
                clear h9
                go_wp2
                all_goals (go_ret3; exact takeG_none_of HF.out)
              · have h2' : ((k : Int) == 9) = false := by simp; omega
                clear h9
                go_wp2
                all_goals (go_ret3; exact takeG_none_of HF.out)
          · rw [if_neg hbad] at hat
            obtain ⟨hor, h64, h128⟩ := or_step t p k HTT.out hp (by omega)
            obtain ⟨t', ht'⟩ : ∃ t', t' = t + p * 128 ^ k := ⟨_, rfl⟩
            rw [← ht'] at hor h64 h128 hat
            clear ht'
            have HS := Lib.hid h128; clear h128
            have H64 := Lib.hid h64; clear h64
            have hcases : ((((k : Int) == 9) = true) ∧ ¬ (1 : Int) < p ∧ ((x.toNat : Int) == 0) = false) ∨ ((((k : Int) == 9) = false) ∧ ((x.toNat : Int) == 0) = false) ∨
                ((((k : Int) == 9) = false) ∧ ((x.toNat : Int) == 0) = true ∧ ¬ (0 : Int) < k) := by
              by_cases h9 : k = 9
              · refine .inl ⟨by simp; omega, by omega, ?_⟩
                by_cases h0 : x.toNat = 0
                · omega
                · simp; omega
              · by_cases h0 : x.toNat = 0
                · exact .inr (.inr ⟨by simp; omega, by simp; omega, by omega⟩)
                · exact .inr (.inl ⟨by simp; omega, by simp; omega⟩)
            clear hbad hpl
            by_cases hx1 : x.toNat < 128
            · rw [if_pos hx1] at hat
              have HF := Lib.hid (HT.out.trans hat); clear hat
              have hx1' : (x.toNat : Int) < 128 := by omega
              clear hx1
              have e1 : IntKind.i64.wrap ((k : Int) + 1) = (k : Int) + 1 := IntWalk.i64_in _ (by omega)
              have e2 : ((k : Int) + 1).toNat = k + 1 := by omega
              have e3 : 0 ≤ (k : Int) + 1 := by omega
              have e4 : (k : Int) + 1 ≤ len := by omega
              have hsl := slice_from (some ⟨b, off, none⟩) len cap ((k : Int) + 1) e3 e4
              rw [e2] at hsl
              rcases hcases with ⟨q1, q2, q3⟩ | ⟨q1, q2⟩ | ⟨q1, q2, q3⟩
              all_goals
                go_wp2
                go_quiet ((go_at_call 117; exact quiet_same (signed_any _ H64.out _)))
                go_wp2
                go_ret3
                exact takeG_some_of HF.out _
            · rw [if_neg hx1] at hat
              have HF := Lib.hid (HT.out.trans hat); clear hat
              have hx1' : ¬ (x.toNat : Int) < 128 := by omega
              clear hx1
              rcases hcases with ⟨q1, q2, q3⟩ | ⟨q1, q2⟩ | ⟨q1, q2, q3⟩
              all_goals
                go_wp2
                go_round
                case rel => exact ⟨k + 1, t', by omega, HS, HF, by go_num, rfl⟩
                case measure => simp [intOf]; omega
        · obtain rfl : k = 10 := by omega
          clear hcell
          have HF := Lib.hid (HT.out.trans (takeG_end (by have := HL.out; omega)))
          go_wp2
          go_ret3
          exact takeG_none_of HF.out
end Go.Proofs.YtdienbcjfljjnaaGreatDoor

open Go.RowKit Go.Shelf
namespace Go.Proofs.YtdienbcjfljjnaaGreatDoor
open Go Go.Proofs Fm
attribute [local go_sem] Oper.semAt_some

theorem cell_new_l (W : World) (v : Value) (t : TypeId) : (W.alloc (.cells #[v] t)).cell? ⟨W.heap.size, 0, none⟩ = some v ∧ (W.alloc (.cells #[v] t)).frozen? ⟨W.heap.size, 0, none⟩ = false :=
  ⟨(Boxed.new W t v).cell, (Boxed.new W t v).frozen⟩
theorem cell_alloc_l {W : World} {a : Addr} {v : Value} (o : Obj) (h : W.cell? a = some v) : (W.alloc o).cell? a = some v := cell_kept h (World.grownBy_alloc W o none) (fun r e => by cases e)
theorem or_128 (v : Nat) : bits BinOp.or IntKind.u8 ((v : Int) % 256) 128 = ((UInt8.ofNat (v % 128 + 128)).toNat : Int) := by
  have e : ((v : Int) % 256) = ((v % 256 : Nat) : Int) := by omega
  have := u8_or_nat (v % 256) 128 (by omega) (by omega)
  rw [e]
  rw [show ((128 : Nat) : Int) = 128 from rfl] at this
  rw [this, toNat_ofNat_lt (by omega)]
  congr 1
  have hd : ∀ b : Fin 256, b.val ||| 128 = b.val % 128 + 128 := by decide +kernel
  have := hd ⟨v % 256, by omega⟩
  simp only at this
  omega

theorem grp_cons {v i : Nat} (hi : i < 10) (hv : ¬ v < 128) : grpN (10 - i) v = UInt8.ofNat (v % 128 + 128) :: grpN (10 - (i + 1)) (v / 128) := by
  rw [show 10 - i = (10 - (i + 1)) + 1 by omega, grpN, if_neg hv]
theorem grp_last {v i : Nat} (hi : i < 10) (hv : v < 128) : grpN (10 - i) v = [UInt8.ofNat v] := by
  rw [show 10 - i = (9 - i) + 1 by omega, grpN, if_pos hv]

set_option maxHeartbeats 1000000 in
/-- The groups of a number, one by one: whatever the rounds do. -/
theorem groups1_in (n l Bn : Nat) (m : Int) (h : isI64 m) (J Jx : List UInt8 → World → Prop)
    (hY : ∀ pre x W, J pre W → pre.length < (numB m).length → YieldAt Fence.wide (n - 1) Tryz.prog l #[bv x] W fun e W' =>
      (e = .returned (.bool true) ∧ J (pre ++ [x]) W') ∨ (e = .returned (.bool false) ∧ Jx (pre ++ [x]) W'))
    (W : World) (hBn : W.cell? ⟨Bn, 0, none⟩ = some (.int .i64 m)) (h0 : J [] W) :
    CallsIn Fence.wide n Tryz.prog 112 #[.func (.yield l) #[] #[], .pointer (some ⟨Bn, 0, none⟩)] W fun e W' =>
      (∃ v, e = .returned v) ∧ (J (numB m) W' ∨ ∃ pre, pre <+: numB m ∧ Jx pre W') := by
  have hfn : ∀ f, Fence.wide.fn f := fun _ => trivial
  have hdp : Fence.wide.depth.isSome = false := rfl
  refine callsIn_of_wp Tryz.func112 rfl trivial ?_ rfl
  simp only [Tryz.ntmps112, List.size_toArray, List.length_cons, List.length_nil, Nat.reduceAdd, Nat.reduceSub, Array.replicate_succ, Array.replicate_zero, List.push_toArray, List.append_toArray, List.nil_append, List.cons_append]
  gi_wp2_with (gi_at_call 113; refine (callsIn_wide.2 (plain_any m h _)).mono ?_; rintro e w' ⟨rfl, rfl⟩)
  gi_loopw [3] (fun u wr => ∃ (pre : List UInt8) (v : Nat), u = .int .u64 v ∧ Hid (numB m = pre ++ grpN (10 - pre.length) v) ∧ Hid (v * 128 ^ pre.length < 18446744073709551616 ∧ (pre.length = 0 ∨ 0 < v)) ∧ J pre wr)
    (fun u _ => (intOf u).toNat)
  case atStart =>
    exact ⟨[], zig m, rfl, rfl, ⟨by simpa using zig_lt h, .inl rfl⟩, h0⟩
  case round =>
    obtain ⟨pre, v, rfl, HN, HV, hJs⟩ := hrel
    have hv64 : v < 18446744073709551616 := by
      have h1 := HV.out.1
      have h2 : v * 1 ≤ v * 128 ^ pre.length := Nat.mul_le_mul_left _ (Nat.pow_pos (by omega))
      omega
    have hpl : pre.length < 10 := by
      rcases HV.out.2 with h0 | h0
      · omega
      · have := le9 h0 HV.out.1; omega
    by_cases hv : v < 128
    · have hg := grp_last hpl hv
      obtain ⟨fn, tmps, assign, body, hy, hR⟩ := hY pre (UInt8.ofNat v) wr hJs (by rw [HN.out, hg]; simp)
      unfold bv at hy
      rw [toNat_ofNat_lt (by omega)] at hy
      have HG := Lib.hid (HN.out.trans (by rw [hg])); clear hg
      have hv' : ¬ (128 : Int) ≤ v := by omega
      clear hJs h0 hY
      gi_wp2
      refine hR.mono ?_
      rintro e W3 (⟨rfl, hJ3⟩ | ⟨rfl, hJx3⟩)
      · gi_wp2
        go_end0
        exact ⟨⟨_, rfl⟩, .inl (by rw [HG.out]; exact hJ3)⟩
      · gi_wp2
        go_end0
        exact ⟨⟨_, rfl⟩, .inr ⟨_, ⟨[], by rw [HG.out]; simp⟩, hJx3⟩⟩
    · have hg := grp_cons hpl hv
      have hv' : (128 : Int) ≤ v := by omega
      have hst := step_eq 0 v pre.length
      obtain ⟨x, hx⟩ : ∃ x, x = UInt8.ofNat (v % 128 + 128) := ⟨_, rfl⟩
      have hor := or_128 v
      rw [← hx] at hg hor
      obtain ⟨fn, tmps, assign, body, hy, hR⟩ := hY pre x wr hJs (by rw [HN.out, hg]; simp)
      unfold bv at hy
      have HG := Lib.hid (HN.out.trans (by rw [hg])); clear hg
      have HST := Lib.hid hst; clear hst
      have H64 := Lib.hid hv64; clear hv64
      have hvm : (v : Int) / 128 ≤ 18446744073709551615 := by have := H64.out; omega
      have hvp : (v : Int) ≤ 18446744073709551615 := by have := H64.out; omega
      clear hJs h0 hY hx
      gi_wp2
      refine hR.mono ?_
      rintro e W3 (⟨rfl, hJ3⟩ | ⟨rfl, hJx3⟩)
      · gi_wp2
        go_roundw
        case rel => exact ⟨pre ++ [x], v / 128, by go_num, by have := HG.out; simpa [Hid] using this, by
          have h1 := HV.out
          have h2 := HST.out
          constructor
          · rw [List.length_append, List.length_cons, List.length_nil, Nat.zero_add]; omega
          · right; omega, hJ3⟩
        case measure => simp [intOf]; omega
      · gi_wp2
        refine bodyPost_ret (results_none rfl _ _ _) rfl ?_
        exact ⟨⟨_, rfl⟩, .inr ⟨pre ++ [x], ⟨grpN (10 - (pre.length + 1)) (v / 128), by rw [HG.out]; simp⟩, hJx3⟩⟩

theorem groups_any (m : Int) (w : World) :
    Calls Tryz.prog 77 #[.int .i64 m] w fun e w' => e = .returned (.func (.func 112) #[] #[.pointer (some ⟨w.heap.size, 0, none⟩)]) ∧ w.alloc (.cells #[.int .i64 m] 2) = w' := by
  go_enter Tryz.func77, Tryz.ntmps77
  go_wp2
  go_ret
  exact ⟨rfl, rfl⟩

/-- The groups' contract as an iterator's. -/
theorem groups1_stops (n Bn : Nat) (m : Int) (h : isI64 m) (w : World) (hlt : Bn < w.heap.size) (hBn : w.cell? ⟨Bn, 0, none⟩ = some (.int .i64 m)) :
    SeqStopsK Fence.wide n Tryz.prog 112 #[.pointer (some ⟨Bn, 0, none⟩)] (fun x => #[bv x]) (fun _ _ => True) (fun xs => xs = numB m) (fun pre => pre <+: numB m) (numB m).length w := by
  intro l J Jx W hW hJ hJx hY h0
  refine (groups1_in n l Bn m h J Jx (fun pre x W1 hj hl => ?_) W ((hW.cell (p := ⟨Bn, 0, none⟩) hlt).trans hBn) h0).mono ?_
  · obtain ⟨fn, tmps, assign, body, hy, hR⟩ := hY pre x W1 hj hl
    refine ⟨fn, tmps, assign, body, hy, hR.mono ?_⟩
    rintro e W' (⟨h1, h2, _⟩ | h1)
    · exact .inl ⟨h1, h2⟩
    · exact .inr h1
  · rintro e W' ⟨hv, h1 | ⟨pre, h1, h2⟩⟩
    · exact ⟨hv, .inl ⟨_, rfl, h1⟩⟩
    · exact ⟨hv, .inr ⟨pre, h1, h2⟩⟩

theorem info_u8 : (Tryz.prog.info? 5).map (fun i => (i.zero, i.size, i.bytes)) = some (some (.int .u8 0), 1, 1) := by kernel_rfl

/-- The call has made a slice of its own of these bytes, and nothing that lay has turned. -/
def OwnBytes (w w' : World) (v : Value) (xs : List UInt8) : Prop :=
  w'.ownsRow w.heap.size 5 1 v xs.length (xs.map bv) ∧ Ext w w'
def RetBytes (w : World) (xs : List UInt8) (e : Ending) (w' : World) : Prop := ∃ v, e = .returned v ∧ OwnBytes w w' v xs
theorem OwnBytes.bytes {w w' : World} {v : Value} {xs : List UInt8} (h : OwnBytes w w' v xs) : Bytes w' v xs := Bytes.of_own h.1
theorem cells_bytes {w : World} {b off : Nat} {xs : List UInt8} (hc : ∀ j, j < xs.length → w.cell? ⟨b, off + j, none⟩ = some (bv (xs[j]?.getD 0))) :
    ∀ j u, (xs.map bv)[j]? = some u → w.cell? ((⟨b, off, none⟩ : Addr).add j) = some u := by
  intro j u hu
  have hj : j < xs.length := by have := (List.getElem?_eq_some_iff.1 hu).1; simpa using this
  rw [Addr.add_lit, hc j hj]
  rw [List.getElem?_map] at hu
  simp [hj] at hu ⊢
  exact hu
theorem bv_one (xs : List UInt8) : ∀ u ∈ xs.map bv, u.oneCell' = true := by
  intro u hu
  obtain ⟨x, _, rfl⟩ := List.mem_map.1 hu
  rfl

theorem clone_any (v : Value) (xs : List UInt8) (w : World) (h : Bytes w v xs) (hs : xs.length ≤ 1099511627776) :
    Calls Tryz.prog 76 #[v] w (RetBytes w xs) := by
  obtain ⟨i0, hi, hz0, hz1, hz2⟩ := info_parts info_u8
  have hq := fun a n c => Lib.run_eql_slice_nil (P := Tryz.prog) w 27 5 a n c 0 0 Tryz.underlying27
  rcases h.parts with ⟨a, rfl, rfl⟩ | ⟨b, off, cap, rfl, hl, hc, hb, hcell⟩
  · cases a with
    | none =>
      go_enter Tryz.func76, Tryz.ntmps76
      go_wp2
      go_ret
      exact ⟨_, rfl, World.ownsRow_nil _ _ _ _, Ext.refl _⟩
    | some ad =>
      have HO := Lib.hid (World.ownsRow_made w #[] 0 (base := w.heap.size) (e := 5) (size := 1) (Nat.le_refl _) (by simp) rfl)
      go_enter Tryz.func76, Tryz.ntmps76
      go_wp2_with (at_builtin; refine wpList_append_own _ rfl _ _ 27 rfl w.heap.size 5 i0 (.int .u8 0) 1 1 Tryz.underlying27 hi hz0 hz1 hz2 rfl (by decide) _ _ _ rfl HO.out ad 0 0 [] rfl rfl (fun _ _ h => by cases h) (fun _ h => by cases h) ?c1 ?c2 ?c3 ?_)
      case c1 => unfold maxLen; omega
      case c2 => omega
      case c3 => simp
      intro v' w1 hown' hgrow _
      have hE : Ext w w1 := ((Ext.refl w).alloc _).grown hgrow (fun k e => by simp [Value.ownBlock] at e; omega)
      clear hi hz0 hz1 hz2
      go_wp2
      go_ret
      exact ⟨v', rfl, hown', hE⟩
  · unfold maxLen at hc
    have hcx := cells_bytes (fun j hj => (World.cell?_alloc_lt (w := w) (a := ⟨b, off + j, none⟩) (o := .cells #[] 5) hb).trans (hcell j hj))
    have hown := World.ownsRow_made w #[] 0 (base := w.heap.size) (e := 5) (size := 1) (Nat.le_refl _) (by simp) rfl
    have HC := Lib.hid hcx; clear hcx hcell h
    have HO := Lib.hid hown; clear hown
    go_enter Tryz.func76, Tryz.ntmps76
    go_wp2_with (at_builtin; refine wpList_append_own _ rfl _ _ 27 rfl w.heap.size 5 i0 (.int .u8 0) 1 1 Tryz.underlying27 hi hz0 hz1 hz2 rfl (by decide) _ _ _ rfl HO.out ⟨b, off, none⟩ xs.length cap (xs.map bv) rfl (by simp) HC.out (bv_one xs) ?c1 ?c2 ?c3 ?_)
    case c1 => unfold maxLen; omega
    case c2 => omega
    case c3 => simp
    intro v' w1 hown' hgrow _
    have hE : Ext w w1 := ((Ext.refl w).alloc _).grown hgrow (fun k e => by simp [Value.ownBlock] at e; omega)
    clear hi hz0 hz1 hz2
    go_wp2
    go_ret
    exact ⟨v', rfl, hown', hE⟩

set_option maxRecDepth 100000 in
set_option maxHeartbeats 2000000 in
/-- slices.AppendSeq(s, groups(m)), s a slice that the caller owns from n₀ on. -/
theorem appendSeq_any (n₀ Bn : Nat) (m : Int) (h : isI64 m) (v : Value) (xs : List UInt8) (hs : xs.length ≤ 2199023255552) (w : World) (hn₀ : n₀ ≤ w.heap.size) (hBn : Bn < w.heap.size) (hcell : w.cell? ⟨Bn, 0, none⟩ = some (.int .i64 m))
    (hrow : w.ownsRow n₀ 5 1 v xs.length (xs.map bv)) :
    Calls Tryz.prog 75 #[v, .func (.func 112) #[] #[.pointer (some ⟨Bn, 0, none⟩)]] w fun e w' =>
      ∃ v', e = .returned v' ∧ w'.ownsRow n₀ 5 1 v' (xs.length + (numB m).length) (xs.map bv ++ (numB m).map bv) ∧ Below n₀ w w' := by
  have hfn : ∀ f, Fence.wide.fn f := fun _ => trivial
  have hdp : Fence.wide.depth.isSome = false := rfl
  have hlen := numB_le m
  obtain ⟨i0, hi, hz0, hz1, hz2⟩ := info_parts info_u8
  refine (callsIn_wide (n := 3)).1 ?_
  refine callsIn_of_wp_marks Tryz.func75 rfl trivial ?_ rfl
  simp only [Tryz.ntmps75, List.size_toArray, List.length_cons, List.length_nil, Nat.reduceAdd, Nat.reduceSub, Array.replicate_succ, Array.replicate_zero, List.push_toArray, List.append_toArray, List.nil_append, List.cons_append]
  have hvs : ∃ a c, v = .slice a xs.length c := by
    rcases hrow.2 with ⟨rfl, h0⟩ | ⟨g, cap, cur, rfl, _⟩
    · exact ⟨_, _, by rw [h0]⟩
    · exact ⟨_, _, rfl⟩
  obtain ⟨a0, c0, rfl⟩ := hvs
  have HR := Lib.hid hrow; clear hrow
  gi_wp2
  have hrow := HR.out
  have bO := Boxed.new w 27 (.slice a0 xs.length c0)
  have hB0 : Below n₀ w (w.alloc (.cells #[.slice a0 xs.length c0] 27)) := (Below.refl _ w).alloc hn₀ _
  refine wpIn_rangeFunc_ownG rfl (by decide) (gf := 112) (lb := #[.pointer (some ⟨Bn, 0, none⟩)]) rfl trivial (enters_of Tryz.func112 (by kernel_rfl) rfl)
    (groups1_stops _ Bn m h _ (by simp; omega) (cell_alloc_l _ hcell)) (fun _ _ => trivial) (fun _ _ _ _ _ _ _ _ => trivial) (Below.refl _ _) (fun _ => rfl)
    (fun pre W => (∃ v, Boxed W w.heap.size 27 v ∧ W.ownsRow n₀ 5 1 v (xs.length + pre.length) (xs.map bv ++ pre.map bv) ∧ True) ∧ Below n₀ w W)
    (fun _ _ _ => False)
    (OwnFrom.and (Own.from (holdsRow_own n₀ w.heap.size 27 5 1 (fun pre : List UInt8 => xs.length + pre.length) (fun pre : List UInt8 => xs.map bv ++ pre.map bv) (fun _ _ => True)) _) (ownFrom_below hn₀ (by simp; omega)))
    (fun _ _ _ _ _ hs _ _ => hs)
    ⟨⟨_, bO, by simpa using hrow.alloc _, trivial⟩, hB0⟩
    (fun x => { tmps := #[.slice a0 xs.length c0, .func (.func 112) #[] #[.pointer (some ⟨Bn, 0, none⟩)], .pointer (some ⟨w.heap.size, 0, none⟩), undef, .slice none 0 0, .int .u8 x.toNat, .func (.func 112) #[] #[.pointer (some ⟨Bn, 0, none⟩)], .int .u8 x.toNat, undef, undef, undef, undef, undef], defers := [] }) ?assign ?body ?done ?stop
  case assign =>
    intro l x W K hK
    gi_wp2
    exact hK
  case body =>
    rintro l pre x W ⟨⟨v, hv, hrow, _⟩, hB⟩ hlt
    have hc := hv.cell
    clear hcell
    gi_wp2_with (gi_at_builtin; refine wpListIn_append_own _ rfl _ _ 27 rfl n₀ 5 i0 (.int .u8 0) 1 1 Tryz.underlying27 hi hz0 hz1 hz2 rfl (by decide) _ _ _ rfl (hrow.alloc _) ⟨W.heap.size, 0, none⟩ 1 1 [.int .u8 x.toNat] rfl rfl (cell_one_new _ _ _) (by simp [Value.oneCell']) (by unfold maxLen; omega) (by omega) (by have := hB.size; simp; omega) ?_; intro v' w1 hown' hgrow _; obtain ⟨g', cap', rfl⟩ := ownsRow_succ hown'; obtain ⟨hv1, hv2, hr2, hk2, hb2⟩ := hv.appended (by decide) hrow (Nat.le_trans hn₀ (by have := hv.lt; omega)) hn₀ hown' hgrow; have hc1 := hv1.cell; have hf1 := hv1.frozen)
    exact ⟨hk2.from _, trivial, ⟨_, hv2, by simpa [List.append_assoc, bv, Nat.add_assoc] using hr2, trivial⟩, hB.trans hb2⟩
  case done =>
    rintro D ys W hD rfl ⟨⟨v, hv, hrow, _⟩, hB⟩ hK
    have hc := hv.cell
    clear hcell
    gi_wp2
    refine ⟨by simp, .inl ⟨_, _, rfl, run_takeDeferred hK, ?_⟩⟩
    exact ⟨_, results_tmp rfl _ _ _, v, rfl, ownsRow_putObj hrow _ hK rfl, hB.trans (belowK_b (w := w) hn₀ W D _ _ (by simp at hD; omega) hK rfl rfl)⟩
  case stop =>
    rintro D c pre W _ _ h _
    exact h.elim
end Go.Proofs.YtdienbcjfljjnaaGreatDoor
