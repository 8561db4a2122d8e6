/- A value's tree as it lies in a world: plain facts; no program is imported. -/
import Derived.Test.YtdienbcjfljjnaaGreatDoorPlA
import Derived.Deep.AppendLies
import Derived.Lib.ItoaNum
namespace Fm
open Go Go.RowKit

/-- A value: its kind, number, text, list. -/
inductive Tr where
  | node (k : UInt8) (n : Int) (s : List UInt8) (l : List Tr)

theorem Tr.ind {M : Tr → Prop} (h : ∀ k n s l, (∀ t, t ∈ l → M t) → M (.node k n s l)) : ∀ t, M t := by
  intro t
  refine Tr.rec (motive_1 := M) (motive_2 := fun l => ∀ t, t ∈ l → M t) ?_ ?_ ?_ t
  · intro k n s l ih; exact h k n s l ih
  · intro t ht; cases ht
  · intro a l iha ihl t ht
    cases ht with
    | head => exact iha
    | tail _ hm => exact ihl t hm

inductive Lies (w : World) : Tr → Value → Prop where
  | node (k : UInt8) (n : Int) (s : List UInt8) (l : List Tr) (a : Option Addr) (cap : Nat) (C : Nat → Nat → Value) (hn : isI64 n) (hs : s.length ≤ 9223372036854775807)
      (h1 : l.length ≤ cap) (h2 : cap ≤ maxLen) (h3 : a = none → cap = 0)
      (h4 : 0 < l.length → ∃ b off, a = some ⟨b, off, none⟩ ∧ b < w.heap.size ∧ ∀ i j, i < l.length → j < 4 → w.cell? ⟨b, off + (i * 4 + j), none⟩ = some (C i j))
      (h5 : ∀ (i : Nat) (hi : i < l.length), Lies w l[i] (.agg #[C i 0, C i 1, C i 2, C i 3])) :
      Lies w (.node k n s l) (.agg #[.int .u8 (k.toNat : Int), .int .i64 n, .string (str s), .slice a l.length cap])

theorem Lies.ext {w w' : World} (hx : Ext w w') {t : Tr} {v : Value} (h : Lies w t v) : Lies w' t v := by
  induction h with
  | node k n s l a cap C hn hs h1 h2 h3 h4 h5 ih =>
    refine .node k n s l a cap C hn hs h1 h2 h3 (fun hp => ?_) ih
    obtain ⟨b, off, ha, hb, hc⟩ := h4 hp
    exact ⟨b, off, ha, Nat.lt_of_lt_of_le hb hx.size, fun i j hi hj => (hx.cell (p := ⟨b, _, none⟩) hb).trans (hc i j hi hj)⟩

/-- The four cells of an element, and the element, in a world that has grown. -/
theorem elem4 {w wr : World} {l : List Tr} {b off : Nat} {C : Nat → Nat → Value} (hE : Ext w wr) (hb : b < w.heap.size)
    (hc : ∀ i j, i < l.length → j < 4 → w.cell? ⟨b, off + (i * 4 + j), none⟩ = some (C i j)) (h5 : ∀ (i : Nat) (hi : i < l.length), Lies w l[i] (.agg #[C i 0, C i 1, C i 2, C i 3])) (k : Nat) (hk : k < l.length) :
    ∃ (k0 : Int) (n0 : Int) (s0 : ByteArray) (a0 : Option Addr) (m0 c0 : Nat), wr.cell? ⟨b, off + k * 4, none⟩ = some (.int .u8 k0) ∧ wr.cell? ⟨b, off + k * 4 + 1, none⟩ = some (.int .i64 n0) ∧ wr.cell? ⟨b, off + k * 4 + 2, none⟩ = some (.string s0) ∧ wr.cell? ⟨b, off + k * 4 + 3, none⟩ = some (.slice a0 m0 c0) ∧
      Lies wr l[k] (.agg #[.int .u8 k0, .int .i64 n0, .string s0, .slice a0 m0 c0]) := by
  have e0 := (hE.cell (p := ⟨b, _, none⟩) hb).trans (hc k 0 hk (by omega))
  have e1 := (hE.cell (p := ⟨b, _, none⟩) hb).trans (hc k 1 hk (by omega))
  have e2 := (hE.cell (p := ⟨b, _, none⟩) hb).trans (hc k 2 hk (by omega))
  have e3 := (hE.cell (p := ⟨b, _, none⟩) hb).trans (hc k 3 hk (by omega))
  have hx := (h5 k hk).ext hE
  generalize l[k] = t at hx
  generalize C k 0 = x0 at *
  generalize C k 1 = x1 at *
  generalize C k 2 = x2 at *
  generalize C k 3 = x3 at *
  cases hx with
  | node k n s l a cap C hn hs h1 h2 h3 h4 h5 =>
    exact ⟨_, _, _, _, _, _, e0, e1, e2, e3, .node k n s l a cap C hn hs h1 h2 h3 h4 h5⟩

/-- A struct of four fields, new in memory. -/
theorem alloc4 (w : World) (c0 c1 c2 c3 : Value) (e : TypeId) : (w.alloc (.cells #[c0, c1, c2, c3] e)).cell? ⟨w.heap.size, 0, none⟩ = some c0 ∧ (w.alloc (.cells #[c0, c1, c2, c3] e)).cell? ⟨w.heap.size, 1, none⟩ = some c1 ∧
    (w.alloc (.cells #[c0, c1, c2, c3] e)).cell? ⟨w.heap.size, 2, none⟩ = some c2 ∧ (w.alloc (.cells #[c0, c1, c2, c3] e)).cell? ⟨w.heap.size, 3, none⟩ = some c3 ∧ w.heap.size < (w.alloc (.cells #[c0, c1, c2, c3] e)).heap.size := by
  refine ⟨?_, ?_, ?_, ?_, ?_⟩
  all_goals simp

/-- How many parts. -/
def partsT : Tr → Nat
  | .node _ _ _ l => 1 + (l.map partsT).sum
def partsL (l : List Tr) : Nat := (l.map partsT).sum
theorem partsT_node (k : UInt8) (n : Int) (s : List UInt8) (l : List Tr) : partsT (.node k n s l) = 1 + partsL l := by rw [partsT]; rfl
theorem partsL_nil : partsL [] = 0 := rfl
theorem partsL_cons (t : Tr) (ts : List Tr) : partsL (t :: ts) = partsT t + partsL ts := by simp [partsL]
theorem partsT_pos (t : Tr) : 0 < partsT t := by cases t; rw [partsT_node]; omega
theorem partsL_append : ∀ (a b : List Tr), partsL (a ++ b) = partsL a + partsL b
  | [], b => by simp [partsL_nil]
  | t :: ts, b => by rw [List.cons_append, partsL_cons, partsL_cons, partsL_append ts b]; omega
theorem partsL_len : ∀ l : List Tr, l.length ≤ partsL l
  | [] => by simp
  | t :: ts => by have := partsT_pos t; have := partsL_len ts; rw [partsL_cons, List.length_cons]; omega
theorem partsL_at : ∀ (l : List Tr) (i : Nat) (hi : i < l.length), partsL (l.take (i + 1)) = partsL (l.take i) + partsT l[i]
  | [], _, hi => absurd hi (by simp)
  | t :: ts, 0, _ => by simp [partsL]
  | t :: ts, i + 1, hi => by
    have := partsL_at ts i (by simpa using hi)
    simp only [List.take_succ_cons, partsL_cons, List.getElem_cons_succ]; omega
theorem partsL_take_le : ∀ (l : List Tr) (i : Nat), partsL (l.take i) ≤ partsL l
  | [], i => by simp
  | t :: ts, 0 => by simp [partsL_nil]
  | t :: ts, i + 1 => by have := partsL_take_le ts i; simp only [List.take_succ_cons, partsL_cons]; omega

/-- How light it is: the law's own count. -/
def fewL (f : Tr → Nat) : Nat → List Tr → Nat
  | n, [] => n
  | n, t :: ts => if 1000000 < n + f t then n + f t else fewL f (n + f t) ts
def fewT : Nat → Tr → Nat
  | 0, _ => 1000000
  | d + 1, .node _ _ _ l => fewL (fewT d) 1 l
/-- How deep. -/
def deepT : Tr → Nat
  | .node _ _ _ l => (l.map deepT).foldr max 0 + 1
def deepL (l : List Tr) : Nat := (l.map deepT).foldr max 0
theorem deepT_node (k : UInt8) (n : Int) (s : List UInt8) (l : List Tr) : deepT (.node k n s l) = deepL l + 1 := by rw [deepT]; rfl
theorem deepL_nil : deepL [] = 0 := rfl
theorem deepL_cons (t : Tr) (ts : List Tr) : deepL (t :: ts) = max (deepT t) (deepL ts) := by simp [deepL]

theorem deepL_at : ∀ (l : List Tr) (i : Nat) (hi : i < l.length), deepL (l.take (i + 1)) = max (deepL (l.take i)) (deepT l[i])
  | [], _, hi => absurd hi (by simp)
  | t :: ts, 0, _ => by simp [deepL]
  | t :: ts, i + 1, hi => by
    have := deepL_at ts i (by simpa using hi)
    simp only [List.take_succ_cons, deepL_cons, List.getElem_cons_succ]; omega
theorem deepL_take_le : ∀ (l : List Tr) (i : Nat), deepL (l.take i) ≤ deepL l
  | [], i => by simp
  | t :: ts, 0 => by simp [deepL_nil]
  | t :: ts, i + 1 => by have := deepL_take_le ts i; simp only [List.take_succ_cons, deepL_cons]; omega
theorem fewL_nil (f : Tr → Nat) (n : Nat) : fewL f n [] = n := by rw [fewL]
theorem fewL_drop (f : Tr → Nat) (n : Nat) (l : List Tr) (k : Nat) (hk : k < l.length) : fewL f n (l.drop k) = if 1000000 < n + f l[k] then n + f l[k] else fewL f (n + f l[k]) (l.drop (k + 1)) := by
  rw [List.drop_eq_getElem_cons hk, fewL]
theorem fewL_le {f : Tr → Nat} {B : Nat} (hf : ∀ t, f t ≤ B) : ∀ (l : List Tr) (n : Nat), n ≤ 1000000 → fewL f n l ≤ 1000000 + B
  | [], n, h => by
    have e : fewL f n [] = n := by rw [fewL]
    omega
  | t :: ts, n, h => by
    have := hf t
    have e : fewL f n (t :: ts) = if 1000000 < n + f t then n + f t else fewL f (n + f t) ts := by rw [fewL]
    by_cases hb : 1000000 < n + f t
    · rw [if_pos hb] at e; omega
    · rw [if_neg hb] at e
      have := fewL_le hf ts (n + f t) (by omega)
      omega
theorem fewT_zero (t : Tr) : fewT 0 t = 1000000 := by rw [fewT]
theorem fewT_succ (d : Nat) (k : UInt8) (n : Int) (s : List UInt8) (l : List Tr) : fewT (d + 1) (.node k n s l) = fewL (fewT d) 1 l := by rw [fewT]
theorem fewT_le : ∀ (d : Nat) (t : Tr), fewT d t ≤ 1000000 * (d + 1)
  | 0, t => by have := fewT_zero t; omega
  | d + 1, .node k n s l => by
    have e := fewT_succ d k n s l
    have := fewL_le (fewT_le d) l 1 (by omega)
    omega
theorem fewL_light {f : Tr → Nat} : ∀ (l : List Tr) (n : Nat), fewL f n l ≤ 600 → fewL f n l = n + (l.map f).sum ∧ ∀ t, t ∈ l → f t ≤ 600
  | [], n, h => by simp [fewL]
  | t :: ts, n, h => by
    rw [fewL] at h ⊢
    by_cases hb : 1000000 < n + f t
    · rw [if_pos hb] at h; omega
    · rw [if_neg hb] at h ⊢
      obtain ⟨h1, h2⟩ := fewL_light ts _ h
      have h3 : fewL f (n + f t) ts = n + (f t + (ts.map f).sum) := by omega
      refine ⟨by rw [h3, List.map_cons, List.sum_cons], fun x hx => ?_⟩
      rcases List.mem_cons.1 hx with rfl | hx
      · omega
      · exact h2 x hx
theorem fewT_light : ∀ (d : Nat) (t : Tr), fewT d t ≤ 600 → fewT d t = partsT t ∧ deepT t ≤ d
  | 0, t, h => by have := fewT_zero t; omega
  | d + 1, .node k n s l, h => by
    rw [fewT_succ] at h ⊢
    obtain ⟨h1, h2⟩ := fewL_light l 1 h
    have key : ∀ l' : List Tr, (∀ t, t ∈ l' → fewT d t ≤ 600) → (l'.map (fewT d)).sum = partsL l' ∧ deepL l' ≤ d := by
      intro l'
      induction l' with
      | nil => intro _; simp [partsL_nil, deepL_nil]
      | cons t ts ih =>
        intro hh
        obtain ⟨a, b⟩ := ih (fun x hx => hh x (List.mem_cons_of_mem _ hx))
        obtain ⟨a', b'⟩ := fewT_light d t (hh t (List.mem_cons_self ..))
        refine ⟨by rw [List.map_cons, List.sum_cons, a, a', partsL_cons], by rw [deepL_cons]; omega⟩
    obtain ⟨k1, k2⟩ := key l h2
    refine ⟨by rw [h1, k1, partsT_node], by rw [deepT_node]; omega⟩

/-- A part of a right kind, but for what its list has in it. -/
def plainB (k : UInt8) (n : Int) (s : List UInt8) (m : Nat) : Bool :=
  if k = 0 then decide (s = [] ∧ m = 0) else if k = 1 then decide (n = 0 ∧ m = 0 ∧ s.length ≤ 100) else decide (k = 2 ∧ n = 0 ∧ s = [] ∧ m ≤ 40)
def kindsT : Tr → Bool
  | .node k n s l => plainB k n s l.length && (l.map kindsT).all id
def rightT (t : Tr) : Bool := kindsT t && decide (deepT t ≤ 6) && decide (partsT t ≤ 200)
theorem kindsT_node (k : UInt8) (n : Int) (s : List UInt8) (l : List Tr) : kindsT (.node k n s l) = (plainB k n s l.length && l.all kindsT) := by
  rw [kindsT]; simp

/-- Are both the same? -/
noncomputable def eqT (t u : Tr) : Bool := @decide (t = u) (Classical.propDecidable _)
theorem eqT_iff {t u : Tr} : eqT t u = true ↔ t = u := by unfold eqT; exact @decide_eq_true_iff _ (Classical.propDecidable _)
theorem eqT_ne {t u : Tr} (h : t ≠ u) : eqT t u = false := by
  cases e : eqT t u with
  | false => rfl
  | true => exact absurd (eqT_iff.1 e) h
theorem eqT_self (t : Tr) : eqT t t = true := eqT_iff.2 rfl
theorem take_same {l m : List Tr} {i : Nat} (hi : i < l.length) (hm : i < m.length) (h : l.take i = m.take i) (hx : l[i] = m[i]) : l.take (i + 1) = m.take (i + 1) := by
  rw [List.take_add_one, List.take_add_one, h, List.getElem?_eq_getElem hi, List.getElem?_eq_getElem hm, hx]

/-- The slice v holds the list l. -/
def LiesS (w : World) (l : List Tr) (v : Value) : Prop :=
  ∃ a cap, v = .slice a l.length cap ∧ l.length ≤ cap ∧ cap ≤ maxLen ∧ (a = none → cap = 0) ∧ ∃ C : Nat → Nat → Value,
    (0 < l.length → ∃ b off, a = some ⟨b, off, none⟩ ∧ b < w.heap.size ∧ ∀ i j, i < l.length → j < 4 → w.cell? ⟨b, off + (i * 4 + j), none⟩ = some (C i j)) ∧
    (∀ (i : Nat) (hi : i < l.length), Lies w l[i] (.agg #[C i 0, C i 1, C i 2, C i 3]))
theorem LiesS.ext {w w' : World} (hx : Ext w w') {l : List Tr} {v : Value} (h : LiesS w l v) : LiesS w' l v := by
  obtain ⟨a, cap, hv, h1, h2, h3, C, h4, h5⟩ := h
  refine ⟨a, cap, hv, h1, h2, h3, C, fun hp => ?_, fun i hi => (h5 i hi).ext hx⟩
  obtain ⟨b, off, ha, hb, hc⟩ := h4 hp
  exact ⟨b, off, ha, Nat.lt_of_lt_of_le hb hx.size, fun i j hi hj => (hx.cell (p := ⟨b, _, none⟩) hb).trans (hc i j hi hj)⟩
theorem Lies.parts {w : World} {k : UInt8} {n : Int} {s : List UInt8} {l : List Tr} {v : Value} (h : Lies w (.node k n s l) v) :
    ∃ d, v = .agg #[.int .u8 (k.toNat : Int), .int .i64 n, .string (str s), d] ∧ isI64 n ∧ s.length ≤ 9223372036854775807 ∧ LiesS w l d := by
  cases h with
  | node k n s l a cap C hn hs h1 h2 h3 h4 h5 => exact ⟨_, rfl, hn, hs, a, cap, rfl, h1, h2, h3, C, h4, h5⟩
theorem Lies.mk {w : World} {k : UInt8} {n : Int} {s : List UInt8} {l : List Tr} {d : Value} (hn : isI64 n) (hs : s.length ≤ 9223372036854775807) (h : LiesS w l d) :
    Lies w (.node k n s l) (.agg #[.int .u8 (k.toNat : Int), .int .i64 n, .string (str s), d]) := by
  obtain ⟨a, cap, rfl, h1, h2, h3, C, h4, h5⟩ := h
  exact .node k n s l a cap C hn hs h1 h2 h3 h4 h5
theorem LiesS.nil (w : World) (a : Option Addr) : LiesS w [] (.slice a 0 0) :=
  ⟨a, 0, rfl, by simp, by simp [maxLen], fun _ => rfl, fun _ _ => .nilFunc, fun h => by simp at h, fun i hi => by simp at hi⟩
end Fm

/- A value's tree: its bytes. No program is imported. -/
namespace Fm
open Go Go.RowKit

/-- A value's bytes. -/
def bytesT : Tr → List UInt8
  | .node k n s l => numB k.toNat ++ (if k = 0 then numB n else if k = 1 then textB s else numB l.length ++ (l.map bytesT).flatten)
def bytesL (l : List Tr) : List UInt8 := (l.map bytesT).flatten
theorem bytesT_node (k : UInt8) (n : Int) (s : List UInt8) (l : List Tr) : bytesT (.node k n s l) = numB k.toNat ++ (if k = 0 then numB n else if k = 1 then textB s else numB l.length ++ bytesL l) := by
  rw [bytesT]; rfl
theorem bytesL_nil : bytesL [] = [] := rfl
theorem bytesL_at (l : List Tr) (i : Nat) (hi : i < l.length) : bytesL (l.take (i + 1)) = bytesL (l.take i) ++ bytesT l[i] := by
  unfold bytesL
  rw [List.take_add_one, List.getElem?_eq_getElem hi]
  rw [List.map_append, List.flatten_append]
  simp only [Option.toList_some, List.map_cons, List.map_nil, List.flatten_cons, List.flatten_nil, List.append_nil]
theorem bytesL_take_le (l : List Tr) (i : Nat) : (bytesL (l.take i)).length ≤ (bytesL l).length := by
  have h : bytesL l = bytesL (l.take i) ++ bytesL (l.drop i) := by
    unfold bytesL
    rw [← List.flatten_append, ← List.map_append, List.take_append_drop]
  rw [h, List.length_append]; omega
end Fm

/- The room's cell, and what fits does to it: plain facts. No program is imported. -/
namespace Fm
open Go Go.RowKit

theorem grown_trans {a b c : World} {row : Option Nat} (h : a.grownBy b row) (k : b.grownBy c row) : a.grownBy c row :=
  ⟨k.os.trans h.os, k.tape.trans h.tape, k.output.trans h.output, Nat.le_trans h.size k.size,
    fun i hi hne => (k.block i (Nat.lt_of_lt_of_le hi h.size) hne).trans (h.block i hi hne)⟩
theorem grown_ext {a b : World} (h : Ext a b) (row : Option Nat) : a.grownBy b row := by
  have := h.grownBy
  exact ⟨this.os, this.tape, this.output, this.size, fun i hi _ => this.block i hi (by simp)⟩

/-- Block R is the room's: so much is left. -/
structure RoomAt (w0 w : World) (R : Nat) (left : Int) : Prop where
  ext : Ext w0 w
  old : w0.heap.size ≤ R
  lt : R < w.heap.size
  cell : w.cell? ⟨R, 0, none⟩ = some (.int .i64 left)
  free : w.frozen? ⟨R, 0, none⟩ = false
theorem RoomAt.then {w0 w w' : World} {R : Nat} {left : Int} (h : RoomAt w0 w R left) (hE : Ext w w') : RoomAt w0 w' R left :=
  ⟨h.ext.trans hE, h.old, Nat.lt_of_lt_of_le h.lt hE.size, (hE.cell (p := ⟨R, 0, none⟩) h.lt).trans h.cell, (hE.frozen (p := ⟨R, 0, none⟩) h.lt).trans h.free⟩
theorem RoomAt.set {w0 w : World} {R : Nat} {left : Int} (h : RoomAt w0 w R left) (x : Int) : RoomAt w0 (w.setCell ⟨R, 0, none⟩ (.int .i64 x)) R x ∧ w.grownBy (w.setCell ⟨R, 0, none⟩ (.int .i64 x)) (some R) := by
  refine ⟨⟨h.ext.setCell h.old _, h.old, by simp [h.lt], ?_, ?_⟩, ?_⟩
  · apply World.cell?_setCell_same; exact h.cell
  · rw [World.frozen?_setCell]; exact h.free
  · exact ⟨rfl, rfl, rfl, by simp [World.setCell], fun k _ hk => Below.heap_setCell _ _ _ _ (fun e => hk (by simp [e]))⟩

/-- What fits answers, and leaves. -/
def FitsPost (w0 w : World) (R : Nat) (left : Int) (t : Tr) (d : Nat) (e : Ending) (w' : World) : Prop :=
  ∃ (b : Bool) (left' : Int), e = .returned (.bool b) ∧ (b = true ↔ kindsT t = true ∧ deepT t ≤ d ∧ (partsT t : Int) ≤ left) ∧ (b = true → left' = left - partsT t) ∧ -1 ≤ left' ∧ left' ≤ left ∧ RoomAt w0 w' R left' ∧ w.grownBy w' (some R)

/-- The four cells of an element in a world that has grown, and the element in the old one. -/
theorem elem4o {w wr : World} {l : List Tr} {b off : Nat} {C : Nat → Nat → Value} (hE : Ext w wr) (hb : b < w.heap.size)
    (hc : ∀ i j, i < l.length → j < 4 → w.cell? ⟨b, off + (i * 4 + j), none⟩ = some (C i j)) (h5 : ∀ (i : Nat) (hi : i < l.length), Lies w l[i] (.agg #[C i 0, C i 1, C i 2, C i 3])) (k : Nat) (hk : k < l.length) :
    ∃ (k0 : Int) (n0 : Int) (s0 : ByteArray) (a0 : Option Addr) (m0 c0 : Nat), wr.cell? ⟨b, off + k * 4, none⟩ = some (.int .u8 k0) ∧ wr.cell? ⟨b, off + k * 4 + 1, none⟩ = some (.int .i64 n0) ∧ wr.cell? ⟨b, off + k * 4 + 2, none⟩ = some (.string s0) ∧ wr.cell? ⟨b, off + k * 4 + 3, none⟩ = some (.slice a0 m0 c0) ∧
      Lies w l[k] (.agg #[.int .u8 k0, .int .i64 n0, .string s0, .slice a0 m0 c0]) := by
  obtain ⟨k0, n0, s0, a0, m0, c0, e0, e1, e2, e3, hx⟩ := elem4 (Ext.refl w) hb hc h5 k hk
  exact ⟨k0, n0, s0, a0, m0, c0, (hE.cell (p := ⟨b, _, none⟩) hb).trans e0, (hE.cell (p := ⟨b, _, none⟩) hb).trans e1, (hE.cell (p := ⟨b, _, none⟩) hb).trans e2, (hE.cell (p := ⟨b, _, none⟩) hb).trans e3, hx⟩
theorem deepL_mem (l : List Tr) (k : Nat) (hk : k < l.length) : deepT l[k] ≤ deepL l := by
  have h := deepL_at l k hk
  have := deepL_take_le l (k + 1)
  omega
theorem all_mem (l : List Tr) (k : Nat) (hk : k < l.length) (h : l.all kindsT = true) : kindsT l[k] = true := List.all_eq_true.1 h _ (List.getElem_mem hk)

/-- What is asked of a list, and so much is left. -/
def ListPost (w0 w : World) (R : Nat) (left : Int) (l : List Tr) (d : Nat) (b : Bool) (w' : World) : Prop :=
  ∃ left' : Int, (b = true ↔ l.all kindsT = true ∧ deepL l ≤ d ∧ (partsL l : Int) ≤ left) ∧ (b = true → left' = left - partsL l) ∧ -1 ≤ left' ∧ left' ≤ left ∧ RoomAt w0 w' R left' ∧ w.grownBy w' (some R)
end Fm

/- A right value's bytes are few. No program is imported. -/
namespace Fm
open Go Go.RowKit

theorem textB_le (s : List UInt8) : (textB s).length ≤ 10 + s.length := by
  have := numB_le (s.length : Int)
  unfold textB; rw [List.length_append]; omega
theorem bytesL_sum (l : List Tr) (h : ∀ t, t ∈ l → (bytesT t).length ≤ 120 * partsT t) : (bytesL l).length ≤ 120 * partsL l := by
  induction l with
  | nil => simp [bytesL, partsL_nil]
  | cons t ts ih =>
    have h1 := h t (List.mem_cons_self ..)
    have h2 := ih (fun x hx => h x (List.mem_cons_of_mem _ hx))
    have e : bytesL (t :: ts) = bytesT t ++ bytesL ts := by simp [bytesL]
    rw [e, List.length_append, partsL_cons]; omega
theorem bytesT_le (t : Tr) : kindsT t = true → (bytesT t).length ≤ 120 * partsT t := by
  induction t using Tr.ind with
  | h k n s l ih =>
    intro hk
    rw [kindsT_node, Bool.and_eq_true] at hk
    have hl := bytesL_sum l (fun t ht => ih t ht (List.all_eq_true.1 hk.2 t ht))
    have e1 := numB_le (k.toNat : Int)
    have e2 := numB_le n
    have e3 := numB_le (l.length : Int)
    have e4 := textB_le s
    have hp := hk.1
    rw [bytesT_node, List.length_append, partsT_node]
    by_cases h0 : k = 0
    · rw [if_pos h0]; omega
    · rw [if_neg h0]
      by_cases h1 : k = 1
      · rw [if_pos h1]
        have : s.length ≤ 100 := by
          simp only [plainB, if_neg h0, if_pos h1, decide_eq_true_eq] at hp
          exact hp.2.2
        omega
      · rw [if_neg h1, List.length_append]; omega
theorem right_bytes {t : Tr} (h : rightT t = true) : (bytesT t).length ≤ 24000 := by
  simp only [rightT, Bool.and_eq_true, decide_eq_true_eq] at h
  have := bytesT_le t h.1.1
  omega
end Fm

/- Reading a value off bytes: what the program's reader does, and what the reference's does: plain facts. No program is imported. -/
namespace Fm
open Go Go.RowKit

/-- The number at the head, and what is behind it. -/
def hdN (xs : List UInt8) : Option (Int × List UInt8) := (takeN xs).map fun p => (p.1, xs.drop p.2)
/-- The text at the head, and what is behind it. -/
def hdT (xs : List UInt8) : Option (List UInt8 × List UInt8) := (takeT xs 100).map fun p => ((xs.drop p.1).take p.2, (xs.drop p.1).drop p.2)

theorem hdN_none {xs : List UInt8} (h : takeN xs = none) : hdN xs = none := by unfold hdN; rw [h]; rfl
theorem hdN_some {xs : List UInt8} {n : Int} {k : Nat} (h : takeN xs = some (n, k)) : hdN xs = some (n, xs.drop k) := by unfold hdN; rw [h]; rfl
theorem hdT_none {xs : List UInt8} (h : takeT xs 100 = none) : hdT xs = none := by unfold hdT; rw [h]; rfl
theorem hdT_some {xs : List UInt8} {k n : Nat} (h : takeT xs 100 = some (k, n)) : hdT xs = some ((xs.drop k).take n, (xs.drop k).drop n) := by unfold hdT; rw [h]; rfl

theorem hdN_num {n : Int} (h : isI64 n) (r : List UInt8) : hdN (numB n ++ r) = some (n, r) := by
  rw [hdN_some (takeN_num h r), List.drop_left]
theorem hdN_inv {xs r : List UInt8} {n : Int} (h : hdN xs = some (n, r)) : isI64 n ∧ xs = numB n ++ r := by
  unfold hdN at h
  cases hN : takeN xs with
  | none => rw [hN] at h; cases h
  | some p =>
    obtain ⟨n', k⟩ := p
    rw [hN] at h
    simp only [Option.map_some, Option.some.injEq, Prod.mk.injEq] at h
    obtain ⟨rfl, rfl⟩ := h
    obtain ⟨h1, _, _, _, h5, _⟩ := takeN_inv hN
    exact ⟨h1, by rw [← h5, List.take_append_drop]⟩
theorem i64_len {n : Nat} (h : n ≤ 100) : isI64 (n : Int) := by unfold isI64; omega
theorem hdT_text {s : List UInt8} (h : s.length ≤ 100) (r : List UInt8) : hdT (textB s ++ r) = some (s, r) := by
  have hn : takeN (textB s ++ r) = some ((s.length : Int), (numB s.length).length) := by
    unfold textB; rw [List.append_assoc]; exact takeN_num (i64_len h) _
  have ht := takeT_some (top := 100) hn (by
    unfold textB; simp only [List.length_append]; omega)
  rw [hdT_some ht]
  simp [textB]
theorem hdT_inv {xs s r : List UInt8} (h : hdT xs = some (s, r)) : s.length ≤ 100 ∧ xs = textB s ++ r := by
  unfold hdT at h
  cases hT : takeT xs 100 with
  | none => rw [hT] at h; cases h
  | some p =>
    obtain ⟨k, n⟩ := p
    rw [hT] at h
    simp only [Option.map_some, Option.some.injEq, Prod.mk.injEq] at h
    obtain ⟨rfl, rfl⟩ := h
    obtain ⟨h1, h2, h3⟩ := takeT_inv hT
    have hl : ((xs.drop k).take n).length = n := by simp; omega
    obtain ⟨_, _, _, _, h5, _⟩ := takeN_inv h1
    refine ⟨by omega, ?_⟩
    unfold textB
    rw [hl, List.append_assoc, List.take_append_drop, ← h5, List.take_append_drop]

/-- All numbers are of 64 bits. -/
inductive NumsT : Tr → Prop where
  | node (k : UInt8) (n : Int) (s : List UInt8) (l : List Tr) (h : isI64 n) (hl : ∀ t, t ∈ l → NumsT t) : NumsT (.node k n s l)
theorem NumsT.num {k : UInt8} {n : Int} {s : List UInt8} {l : List Tr} (h : NumsT (.node k n s l)) : isI64 n := by cases h; assumption
theorem NumsT.list {k : UInt8} {n : Int} {s : List UInt8} {l : List Tr} (h : NumsT (.node k n s l)) : ∀ t, t ∈ l → NumsT t := by cases h; assumption
theorem Lies.nums {w : World} {t : Tr} {v : Value} (h : Lies w t v) : NumsT t := by
  induction h with
  | node k n s l a cap C hn hs h1 h2 h3 h4 h5 ih =>
    refine .node k n s l hn fun t ht => ?_
    obtain ⟨i, hi, rfl⟩ := List.getElem_of_mem ht
    exact ih i hi

/-- The program's reader: how deep, how many parts more. -/
def readL (f : Nat → List UInt8 → Option (Tr × List UInt8 × Nat)) : Nat → Nat → List UInt8 → Option (List Tr × List UInt8 × Nat)
  | 0, m, xs => some ([], xs, m)
  | c + 1, m, xs => match f m xs with
    | none => none
    | some (t, r, m') => match readL f c m' r with
      | none => none
      | some (ts, r', m'') => some (t :: ts, r', m'')
def readT : Nat → Nat → List UInt8 → Option (Tr × List UInt8 × Nat)
  | 0, _, _ => none
  | d + 1, m, xs => match hdN xs with
    | none => none
    | some (k, r) =>
      if k < 0 ∨ 2 < k ∨ m = 0 then none
      else if k = 0 then match hdN r with
        | none => none
        | some (n, r') => some (.node 0 n [] [], r', m - 1)
      else if k = 1 then match hdT r with
        | none => none
        | some (s, r') => some (.node 1 0 s [], r', m - 1)
      else match hdN r with
        | none => none
        | some (n, r') => if n < 0 ∨ 40 < n then none else match readL (readT d) n.toNat (m - 1) r' with
          | none => none
          | some (l, r'', m') => some (.node 2 0 [] l, r'', m')

theorem readT_zero (m : Nat) (xs : List UInt8) : readT 0 m xs = none := by rw [readT]
theorem readT_hd {d m : Nat} {xs : List UInt8} (h : hdN xs = none) : readT d m xs = none := by
  cases d with
  | zero => rw [readT]
  | succ d => rw [readT, h]
theorem readT_bad {d m : Nat} {xs r : List UInt8} {k : Int} (h : hdN xs = some (k, r)) (hb : k < 0 ∨ 2 < k ∨ m = 0 ∨ d = 0) : readT d m xs = none := by
  cases d with
  | zero => rw [readT]
  | succ d =>
    rw [readT, h]
    simp only
    rw [if_pos (by omega)]
theorem readT_num {d m : Nat} {xs r : List UInt8} (h : hdN xs = some (0, r)) (hm : 0 < m) (hd : 0 < d) :
    readT d m xs = match hdN r with
      | none => none
      | some (n, r') => some (.node 0 n [] [], r', m - 1) := by
  obtain ⟨d, rfl⟩ : ∃ e, d = e + 1 := ⟨d - 1, by omega⟩
  rw [readT, h]
  simp only
  rw [if_neg (by omega), if_pos trivial]
theorem readT_text {d m : Nat} {xs r : List UInt8} (h : hdN xs = some (1, r)) (hm : 0 < m) (hd : 0 < d) :
    readT d m xs = match hdT r with
      | none => none
      | some (s, r') => some (.node 1 0 s [], r', m - 1) := by
  obtain ⟨d, rfl⟩ : ∃ e, d = e + 1 := ⟨d - 1, by omega⟩
  rw [readT, h]
  simp only
  rw [if_neg (by omega), if_neg (by decide), if_pos trivial]
theorem readT_list {d m : Nat} {xs r : List UInt8} (h : hdN xs = some (2, r)) (hm : 0 < m) :
    readT (d + 1) m xs = match hdN r with
      | none => none
      | some (n, r') => if n < 0 ∨ 40 < n then none else match readL (readT d) n.toNat (m - 1) r' with
        | none => none
        | some (l, r'', m') => some (.node 2 0 [] l, r'', m') := by
  rw [readT, h]
  simp only
  rw [if_neg (by omega), if_neg (by decide), if_neg (by decide)]

theorem readL_bytes (f : Nat → List UInt8 → Option (Tr × List UInt8 × Nat)) : ∀ (l : List Tr) (m : Nat) (r : List UInt8),
    (∀ t, t ∈ l → ∀ m r, partsT t ≤ m → f m (bytesT t ++ r) = some (t, r, m - partsT t)) → partsL l ≤ m → readL f l.length m (bytesL l ++ r) = some (l, r, m - partsL l)
  | [], m, r, _, _ => by simp [readL, bytesL, partsL_nil]
  | t :: ts, m, r, hf, hp => by
    rw [partsL_cons] at hp ⊢
    have e : bytesL (t :: ts) ++ r = bytesT t ++ (bytesL ts ++ r) := by simp [bytesL]
    rw [List.length_cons, readL, e, hf t (List.mem_cons_self ..) m _ (by omega)]
    simp only
    rw [readL_bytes f ts (m - partsT t) r (fun x hx => hf x (List.mem_cons_of_mem _ hx)) (by omega)]
    simp only
    congr 3
    omega

theorem plainB_zero {k : UInt8} {n : Int} {s : List UInt8} {m : Nat} (h : plainB k n s m = true) (hk : k = 0) : s = [] ∧ m = 0 := by
  unfold plainB at h; rw [if_pos hk] at h; simpa using h
theorem plainB_one {k : UInt8} {n : Int} {s : List UInt8} {m : Nat} (h : plainB k n s m = true) (hk : k = 1) : n = 0 ∧ m = 0 ∧ s.length ≤ 100 := by
  subst hk; unfold plainB at h; rw [if_neg (by decide), if_pos rfl] at h; simpa using h
theorem plainB_two {k : UInt8} {n : Int} {s : List UInt8} {m : Nat} (h : plainB k n s m = true) (h0 : k ≠ 0) (h1 : k ≠ 1) : k = 2 ∧ n = 0 ∧ s = [] ∧ m ≤ 40 := by
  unfold plainB at h; rw [if_neg h0, if_neg h1] at h; simpa using h

/-- What is said of a right value is read, whatever is behind it. -/
theorem readT_bytes (t : Tr) : ∀ (d m : Nat) (r : List UInt8), kindsT t = true → NumsT t → deepT t ≤ d → partsT t ≤ m → readT d m (bytesT t ++ r) = some (t, r, m - partsT t) := by
  induction t using Tr.ind with
  | h k n s l ih =>
    intro d m r hk hn hd hp
    rw [deepT_node] at hd
    rw [partsT_node] at hp
    obtain ⟨d, rfl⟩ : ∃ e, d = e + 1 := ⟨d - 1, by omega⟩
    rw [kindsT_node, Bool.and_eq_true] at hk
    obtain ⟨hk, hl⟩ := hk
    have hk255 := k.toNat_lt
    have hh : hdN (bytesT (.node k n s l) ++ r) = some ((k.toNat : Int), (if k = 0 then numB n else if k = 1 then textB s else numB l.length ++ bytesL l) ++ r) := by
      rw [bytesT_node, List.append_assoc, hdN_num (by unfold isI64; omega)]
    by_cases h0 : k = 0
    · obtain ⟨rfl, hm⟩ := plainB_zero hk h0
      obtain rfl : l = [] := List.eq_nil_of_length_eq_zero hm
      subst h0
      rw [if_pos rfl] at hh
      rw [readT_num hh (by omega) (by omega), hdN_num hn.num, partsT_node, partsL_nil]
    by_cases h1 : k = 1
    · obtain ⟨rfl, hm, hs⟩ := plainB_one hk h1
      obtain rfl : l = [] := List.eq_nil_of_length_eq_zero hm
      subst h1
      rw [if_neg (by decide), if_pos rfl] at hh
      rw [readT_text hh (by omega) (by omega), hdT_text hs, partsT_node, partsL_nil]
    · obtain ⟨rfl, rfl, rfl, hm⟩ := plainB_two hk h0 h1
      rw [if_neg (by decide), if_neg (by decide), List.append_assoc] at hh
      rw [readT_list hh (by omega), hdN_num (by unfold isI64; omega)]
      simp only
      rw [if_neg (by omega), Int.toNat_natCast, readL_bytes (readT d) l (m - 1) r ?_ (by omega), partsT_node]
      · simp only
        congr 3; omega
      · intro t ht m' r' hp'
        refine ih t ht d m' r' (List.all_eq_true.1 hl t ht) (hn.list t ht) ?_ hp'
        have : deepT t ≤ deepL l := by
          obtain ⟨i, hi, rfl⟩ := List.getElem_of_mem ht
          have h := deepL_at l i hi
          have := deepL_take_le l (i + 1)
          omega
        omega

theorem readL_inv (f : Nat → List UInt8 → Option (Tr × List UInt8 × Nat)) (d : Nat)
    (hf : ∀ m xs t r m', f m xs = some (t, r, m') → xs = bytesT t ++ r ∧ kindsT t = true ∧ deepT t ≤ d ∧ partsT t + m' = m ∧ NumsT t) :
    ∀ (c m : Nat) (xs : List UInt8) (l : List Tr) (r : List UInt8) (m' : Nat), readL f c m xs = some (l, r, m') →
      l.length = c ∧ xs = bytesL l ++ r ∧ l.all kindsT = true ∧ deepL l ≤ d ∧ partsL l + m' = m ∧ ∀ t, t ∈ l → NumsT t
  | 0, m, xs, l, r, m', h => by
    simp only [readL, Option.some.injEq, Prod.mk.injEq] at h
    obtain ⟨rfl, rfl, rfl⟩ := h
    exact ⟨rfl, by simp [bytesL], rfl, by simp [deepL_nil], by simp [partsL_nil], fun t ht => by cases ht⟩
  | c + 1, m, xs, l, r, m', h => by
    rw [readL] at h
    cases h1 : f m xs with
    | none => rw [h1] at h; cases h
    | some p =>
      obtain ⟨t, r1, m1⟩ := p
      rw [h1] at h
      simp only at h
      cases h2 : readL f c m1 r1 with
      | none => rw [h2] at h; cases h
      | some q =>
        obtain ⟨ts, r2, m2⟩ := q
        rw [h2] at h
        simp only [Option.some.injEq, Prod.mk.injEq] at h
        obtain ⟨rfl, rfl, rfl⟩ := h
        obtain ⟨a1, a2, a3, a4, a5⟩ := hf _ _ _ _ _ h1
        obtain ⟨b1, b2, b3, b4, b5, b6⟩ := readL_inv f d hf c m1 r1 ts r2 m2 h2
        refine ⟨by simp [b1], by rw [a1, b2]; simp [bytesL], by simp [a2, b3], by rw [deepL_cons]; omega, by rw [partsL_cons]; omega, fun x hx => ?_⟩
        rcases List.mem_cons.1 hx with rfl | hx
        · exact a5
        · exact b6 x hx

/-- What is read is right, and is said just so. -/
theorem readT_inv : ∀ (d m : Nat) (xs : List UInt8) (t : Tr) (r : List UInt8) (m' : Nat), readT d m xs = some (t, r, m') →
    xs = bytesT t ++ r ∧ kindsT t = true ∧ deepT t ≤ d ∧ partsT t + m' = m ∧ NumsT t
  | 0, m, xs, t, r, m', h => by rw [readT_zero] at h; cases h
  | d + 1, m, xs, t, r, m', h => by
    cases hN : hdN xs with
    | none => rw [readT_hd hN] at h; cases h
    | some p =>
      obtain ⟨k, r1⟩ := p
      obtain ⟨hk64, hxs⟩ := hdN_inv hN
      by_cases hb : k < 0 ∨ 2 < k ∨ m = 0 ∨ d + 1 = 0
      · rw [readT_bad hN hb] at h; cases h
      by_cases h0 : k = 0
      · subst h0
        rw [readT_num hN (by omega) (by omega)] at h
        cases h2 : hdN r1 with
        | none => rw [h2] at h; cases h
        | some q =>
          obtain ⟨n, r2⟩ := q
          obtain ⟨hn64, hr1⟩ := hdN_inv h2
          rw [h2] at h
          simp only [Option.some.injEq, Prod.mk.injEq] at h
          obtain ⟨rfl, rfl, rfl⟩ := h
          refine ⟨?_, ?_, by rw [deepT_node, deepL_nil]; omega, by rw [partsT_node, partsL_nil]; omega, .node _ _ _ _ hn64 (fun t ht => by cases ht)⟩
          · rw [hxs, hr1, bytesT_node, if_pos rfl, List.append_assoc]; rfl
          · rw [kindsT_node]; simp [plainB]
      by_cases h1 : k = 1
      · subst h1
        rw [readT_text hN (by omega) (by omega)] at h
        cases h2 : hdT r1 with
        | none => rw [h2] at h; cases h
        | some q =>
          obtain ⟨s, r2⟩ := q
          obtain ⟨hs, hr1⟩ := hdT_inv h2
          rw [h2] at h
          simp only [Option.some.injEq, Prod.mk.injEq] at h
          obtain ⟨rfl, rfl, rfl⟩ := h
          refine ⟨?_, ?_, by rw [deepT_node, deepL_nil]; omega, by rw [partsT_node, partsL_nil]; omega, .node _ _ _ _ (by unfold isI64; omega) (fun t ht => by cases ht)⟩
          · rw [hxs, hr1, bytesT_node, if_neg (by decide), if_pos rfl, List.append_assoc]; rfl
          · rw [kindsT_node]; simp [plainB, hs]
      · obtain rfl : k = 2 := by omega
        rw [readT_list hN (by omega)] at h
        cases h2 : hdN r1 with
        | none => rw [h2] at h; cases h
        | some q =>
          obtain ⟨n, r2⟩ := q
          obtain ⟨hn64, hr1⟩ := hdN_inv h2
          rw [h2] at h
          simp only at h
          by_cases hb2 : n < 0 ∨ 40 < n
          · rw [if_pos hb2] at h; cases h
          rw [if_neg hb2] at h
          cases h3 : readL (readT d) n.toNat (m - 1) r2 with
          | none => rw [h3] at h; cases h
          | some z =>
            obtain ⟨l, r3, m3⟩ := z
            rw [h3] at h
            simp only [Option.some.injEq, Prod.mk.injEq] at h
            obtain ⟨rfl, rfl, rfl⟩ := h
            obtain ⟨b1, b2, b3, b4, b5, b6⟩ := readL_inv (readT d) d (readT_inv d) _ _ _ _ _ _ h3
            have hn : ((l.length : Nat) : Int) = n := by omega
            refine ⟨?_, ?_, by rw [deepT_node]; omega, by rw [partsT_node]; omega, .node _ _ _ _ (by unfold isI64; omega) b6⟩
            · rw [hxs, hr1, b2, bytesT_node, if_neg (by decide), if_neg (by decide), hn]; simp [List.append_assoc]
            · rw [kindsT_node, b3]; simp [plainB]; omega

/-- The program's Take. -/
def takeV' (xs : List UInt8) : Option (Tr × List UInt8) := match readT 6 200 xs with
  | none => none
  | some (t, r, _) => some (t, r)
theorem rightT_iff {t : Tr} : rightT t = true ↔ kindsT t = true ∧ deepT t ≤ 6 ∧ partsT t ≤ 200 := by
  simp only [rightT, Bool.and_eq_true, decide_eq_true_eq, and_assoc]
theorem takeV_bytes {t : Tr} (h : rightT t = true) (hn : NumsT t) (r : List UInt8) : takeV' (bytesT t ++ r) = some (t, r) := by
  obtain ⟨h1, h2, h3⟩ := rightT_iff.1 h
  unfold takeV'; rw [readT_bytes t 6 200 r h1 hn h2 h3]
theorem takeV_inv {xs : List UInt8} {t : Tr} {r : List UInt8} (h : takeV' xs = some (t, r)) : xs = bytesT t ++ r ∧ rightT t = true ∧ NumsT t := by
  unfold takeV' at h
  cases hr : readT 6 200 xs with
  | none => rw [hr] at h; cases h
  | some p =>
    obtain ⟨t', r', m⟩ := p
    rw [hr] at h
    simp only [Option.some.injEq, Prod.mk.injEq] at h
    obtain ⟨rfl, rfl⟩ := h
    obtain ⟨a1, a2, a3, a4, a5⟩ := readT_inv _ _ _ _ _ _ hr
    exact ⟨a1, rightT_iff.2 ⟨a2, a3, by omega⟩, a5⟩
/-- The reference's reader. -/
def rreadL (f : List UInt8 → Option (Tr × List UInt8)) : Nat → Nat → List UInt8 → Option (List Tr × List UInt8)
  | 0, _, xs => some ([], xs)
  | c + 1, P, xs => match f xs with
    | none => none
    | some (t, r) => if 200 < P + partsT t then none else match rreadL f c (P + partsT t) r with
      | none => none
      | some (ts, r') => some (t :: ts, r')
def rreadT : Nat → List UInt8 → Option (Tr × List UInt8)
  | 0, _ => none
  | d + 1, xs => match hdN xs with
    | none => none
    | some (k, r) =>
      if k < 0 ∨ 2 < k then none
      else if k = 1 then match hdT r with
        | none => none
        | some (s, r') => some (.node 1 0 s [], r')
      else match hdN r with
        | none => none
        | some (n, r') =>
          if k = 0 then some (.node 0 n [] [], r')
          else if n < 0 ∨ 40 < n then none else match rreadL (rreadT d) n.toNat 1 r' with
            | none => none
            | some (l, r'') => some (.node 2 0 [] l, r'')
theorem rreadT_zero (xs : List UInt8) : rreadT 0 xs = none := by rw [rreadT]
theorem rreadT_hd {d : Nat} {xs : List UInt8} (h : hdN xs = none) : rreadT d xs = none := by
  cases d with
  | zero => rw [rreadT]
  | succ d => rw [rreadT, h]
theorem rreadT_bad {d : Nat} {xs r : List UInt8} {k : Int} (h : hdN xs = some (k, r)) (hb : k < 0 ∨ 2 < k ∨ d = 0) : rreadT d xs = none := by
  cases d with
  | zero => rw [rreadT]
  | succ d =>
    rw [rreadT, h]
    simp only
    rw [if_pos (by omega)]
theorem rreadT_text {d : Nat} {xs r : List UInt8} (h : hdN xs = some (1, r)) (hd : 0 < d) :
    rreadT d xs = match hdT r with
      | none => none
      | some (s, r') => some (.node 1 0 s [], r') := by
  obtain ⟨d, rfl⟩ : ∃ e, d = e + 1 := ⟨d - 1, by omega⟩
  rw [rreadT, h]
  simp only
  rw [if_neg (by decide), if_pos trivial]
theorem rreadT_none2 {d : Nat} {xs r : List UInt8} {k : Int} (h : hdN xs = some (k, r)) (hk : k = 0 ∨ k = 2) (h2 : hdN r = none) : rreadT d xs = none := by
  cases d with
  | zero => rw [rreadT]
  | succ d =>
    rw [rreadT, h]
    simp only
    rw [if_neg (by omega), if_neg (by omega), h2]
theorem rreadT_num {d : Nat} {xs r r' : List UInt8} {n : Int} (h : hdN xs = some (0, r)) (hd : 0 < d) (h2 : hdN r = some (n, r')) : rreadT d xs = some (.node 0 n [] [], r') := by
  obtain ⟨d, rfl⟩ : ∃ e, d = e + 1 := ⟨d - 1, by omega⟩
  rw [rreadT, h]
  simp only
  rw [if_neg (by decide), if_neg (by decide), h2]
  rfl
theorem rreadT_list {d : Nat} {xs r r' : List UInt8} {n : Int} (h : hdN xs = some (2, r)) (h2 : hdN r = some (n, r')) :
    rreadT (d + 1) xs = if n < 0 ∨ 40 < n then none else match rreadL (rreadT d) n.toNat 1 r' with
      | none => none
      | some (l, r'') => some (.node 2 0 [] l, r'') := by
  rw [rreadT, h]
  simp only
  rw [if_neg (by decide), if_neg (by decide), h2]
  simp only
  rw [if_neg (by decide)]

theorem rreadL_bytes (f : List UInt8 → Option (Tr × List UInt8)) : ∀ (l : List Tr) (P : Nat) (r : List UInt8),
    (∀ t, t ∈ l → ∀ r, f (bytesT t ++ r) = some (t, r)) → P + partsL l ≤ 200 → rreadL f l.length P (bytesL l ++ r) = some (l, r)
  | [], P, r, _, _ => by simp [rreadL, bytesL]
  | t :: ts, P, r, hf, hp => by
    rw [partsL_cons] at hp
    have e : bytesL (t :: ts) ++ r = bytesT t ++ (bytesL ts ++ r) := by simp [bytesL]
    rw [List.length_cons, rreadL, e, hf t (List.mem_cons_self ..) _]
    simp only
    rw [if_neg (by omega), rreadL_bytes f ts (P + partsT t) r (fun x hx => hf x (List.mem_cons_of_mem _ hx)) (by omega)]
theorem rreadT_bytes (t : Tr) : ∀ (d : Nat) (r : List UInt8), kindsT t = true → NumsT t → deepT t ≤ d → partsT t ≤ 200 → rreadT d (bytesT t ++ r) = some (t, r) := by
  induction t using Tr.ind with
  | h k n s l ih =>
    intro d r hk hn hd hp
    rw [deepT_node] at hd
    rw [partsT_node] at hp
    obtain ⟨d, rfl⟩ : ∃ e, d = e + 1 := ⟨d - 1, by omega⟩
    rw [kindsT_node, Bool.and_eq_true] at hk
    obtain ⟨hk, hl⟩ := hk
    have hk255 := k.toNat_lt
    have hh : hdN (bytesT (.node k n s l) ++ r) = some ((k.toNat : Int), (if k = 0 then numB n else if k = 1 then textB s else numB l.length ++ bytesL l) ++ r) := by
      rw [bytesT_node, List.append_assoc, hdN_num (by unfold isI64; omega)]
    by_cases h0 : k = 0
    · obtain ⟨rfl, hm⟩ := plainB_zero hk h0
      obtain rfl : l = [] := List.eq_nil_of_length_eq_zero hm
      subst h0
      rw [if_pos rfl] at hh
      rw [rreadT_num hh (by omega) (hdN_num hn.num _)]
    by_cases h1 : k = 1
    · obtain ⟨rfl, hm, hs⟩ := plainB_one hk h1
      obtain rfl : l = [] := List.eq_nil_of_length_eq_zero hm
      subst h1
      rw [if_neg (by decide), if_pos rfl] at hh
      rw [rreadT_text hh (by omega), hdT_text hs]
    · obtain ⟨rfl, rfl, rfl, hm⟩ := plainB_two hk h0 h1
      rw [if_neg (by decide), if_neg (by decide), List.append_assoc] at hh
      rw [rreadT_list hh (hdN_num (by unfold isI64; omega) _)]
      rw [if_neg (by omega), Int.toNat_natCast, rreadL_bytes (rreadT d) l 1 r ?_ (by omega)]
      · intro t ht r'
        obtain ⟨i, hi, rfl⟩ := List.getElem_of_mem ht
        have h1 := deepL_at l i hi
        have h2 := deepL_take_le l (i + 1)
        have h3 := partsL_at l i hi
        have h4 := partsL_take_le l (i + 1)
        exact ih _ ht d r' (List.all_eq_true.1 hl _ ht) (hn.list _ ht) (by omega) (by omega)

theorem rreadL_inv (f : List UInt8 → Option (Tr × List UInt8)) (d : Nat)
    (hf : ∀ xs t r, f xs = some (t, r) → xs = bytesT t ++ r ∧ kindsT t = true ∧ deepT t ≤ d ∧ NumsT t) :
    ∀ (c P : Nat) (xs : List UInt8) (l : List Tr) (r : List UInt8), rreadL f c P xs = some (l, r) → P ≤ 200 →
      l.length = c ∧ xs = bytesL l ++ r ∧ l.all kindsT = true ∧ deepL l ≤ d ∧ P + partsL l ≤ 200 ∧ ∀ t, t ∈ l → NumsT t
  | 0, P, xs, l, r, h, hP => by
    simp only [rreadL, Option.some.injEq, Prod.mk.injEq] at h
    obtain ⟨rfl, rfl⟩ := h
    exact ⟨rfl, by simp [bytesL], rfl, by simp [deepL_nil], by simpa [partsL_nil] using hP, fun t ht => by cases ht⟩
  | c + 1, P, xs, l, r, h, hP => by
    rw [rreadL] at h
    cases h1 : f xs with
    | none => rw [h1] at h; cases h
    | some p =>
      obtain ⟨t, r1⟩ := p
      rw [h1] at h
      simp only at h
      by_cases hb : 200 < P + partsT t
      · rw [if_pos hb] at h; cases h
      rw [if_neg hb] at h
      cases h2 : rreadL f c (P + partsT t) r1 with
      | none => rw [h2] at h; cases h
      | some q =>
        obtain ⟨ts, r2⟩ := q
        rw [h2] at h
        simp only [Option.some.injEq, Prod.mk.injEq] at h
        obtain ⟨rfl, rfl⟩ := h
        obtain ⟨a1, a2, a3, a4⟩ := hf _ _ _ h1
        obtain ⟨b1, b2, b3, b4, b5, b6⟩ := rreadL_inv f d hf c (P + partsT t) r1 ts r2 h2 (by omega)
        refine ⟨by simp [b1], by rw [a1, b2]; simp [bytesL], by simp [a2, b3], by rw [deepL_cons]; omega, by rw [partsL_cons]; omega, fun x hx => ?_⟩
        rcases List.mem_cons.1 hx with rfl | hx
        · exact a4
        · exact b6 x hx
theorem rreadT_inv : ∀ (d : Nat) (xs : List UInt8) (t : Tr) (r : List UInt8), rreadT d xs = some (t, r) →
    xs = bytesT t ++ r ∧ kindsT t = true ∧ deepT t ≤ d ∧ NumsT t ∧ partsT t ≤ 200
  | 0, xs, t, r, h => by rw [rreadT_zero] at h; cases h
  | d + 1, xs, t, r, h => by
    cases hN : hdN xs with
    | none => rw [rreadT_hd hN] at h; cases h
    | some p =>
      obtain ⟨k, r1⟩ := p
      obtain ⟨hk64, hxs⟩ := hdN_inv hN
      by_cases hb : k < 0 ∨ 2 < k ∨ d + 1 = 0
      · rw [rreadT_bad hN hb] at h; cases h
      by_cases h1 : k = 1
      · subst h1
        rw [rreadT_text hN (by omega)] at h
        cases h2 : hdT r1 with
        | none => rw [h2] at h; cases h
        | some q =>
          obtain ⟨s, r2⟩ := q
          obtain ⟨hs, hr1⟩ := hdT_inv h2
          rw [h2] at h
          simp only [Option.some.injEq, Prod.mk.injEq] at h
          obtain ⟨rfl, rfl⟩ := h
          refine ⟨?_, ?_, by rw [deepT_node, deepL_nil]; omega, .node _ _ _ _ (by unfold isI64; omega) (fun t ht => by cases ht), by rw [partsT_node, partsL_nil]; omega⟩
          · rw [hxs, hr1, bytesT_node, if_neg (by decide), if_pos rfl, List.append_assoc]; rfl
          · rw [kindsT_node]; simp [plainB, hs]
      cases h2 : hdN r1 with
      | none => rw [rreadT_none2 hN (by omega) h2] at h; cases h
      | some q =>
        obtain ⟨n, r2⟩ := q
        obtain ⟨hn64, hr1⟩ := hdN_inv h2
        by_cases h0 : k = 0
        · subst h0
          rw [rreadT_num hN (by omega) h2] at h
          simp only [Option.some.injEq, Prod.mk.injEq] at h
          obtain ⟨rfl, rfl⟩ := h
          refine ⟨?_, ?_, by rw [deepT_node, deepL_nil]; omega, .node _ _ _ _ hn64 (fun t ht => by cases ht), by rw [partsT_node, partsL_nil]; omega⟩
          · rw [hxs, hr1, bytesT_node, if_pos rfl, List.append_assoc]; rfl
          · rw [kindsT_node]; simp [plainB]
        · obtain rfl : k = 2 := by omega
          rw [rreadT_list hN h2] at h
          by_cases hb2 : n < 0 ∨ 40 < n
          · rw [if_pos hb2] at h; cases h
          rw [if_neg hb2] at h
          cases h3 : rreadL (rreadT d) n.toNat 1 r2 with
          | none => rw [h3] at h; cases h
          | some z =>
            obtain ⟨l, r3⟩ := z
            rw [h3] at h
            simp only [Option.some.injEq, Prod.mk.injEq] at h
            obtain ⟨rfl, rfl⟩ := h
            obtain ⟨b1, b2, b3, b4, b5, b6⟩ := rreadL_inv (rreadT d) d (fun xs t r h => let ⟨a, b, c, e, _⟩ := rreadT_inv d xs t r h; ⟨a, b, c, e⟩) _ _ _ _ _ h3 (by omega)
            have hn : ((l.length : Nat) : Int) = n := by omega
            refine ⟨?_, ?_, by rw [deepT_node]; omega, .node _ _ _ _ (by unfold isI64; omega) b6, by rw [partsT_node]; omega⟩
            · rw [hxs, hr1, b2, bytesT_node, if_neg (by decide), if_neg (by decide), hn]; simp [List.append_assoc]
            · rw [kindsT_node, b3]; simp [plainB]; omega
/-- Both readers come to the same. -/
theorem rread_same (xs : List UInt8) : rreadT 6 xs = takeV' xs := by
  cases h : takeV' xs with
  | some p =>
    obtain ⟨t, r⟩ := p
    obtain ⟨rfl, h2, h3⟩ := takeV_inv h
    obtain ⟨a, b, c⟩ := rightT_iff.1 h2
    exact rreadT_bytes t 6 r a h3 b c
  | none =>
    cases h2 : rreadT 6 xs with
    | none => rfl
    | some p =>
      obtain ⟨t, r⟩ := p
      obtain ⟨rfl, a, b, c, e⟩ := rreadT_inv _ _ _ _ h2
      rw [takeV_bytes (rightT_iff.2 ⟨a, b, e⟩) c] at h
      cases h
end Fm

/- A value's text: plain facts. No program is imported. -/
namespace Fm
open Go Go.RowKit

end Fm

/- A value's tree in memory of its own: plain facts. No program is imported. -/
namespace Fm
open Go Go.RowKit

/-- The cells of n elements. -/
def cells4 (C : Nat → Nat → Value) : Nat → List Value
  | 0 => []
  | n + 1 => cells4 C n ++ [C n 0, C n 1, C n 2, C n 3]
theorem cells4_length (C : Nat → Nat → Value) : ∀ n, (cells4 C n).length = n * 4
  | 0 => rfl
  | n + 1 => by rw [cells4, List.length_append, cells4_length C n]; simp; omega
theorem cells4_at (C : Nat → Nat → Value) : ∀ (n i j : Nat), i < n → j < 4 → (cells4 C n)[i * 4 + j]? = some (C i j)
  | 0, i, j, h, _ => by omega
  | n + 1, i, j, h, hj => by
    rw [cells4]
    have hl := cells4_length C n
    by_cases hi : i < n
    · rw [List.getElem?_append_left (by omega), cells4_at C n i j hi hj]
    · obtain rfl : i = n := by omega
      rw [List.getElem?_append_right (by omega), hl]
      have e : i * 4 + j - i * 4 = j := by omega
      rw [e]
      match j, hj with
      | 0, _ => rfl
      | 1, _ => rfl
      | 2, _ => rfl
      | 3, _ => rfl
theorem cells4_congr {C D : Nat → Nat → Value} : ∀ n, (∀ i j, i < n → j < 4 → C i j = D i j) → cells4 C n = cells4 D n
  | 0, _ => rfl
  | n + 1, h => by
    rw [cells4, cells4, cells4_congr n (fun i j hi hj => h i j (by omega) hj), h n 0 (by omega) (by omega), h n 1 (by omega) (by omega), h n 2 (by omega) (by omega), h n 3 (by omega) (by omega)]

/-- The tree lies in blocks of its own, from 'base' on: F tells which. e: the elements' type. -/
inductive Owns (e : TypeId) (w : World) (base : Nat) : Tr → Value → (Nat → Prop) → Prop where
  | node (k : UInt8) (n : Int) (s : List UInt8) (l : List Tr) (d : Value) (C : Nat → Nat → Value) (G : Nat → Nat → Prop) (F : Nat → Prop) (hn : isI64 n) (hs : s.length ≤ 9223372036854775807)
      (hrow : w.ownsRow base e 4 d l.length (cells4 C l.length))
      (hch : ∀ (i : Nat) (hi : i < l.length), Owns e w base l[i] (.agg #[C i 0, C i 1, C i 2, C i 3]) (G i))
      (hF : ∀ b, F b ↔ d.ownBlock = some b ∨ ∃ i, i < l.length ∧ G i b)
      (hdis : ∀ i j b, i < j → j < l.length → G i b → ¬ G j b)
      (hown : ∀ i b, i < l.length → G i b → d.ownBlock ≠ some b) :
      Owns e w base (.node k n s l) (.agg #[.int .u8 (k.toNat : Int), .int .i64 n, .string (str s), d]) F
/-- A row of trees of its own. -/
def RowO (e : TypeId) (w : World) (base : Nat) (l : List Tr) (d : Value) (F : Nat → Prop) : Prop :=
  ∃ (C : Nat → Nat → Value) (G : Nat → Nat → Prop), w.ownsRow base e 4 d l.length (cells4 C l.length) ∧
    (∀ (i : Nat) (hi : i < l.length), Owns e w base l[i] (.agg #[C i 0, C i 1, C i 2, C i 3]) (G i)) ∧
    (∀ b, F b ↔ d.ownBlock = some b ∨ ∃ i, i < l.length ∧ G i b) ∧ (∀ i j b, i < j → j < l.length → G i b → ¬ G j b) ∧ (∀ i b, i < l.length → G i b → d.ownBlock ≠ some b)
theorem Owns.parts {e : TypeId} {w : World} {base : Nat} {k : UInt8} {n : Int} {s : List UInt8} {l : List Tr} {v : Value} {F : Nat → Prop} (h : Owns e w base (.node k n s l) v F) :
    ∃ d, v = .agg #[.int .u8 (k.toNat : Int), .int .i64 n, .string (str s), d] ∧ isI64 n ∧ s.length ≤ 9223372036854775807 ∧ RowO e w base l d F := by
  cases h with
  | node k n s l d C G F hn hs hrow hch hF hdis hown => exact ⟨d, rfl, hn, hs, C, G, hrow, hch, hF, hdis, hown⟩
theorem Owns.mk {e : TypeId} {w : World} {base : Nat} {k : UInt8} {n : Int} {s : List UInt8} {l : List Tr} {d : Value} {F : Nat → Prop} (hn : isI64 n) (hs : s.length ≤ 9223372036854775807) (h : RowO e w base l d F) :
    Owns e w base (.node k n s l) (.agg #[.int .u8 (k.toNat : Int), .int .i64 n, .string (str s), d]) F := by
  obtain ⟨C, G, hrow, hch, hF, hdis, hown⟩ := h
  exact .node k n s l d C G F hn hs hrow hch hF hdis hown
theorem Owns.bounds {e : TypeId} {w : World} {base : Nat} {t : Tr} {v : Value} {F : Nat → Prop} (h : Owns e w base t v F) : ∀ b, F b → base ≤ b ∧ b < w.heap.size := by
  induction h with
  | node k n s l d C G F hn hs hrow hch hF hdis hown ih =>
    intro b hb
    rcases (hF b).1 hb with h | ⟨i, hi, h⟩
    · exact hrow.lt b h
    · exact ih i hi b h
theorem RowO.bounds {e : TypeId} {w : World} {base : Nat} {l : List Tr} {d : Value} {F : Nat → Prop} (h : RowO e w base l d F) : ∀ b, F b → base ≤ b ∧ b < w.heap.size := by
  obtain ⟨C, G, hrow, hch, hF, hdis, hown⟩ := h
  intro b hb
  rcases (hF b).1 hb with h | ⟨i, hi, h⟩
  · exact hrow.lt b h
  · exact (hch i hi).bounds b h
theorem ownsRow_block {w w' : World} {base e size : Nat} {v : Value} {n : Nat} {xs : List Value} (h : w.ownsRow base e size v n xs) (hb : ∀ b, v.ownBlock = some b → w'.heap[b]? = w.heap[b]?) : w'.ownsRow base e size v n xs := by
  refine ⟨h.1, ?_⟩
  rcases h.2 with hn | ⟨g, cap, cur, hv, h1, h2, rest⟩
  · exact .inl hn
  · exact .inr ⟨g, cap, cur, hv, h1, by rw [hb g (by rw [hv]; rfl)]; exact h2, rest⟩
theorem ownsRow_mono {w : World} {base base' e size : Nat} {v : Value} {n : Nat} {xs : List Value} (h : w.ownsRow base e size v n xs) (hb : base' ≤ base) : w.ownsRow base' e size v n xs := by
  refine ⟨h.1, ?_⟩
  rcases h.2 with hn | ⟨g, cap, cur, hv, h1, rest⟩
  · exact .inl hn
  · exact .inr ⟨g, cap, cur, hv, Nat.le_trans hb h1, rest⟩
theorem Owns.kept {e : TypeId} {w : World} {base : Nat} {t : Tr} {v : Value} {F : Nat → Prop} (h : Owns e w base t v F) {w' : World} (hk : ∀ b, F b → w'.heap[b]? = w.heap[b]?) : Owns e w' base t v F := by
  induction h with
  | node k n s l d C G F hn hs hrow hch hF hdis hown ih =>
    exact .node k n s l d C G F hn hs (ownsRow_block hrow fun b hb => hk b ((hF b).2 (.inl hb))) (fun i hi => ih i hi fun b hb => hk b ((hF b).2 (.inr ⟨i, hi, hb⟩))) hF hdis hown
theorem Owns.mono {e : TypeId} {w : World} {base : Nat} {t : Tr} {v : Value} {F : Nat → Prop} (h : Owns e w base t v F) {base' : Nat} (hb : base' ≤ base) : Owns e w base' t v F := by
  induction h with
  | node k n s l d C G F hn hs hrow hch hF hdis hown ih =>
    exact .node k n s l d C G F hn hs (ownsRow_mono hrow hb) (fun i hi => ih i hi) hF hdis hown
theorem RowO.kept {e : TypeId} {w : World} {base : Nat} {l : List Tr} {d : Value} {F : Nat → Prop} (h : RowO e w base l d F) {w' : World} (hk : ∀ b, F b → w'.heap[b]? = w.heap[b]?) : RowO e w' base l d F := by
  obtain ⟨C, G, hrow, hch, hF, hdis, hown⟩ := h
  exact ⟨C, G, ownsRow_block hrow fun b hb => hk b ((hF b).2 (.inl hb)), fun i hi => (hch i hi).kept fun b hb => hk b ((hF b).2 (.inr ⟨i, hi, hb⟩)), hF, hdis, hown⟩
theorem RowO.ext {e : TypeId} {w w' : World} {base : Nat} {l : List Tr} {d : Value} {F : Nat → Prop} (h : RowO e w base l d F) (hE : Ext w w') : RowO e w' base l d F :=
  h.kept fun b hb => hE.block b (h.bounds b hb).2
theorem Owns.ext {e : TypeId} {w w' : World} {base : Nat} {t : Tr} {v : Value} {F : Nat → Prop} (h : Owns e w base t v F) (hE : Ext w w') : Owns e w' base t v F :=
  h.kept fun b hb => hE.block b (h.bounds b hb).2
theorem RowO.grown {e : TypeId} {w w' : World} {base : Nat} {l : List Tr} {d : Value} {F : Nat → Prop} {row : Option Nat} (h : RowO e w base l d F) (hg : w.grownBy w' row) (hr : ∀ b, row = some b → ¬ F b) : RowO e w' base l d F :=
  h.kept fun b hb => hg.block b (h.bounds b hb).2 (fun e => hr b e.symm hb)
theorem Owns.grown {e : TypeId} {w w' : World} {base : Nat} {t : Tr} {v : Value} {F : Nat → Prop} {row : Option Nat} (h : Owns e w base t v F) (hg : w.grownBy w' row) (hr : ∀ b, row = some b → ¬ F b) : Owns e w' base t v F :=
  h.kept fun b hb => hg.block b (h.bounds b hb).2 (fun e => hr b e.symm hb)
theorem RowO.nil (e : TypeId) (w : World) (base : Nat) : RowO e w base [] (.slice none 0 0) (fun _ => False) :=
  ⟨fun _ _ => .nilFunc, fun _ _ => False, World.ownsRow_nil w base e 4, (fun i hi => by simp at hi), (fun b => by simp [Value.ownBlock]), (fun i j b _ hj => by simp at hj), fun i b hi => by simp at hi⟩
theorem RowO.slice {e : TypeId} {w : World} {base : Nat} {l : List Tr} {d : Value} {F : Nat → Prop} (h : RowO e w base l d F) : ∃ a cap, d = .slice a l.length cap := by
  obtain ⟨C, G, hrow, _⟩ := h
  rcases hrow.2 with ⟨hv, h0⟩ | ⟨g, cap, cur, hv, _⟩
  · exact ⟨none, 0, by rw [hv, h0]⟩
  · exact ⟨_, cap, hv⟩
/-- What lies in memory of its own lies. -/
theorem Owns.lies {e : TypeId} {w : World} {base : Nat} {t : Tr} {v : Value} {F : Nat → Prop} (h : Owns e w base t v F) : Lies w t v := by
  induction h with
  | node k n s l d C G F hn hs hrow hch hF hdis hown ih =>
    have hc := fun g => World.ownsRow.cells hrow (g := g)
    rcases hrow.2 with ⟨rfl, h0⟩ | ⟨g, cap, cur, rfl, hb, hg, h1, h2, h3, h4⟩
    · have hl : l.length = 0 := h0
      obtain rfl : l = [] := List.eq_nil_of_length_eq_zero hl
      exact Lies.node k n s [] none 0 C hn hs (by simp) (by simp [maxLen]) (fun _ => rfl) (fun h => by simp at h) (fun i hi => by simp at hi)
    · refine Lies.node k n s l (some ⟨g, 0, none⟩) cap C hn hs h1 h2 (fun h => by cases h) (fun hp => ⟨g, 0, rfl, (Array.getElem?_eq_some_iff.1 hg).1, fun i j hi hj => ?_⟩) ih
      have := hc g rfl (i * 4 + j) (C i j) (cells4_at C l.length i j hi hj)
      rw [Addr.add_lit] at this
      exact this
theorem RowO.lies {e : TypeId} {w : World} {base : Nat} {l : List Tr} {d : Value} {F : Nat → Prop} (h : RowO e w base l d F) : LiesS w l d := by
  have hl := (Owns.mk (k := 2) (n := 0) (s := []) (by unfold isI64; omega) (by simp) h).lies
  obtain ⟨d', hd, _, _, hx⟩ := hl.parts
  injection hd with hd
  have : d = d' := by
    have := congrArg (fun a => a[3]?) hd
    simpa using this
  rw [this]; exact hx

/-- One tree more. -/
theorem RowO.snoc {e : TypeId} {w w' : World} {base : Nat} {l : List Tr} {d : Value} {F : Nat → Prop} (h : RowO e w base l d F) {t : Tr} {c0 c1 c2 c3 : Value} {Ft : Nat → Prop}
    (ht : Owns e w base t (.agg #[c0, c1, c2, c3]) Ft) (hdj : ∀ b, Ft b → ¬ F b) {d' : Value} (hg : w.grownBy w' d.ownBlock) {xs : List Value}
    (hx : w.ownsRow base e 4 d l.length xs) (hrow' : w'.ownsRow base e 4 d' (l.length + 1) (xs ++ [c0, c1, c2, c3])) (hat : d'.ownBlock = d.ownBlock ∨ d'.ownBlock = some w.heap.size) :
    ∃ F', RowO e w' base (l ++ [t]) d' F' ∧ ∀ b, F' b → F b ∨ Ft b ∨ b = w.heap.size := by
  have hFb := h.bounds
  have hTb := ht.bounds
  obtain ⟨C, G, hrow, hch, hF, hdis, hown⟩ := h
  have hxs : xs = cells4 C l.length := by
    rcases hrow.2 with ⟨hv, h0⟩ | ⟨g, cap, cur, hv, _, hgg, _, _, _, ht4⟩
    · have a1 := hrow.1; have a2 := hx.1
      rw [h0] at a1 a2
      have b1 : cells4 C l.length = [] := List.eq_nil_of_length_eq_zero (by rw [h0]; omega)
      have b2 : xs = [] := List.eq_nil_of_length_eq_zero (by omega)
      rw [b1, b2]
    · rcases hx.2 with ⟨hv2, _⟩ | ⟨g2, cap2, cur2, hv2, _, hgg2, _, _, _, ht42⟩
      · rw [hv] at hv2; cases hv2
      · rw [hv] at hv2
        injection hv2 with ha _ _
        injection ha with ha
        injection ha with ha
        subst ha
        rw [hgg] at hgg2
        injection hgg2 with hc
        injection hc with hc
        rw [← ht4, ← ht42, hc]
  let C' : Nat → Nat → Value := fun i j => if i < l.length then C i j else match j with | 0 => c0 | 1 => c1 | 2 => c2 | _ => c3
  let G' : Nat → Nat → Prop := fun i b => if i < l.length then G i b else Ft b
  have hC : ∀ i j, i < l.length → C' i j = C i j := fun i j hi => if_pos hi
  have hG : ∀ i, i < l.length → G' i = G i := fun i hi => by funext b; exact if_pos hi
  have hC4 : ∀ j, C' l.length j = match j with | 0 => c0 | 1 => c1 | 2 => c2 | _ => c3 := fun j => if_neg (by omega)
  have hG4 : G' l.length = Ft := by funext b; exact if_neg (by omega)
  have hold : ∀ b, (∃ i, i < l.length ∧ G i b) → w'.heap[b]? = w.heap[b]? := by
    rintro b ⟨i, hi, hb⟩
    exact hg.block b (hFb b ((hF b).2 (.inr ⟨i, hi, hb⟩))).2 (fun e => hown i b hi hb e.symm)
  have holdT : ∀ b, Ft b → w'.heap[b]? = w.heap[b]? := fun b hb =>
    hg.block b (hTb b hb).2 (fun e => hdj b hb ((hF b).2 (.inl e.symm)))
  refine ⟨fun b => d'.ownBlock = some b ∨ ∃ i, i < (l ++ [t]).length ∧ G' i b, ⟨C', G', ?_, ?_, fun b => Iff.rfl, ?_, ?_⟩, ?_⟩
  · have e1 : cells4 C' (l ++ [t]).length = xs ++ [c0, c1, c2, c3] := by
      rw [List.length_append, List.length_singleton, cells4, hxs, cells4_congr (D := C) l.length (fun i j hi _ => hC i j hi), hC4, hC4, hC4, hC4]
      rfl
    rw [e1, List.length_append, List.length_singleton]
    exact hrow'
  · intro i hi
    rw [List.length_append, List.length_singleton] at hi
    by_cases hlt : i < l.length
    · rw [List.getElem_append_left hlt, hG i hlt, hC i 0 hlt, hC i 1 hlt, hC i 2 hlt, hC i 3 hlt]
      exact (hch i hlt).kept fun b hb => hold b ⟨i, hlt, hb⟩
    · obtain rfl : i = l.length := by omega
      rw [List.getElem_append_right (by omega), hG4, hC4, hC4, hC4, hC4]
      simp only [Nat.sub_self, List.getElem_cons_zero]
      exact ht.kept holdT
  · intro i j b hij hj hb hb2
    rw [List.length_append, List.length_singleton] at hj
    rw [hG i (by omega)] at hb
    by_cases hlt : j < l.length
    · rw [hG j hlt] at hb2
      exact hdis i j b hij hlt hb hb2
    · obtain rfl : j = l.length := by omega
      rw [hG4] at hb2
      exact hdj b hb2 ((hF b).2 (.inr ⟨i, by omega, hb⟩))
  · intro i b hi hb he
    rw [List.length_append, List.length_singleton] at hi
    by_cases hlt : i < l.length
    · rw [hG i hlt] at hb
      rcases hat with ha | ha
      · exact hown i b hlt hb (by rw [← ha]; exact he)
      · have := (hFb b ((hF b).2 (.inr ⟨i, hlt, hb⟩))).2
        rw [ha] at he; injection he with he; omega
    · obtain rfl : i = l.length := by omega
      rw [hG4] at hb
      rcases hat with ha | ha
      · exact hdj b hb ((hF b).2 (.inl (by rw [← ha]; exact he)))
      · have := (hTb b hb).2
        rw [ha] at he; injection he with he; omega
  · rintro b (hb | ⟨i, hi, hb⟩)
    · rcases hat with ha | ha
      · exact .inl ((hF b).2 (.inl (by rw [← ha]; exact hb)))
      · rw [ha] at hb; injection hb with hb; exact .inr (.inr hb.symm)
    · rw [List.length_append, List.length_singleton] at hi
      by_cases hlt : i < l.length
      · rw [hG i hlt] at hb; exact .inl ((hF b).2 (.inr ⟨i, hlt, hb⟩))
      · obtain rfl : i = l.length := by omega
        rw [hG4] at hb; exact .inr (.inl hb)

/-- .. in memory of its own from 'base' on. -/
def OwnT (e : TypeId) (w : World) (base : Nat) (t : Tr) (v : Value) : Prop := ∃ F, Owns e w base t v F
def OwnL (e : TypeId) (w : World) (base : Nat) (l : List Tr) (d : Value) : Prop := ∃ F, RowO e w base l d F
theorem OwnT.lies {e : TypeId} {w : World} {base : Nat} {t : Tr} {v : Value} (h : OwnT e w base t v) : Lies w t v := let ⟨_, h⟩ := h; h.lies
theorem OwnT.ext {e : TypeId} {w w' : World} {base : Nat} {t : Tr} {v : Value} (h : OwnT e w base t v) (hE : Ext w w') : OwnT e w' base t v := let ⟨F, h⟩ := h; ⟨F, h.ext hE⟩
theorem OwnT.grown {e : TypeId} {w w' : World} {base : Nat} {t : Tr} {v : Value} {row : Option Nat} (h : OwnT e w base t v) (hg : w.grownBy w' row) (hr : ∀ b, row = some b → b < base) : OwnT e w' base t v :=
  let ⟨F, h⟩ := h; ⟨F, h.grown hg fun b hb hF => by have := (h.bounds b hF).1; have := hr b hb; omega⟩
theorem OwnT.mono {e : TypeId} {w : World} {base base' : Nat} {t : Tr} {v : Value} (h : OwnT e w base t v) (hb : base' ≤ base) : OwnT e w base' t v := let ⟨F, h⟩ := h; ⟨F, h.mono hb⟩
theorem OwnL.ext {e : TypeId} {w w' : World} {base : Nat} {l : List Tr} {d : Value} (h : OwnL e w base l d) (hE : Ext w w') : OwnL e w' base l d := let ⟨F, h⟩ := h; ⟨F, h.ext hE⟩
theorem OwnL.grown {e : TypeId} {w w' : World} {base : Nat} {l : List Tr} {d : Value} {row : Option Nat} (h : OwnL e w base l d) (hg : w.grownBy w' row) (hr : ∀ b, row = some b → b < base) : OwnL e w' base l d :=
  let ⟨F, h⟩ := h; ⟨F, h.grown hg fun b hb hF => by have := (h.bounds b hF).1; have := hr b hb; omega⟩
theorem OwnL.nil (e : TypeId) (w : World) (base : Nat) : OwnL e w base [] (.slice none 0 0) := ⟨_, RowO.nil e w base⟩
theorem OwnL.lies {e : TypeId} {w : World} {base : Nat} {l : List Tr} {d : Value} (h : OwnL e w base l d) : LiesS w l d := let ⟨_, h⟩ := h; h.lies
theorem OwnL.row {e : TypeId} {w : World} {base : Nat} {l : List Tr} {d : Value} (h : OwnL e w base l d) : ∃ xs, w.ownsRow base e 4 d l.length xs := let ⟨_, _, _, h, _⟩ := h; ⟨_, h⟩
theorem OwnT.mk {e : TypeId} {w : World} {base : Nat} {k : UInt8} {n : Int} {s : List UInt8} {l : List Tr} {d : Value} (hn : isI64 n) (hs : s.length ≤ 9223372036854775807) (h : OwnL e w base l d) :
    OwnT e w base (.node k n s l) (.agg #[.int .u8 (k.toNat : Int), .int .i64 n, .string (str s), d]) := let ⟨F, h⟩ := h; ⟨F, Owns.mk hn hs h⟩
/-- One tree more, younger than all ahead: the row in w, the tree made since, the append behind. -/
theorem OwnL.snoc {e : TypeId} {w0 w w' : World} {base mid : Nat} {l : List Tr} {d : Value} (h : OwnL e w0 base l d) (hmid : w0.heap.size ≤ mid) (hkeep : ∀ b, base ≤ b → b < w0.heap.size → w.heap[b]? = w0.heap[b]?)
    {t : Tr} {c0 c1 c2 c3 : Value} (ht : OwnT e w mid t (.agg #[c0, c1, c2, c3])) (hbm : base ≤ mid) {d' : Value} (hg : w.grownBy w' d.ownBlock) {xs : List Value}
    (hx : w.ownsRow base e 4 d l.length xs) (hrow' : w'.ownsRow base e 4 d' (l.length + 1) (xs ++ [c0, c1, c2, c3])) (hat : d'.ownBlock = d.ownBlock ∨ d'.ownBlock = some w.heap.size) :
    OwnL e w' base (l ++ [t]) d' := by
  obtain ⟨F, h⟩ := h
  obtain ⟨Ft, ht⟩ := ht
  have h1 := h.kept (w' := w) fun b hb => hkeep b (h.bounds b hb).1 (h.bounds b hb).2
  obtain ⟨F', h2, _⟩ := h1.snoc (ht.mono hbm) (fun b hb hF => by have := (ht.bounds b hb).1; have := (h.bounds b hF).2; omega) hg hx hrow' hat
  exact ⟨F', h2⟩
end Fm

/- One part of a tree in memory of its own is changed: plain facts. No program is imported. -/
namespace Fm
open Go Go.RowKit

/-- A tree's four cells lie at (b, o), its lists in memory of its own; beside it a counter. -/
structure Spot (e : TypeId) (w : World) (base b o kb : Nat) (c : Int) (k : UInt8) (n : Int) (s : List UInt8) (l : List Tr) (d : Value) (F : Nat → Prop) : Prop where
  c0 : w.cell? ⟨b, o, none⟩ = some (.int .u8 (k.toNat : Int))
  c1 : w.cell? ⟨b, o + 1, none⟩ = some (.int .i64 n)
  c2 : w.cell? ⟨b, o + 2, none⟩ = some (.string (str s))
  c3 : w.cell? ⟨b, o + 3, none⟩ = some d
  f1 : w.frozen? ⟨b, o + 1, none⟩ = false
  hn : isI64 n
  hs : s.length ≤ 9223372036854775807
  row : RowO e w base l d F
  nb : ¬ F b
  nk : ¬ F kb
  bk : b ≠ kb
  ck : w.cell? ⟨kb, 0, none⟩ = some (.int .i64 c)
  fk : w.frozen? ⟨kb, 0, none⟩ = false

theorem Spot.size {e : TypeId} {w : World} {base b o kb : Nat} {c : Int} {k : UInt8} {n : Int} {s : List UInt8} {l : List Tr} {d : Value} {F : Nat → Prop} (h : Spot e w base b o kb c k n s l d F) : b < w.heap.size ∧ kb < w.heap.size :=
  ⟨World.block_lt_of_cell? w _ h.c0, World.block_lt_of_cell? w _ h.ck⟩
end Fm

/- Unlike values are shown unlike: plain facts. No program is imported. -/
namespace Fm
open Go Go.RowKit

def digC (c : UInt8) : Bool := decide (48 ≤ c.toNat ∧ c.toNat ≤ 57)
def numC (c : UInt8) : Bool := digC c || decide (c = 45)
/-- What may stand behind a value's text. -/
def Ends (r : List UInt8) : Prop := ∀ c t, r = c :: t → c = 44 ∨ c = 93
theorem Ends.num {r : List UInt8} (h : Ends r) : ∀ c t, r = c :: t → numC c = false := by
  intro c t e
  rcases h c t e with rfl | rfl <;> decide
end Fm

/- The reference's reader of a list, round for round: plain facts. No program is imported. -/
namespace Fm
open Go Go.RowKit

/-- l is read; ys is behind it. -/
def RL (f : List UInt8 → Option (Tr × List UInt8)) (c : Nat) (x : Option (List Tr × List UInt8)) (l : List Tr) (ys : List UInt8) : Prop :=
  x = match rreadL f (c - l.length) (1 + partsL l) ys with
    | none => none
    | some (ts, r) => some (l ++ ts, r)
theorem RL.start (f : List UInt8 → Option (Tr × List UInt8)) (c : Nat) (ys : List UInt8) : RL f c (rreadL f c 1 ys) [] ys := by
  unfold RL
  rw [partsL_nil, List.length_nil, Nat.sub_zero]
  cases rreadL f c (1 + 0) ys with
  | none => rfl
  | some p => rfl
theorem RL.none {f : List UInt8 → Option (Tr × List UInt8)} {c : Nat} {x : Option (List Tr × List UInt8)} {l : List Tr} {ys : List UInt8} (h : RL f c x l ys) (hl : l.length < c) (hf : f ys = .none) : x = .none := by
  unfold RL at h
  obtain ⟨m, hm⟩ : ∃ m, c - l.length = m + 1 := ⟨c - l.length - 1, by omega⟩
  rw [hm, rreadL, hf] at h
  exact h
theorem RL.big {f : List UInt8 → Option (Tr × List UInt8)} {c : Nat} {x : Option (List Tr × List UInt8)} {l : List Tr} {ys r : List UInt8} {t : Tr} (h : RL f c x l ys) (hl : l.length < c) (hf : f ys = some (t, r)) (hb : 200 < 1 + partsL l + partsT t) : x = .none := by
  unfold RL at h
  obtain ⟨m, hm⟩ : ∃ m, c - l.length = m + 1 := ⟨c - l.length - 1, by omega⟩
  rw [hm, rreadL, hf] at h
  simp only at h
  rw [if_pos hb] at h
  exact h
theorem RL.next {f : List UInt8 → Option (Tr × List UInt8)} {c : Nat} {x : Option (List Tr × List UInt8)} {l : List Tr} {ys r : List UInt8} {t : Tr} (h : RL f c x l ys) (hl : l.length < c) (hf : f ys = some (t, r)) (hb : ¬ 200 < 1 + partsL l + partsT t) : RL f c x (l ++ [t]) r := by
  unfold RL at *
  obtain ⟨m, hm⟩ : ∃ m, c - l.length = m + 1 := ⟨c - l.length - 1, by omega⟩
  rw [hm, rreadL, hf] at h
  simp only at h
  rw [if_neg hb] at h
  have e : c - (l ++ [t]).length = m := by rw [List.length_append, List.length_singleton]; omega
  have e2 : 1 + partsL (l ++ [t]) = 1 + partsL l + partsT t := by rw [partsL_append, partsL_cons, partsL_nil]; omega
  rw [e, e2, h]
  cases rreadL f m (1 + partsL l + partsT t) r with
  | none => rfl
  | some p => simp
theorem RL.done {f : List UInt8 → Option (Tr × List UInt8)} {c : Nat} {x : Option (List Tr × List UInt8)} {l : List Tr} {ys : List UInt8} (h : RL f c x l ys) (hl : l.length = c) : x = some (l, ys) := by
  unfold RL at h
  rw [hl, Nat.sub_self, rreadL] at h
  simpa using h
end Fm

/- The chapter's examples: plain facts. No program is imported. -/
namespace Fm
open Go Go.RowKit

def ex1 : Tr := .node 0 5 [] []
theorem ex1_right : rightT ex1 = true := by
  simp [ex1, rightT, kindsT_node, deepT_node, deepL_nil, partsT_node, partsL_nil, plainB]
theorem ex1_bytes : bytesT ex1 = [0, 10] := by
  rw [ex1, bytesT_node]; decide
theorem ex1_nums : NumsT ex1 := .node _ _ _ _ (by unfold isI64; omega) (fun t h => by cases h)
theorem take_more : takeV' [0, 10, 0] = some (ex1, [0]) := by
  have h := takeV_bytes ex1_right ex1_nums [0]
  rw [ex1_bytes] at h
  exact h
end Fm
