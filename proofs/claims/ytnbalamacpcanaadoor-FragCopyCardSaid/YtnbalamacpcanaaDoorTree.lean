/- A value's tree as it lies in a world: plain facts; no program is imported. -/
import Derived.Test.YtnbalamacpcanaaDoorBase
namespace Fm
open Go Go.RowKit

/-- A value: its kind, number, text, list. -/
inductive Tr where
  | node (k : UInt8) (n : Int) (s : List UInt8) (l : List Tr)

theorem Tr.ind {M : Tr → Prop} (h : ∀ k n s l, (∀ t, t ∈ l → M t) → M (.node k n s l)) : ∀ t, M t := by
  intro t
  refine Tr.rec (motive_1 := M) (motive_2 := fun l => ∀ t, t ∈ l → M t) ?_ ?_ ?_ t
  · intro k n s l ih; exact h k n s l ih
  · intro t ht; cases ht
  · intro a l iha ihl t ht
    cases ht with
    | head => exact iha
    | tail _ hm => exact ihl t hm

inductive Lies (w : World) : Tr → Value → Prop where
  | node (k : UInt8) (n : Int) (s : List UInt8) (l : List Tr) (a : Option Addr) (cap : Nat) (C : Nat → Nat → Value) (hn : isI64 n) (hs : s.length ≤ 9223372036854775807)
      (h1 : l.length ≤ cap) (h2 : cap ≤ maxLen) (h3 : a = none → cap = 0)
      (h4 : 0 < l.length → ∃ b off, a = some ⟨b, off, none⟩ ∧ b < w.heap.size ∧ ∀ i j, i < l.length → j < 4 → w.cell? ⟨b, off + (i * 4 + j), none⟩ = some (C i j))
      (h5 : ∀ (i : Nat) (hi : i < l.length), Lies w l[i] (.agg #[C i 0, C i 1, C i 2, C i 3])) :
      Lies w (.node k n s l) (.agg #[.int .u8 (k.toNat : Int), .int .i64 n, .string (str s), .slice a l.length cap])

theorem Lies.ext {w w' : World} (hx : Ext w w') {t : Tr} {v : Value} (h : Lies w t v) : Lies w' t v := by
  induction h with
  | node k n s l a cap C hn hs h1 h2 h3 h4 h5 ih =>
    refine .node k n s l a cap C hn hs h1 h2 h3 (fun hp => ?_) ih
    obtain ⟨b, off, ha, hb, hc⟩ := h4 hp
    exact ⟨b, off, ha, Nat.lt_of_lt_of_le hb hx.size, fun i j hi hj => (hx.cell (p := ⟨b, _, none⟩) hb).trans (hc i j hi hj)⟩

/-- The four cells of an element, and the element, in a world that has grown. -/
theorem elem4 {w wr : World} {l : List Tr} {b off : Nat} {C : Nat → Nat → Value} (hE : Ext w wr) (hb : b < w.heap.size)
    (hc : ∀ i j, i < l.length → j < 4 → w.cell? ⟨b, off + (i * 4 + j), none⟩ = some (C i j)) (h5 : ∀ (i : Nat) (hi : i < l.length), Lies w l[i] (.agg #[C i 0, C i 1, C i 2, C i 3])) (k : Nat) (hk : k < l.length) :
    ∃ (k0 : Int) (n0 : Int) (s0 : ByteArray) (a0 : Option Addr) (m0 c0 : Nat), wr.cell? ⟨b, off + k * 4, none⟩ = some (.int .u8 k0) ∧ wr.cell? ⟨b, off + k * 4 + 1, none⟩ = some (.int .i64 n0) ∧ wr.cell? ⟨b, off + k * 4 + 2, none⟩ = some (.string s0) ∧ wr.cell? ⟨b, off + k * 4 + 3, none⟩ = some (.slice a0 m0 c0) ∧
      Lies wr l[k] (.agg #[.int .u8 k0, .int .i64 n0, .string s0, .slice a0 m0 c0]) := by
  have e0 := (hE.cell (p := ⟨b, _, none⟩) hb).trans (hc k 0 hk (by omega))
  have e1 := (hE.cell (p := ⟨b, _, none⟩) hb).trans (hc k 1 hk (by omega))
  have e2 := (hE.cell (p := ⟨b, _, none⟩) hb).trans (hc k 2 hk (by omega))
  have e3 := (hE.cell (p := ⟨b, _, none⟩) hb).trans (hc k 3 hk (by omega))
  have hx := (h5 k hk).ext hE
  generalize l[k] = t at hx
  generalize C k 0 = x0 at *
  generalize C k 1 = x1 at *
  generalize C k 2 = x2 at *
  generalize C k 3 = x3 at *
  cases hx with
  | node k n s l a cap C hn hs h1 h2 h3 h4 h5 =>
    exact ⟨_, _, _, _, _, _, e0, e1, e2, e3, .node k n s l a cap C hn hs h1 h2 h3 h4 h5⟩

/-- A struct of four fields, new in memory. -/
theorem alloc4 (w : World) (c0 c1 c2 c3 : Value) (e : TypeId) : (w.alloc (.cells #[c0, c1, c2, c3] e)).cell? ⟨w.heap.size, 0, none⟩ = some c0 ∧ (w.alloc (.cells #[c0, c1, c2, c3] e)).cell? ⟨w.heap.size, 1, none⟩ = some c1 ∧
    (w.alloc (.cells #[c0, c1, c2, c3] e)).cell? ⟨w.heap.size, 2, none⟩ = some c2 ∧ (w.alloc (.cells #[c0, c1, c2, c3] e)).cell? ⟨w.heap.size, 3, none⟩ = some c3 ∧ w.heap.size < (w.alloc (.cells #[c0, c1, c2, c3] e)).heap.size := by
  refine ⟨?_, ?_, ?_, ?_, ?_⟩
  all_goals simp

/-- How many parts. -/
def partsT : Tr → Nat
  | .node _ _ _ l => 1 + (l.map partsT).sum
def partsL (l : List Tr) : Nat := (l.map partsT).sum
theorem partsT_node (k : UInt8) (n : Int) (s : List UInt8) (l : List Tr) : partsT (.node k n s l) = 1 + partsL l := by rw [partsT]; rfl
theorem partsL_nil : partsL [] = 0 := rfl
theorem partsL_cons (t : Tr) (ts : List Tr) : partsL (t :: ts) = partsT t + partsL ts := by simp [partsL]
theorem partsT_pos (t : Tr) : 0 < partsT t := by cases t; rw [partsT_node]; omega
theorem partsL_append : ∀ (a b : List Tr), partsL (a ++ b) = partsL a + partsL b
  | [], b => by simp [partsL_nil]
  | t :: ts, b => by rw [List.cons_append, partsL_cons, partsL_cons, partsL_append ts b]; omega
theorem partsL_len : ∀ l : List Tr, l.length ≤ partsL l
  | [] => by simp
  | t :: ts => by have := partsT_pos t; have := partsL_len ts; rw [partsL_cons, List.length_cons]; omega
theorem partsL_at : ∀ (l : List Tr) (i : Nat) (hi : i < l.length), partsL (l.take (i + 1)) = partsL (l.take i) + partsT l[i]
  | [], _, hi => absurd hi (by simp)
  | t :: ts, 0, _ => by simp [partsL]
  | t :: ts, i + 1, hi => by
    have := partsL_at ts i (by simpa using hi)
    simp only [List.take_succ_cons, partsL_cons, List.getElem_cons_succ]; omega
theorem partsL_take_le : ∀ (l : List Tr) (i : Nat), partsL (l.take i) ≤ partsL l
  | [], i => by simp
  | t :: ts, 0 => by simp [partsL_nil]
  | t :: ts, i + 1 => by have := partsL_take_le ts i; simp only [List.take_succ_cons, partsL_cons]; omega

/-- How light it is: the law's own count. -/
def fewL (f : Tr → Nat) : Nat → List Tr → Nat
  | n, [] => n
  | n, t :: ts => if 1000000 < n + f t then n + f t else fewL f (n + f t) ts
def fewT : Nat → Tr → Nat
  | 0, _ => 1000000
  | d + 1, .node _ _ _ l => fewL (fewT d) 1 l
/-- How deep. -/
def deepT : Tr → Nat
  | .node _ _ _ l => (l.map deepT).foldr max 0 + 1
def deepL (l : List Tr) : Nat := (l.map deepT).foldr max 0
theorem deepT_node (k : UInt8) (n : Int) (s : List UInt8) (l : List Tr) : deepT (.node k n s l) = deepL l + 1 := by rw [deepT]; rfl
theorem deepL_nil : deepL [] = 0 := rfl
theorem deepL_cons (t : Tr) (ts : List Tr) : deepL (t :: ts) = max (deepT t) (deepL ts) := by simp [deepL]

theorem deepL_at : ∀ (l : List Tr) (i : Nat) (hi : i < l.length), deepL (l.take (i + 1)) = max (deepL (l.take i)) (deepT l[i])
  | [], _, hi => absurd hi (by simp)
  | t :: ts, 0, _ => by simp [deepL]
  | t :: ts, i + 1, hi => by
    have := deepL_at ts i (by simpa using hi)
    simp only [List.take_succ_cons, deepL_cons, List.getElem_cons_succ]; omega
theorem deepL_take_le : ∀ (l : List Tr) (i : Nat), deepL (l.take i) ≤ deepL l
  | [], i => by simp
  | t :: ts, 0 => by simp [deepL_nil]
  | t :: ts, i + 1 => by have := deepL_take_le ts i; simp only [List.take_succ_cons, deepL_cons]; omega
theorem fewL_nil (f : Tr → Nat) (n : Nat) : fewL f n [] = n := by rw [fewL]
theorem fewL_drop (f : Tr → Nat) (n : Nat) (l : List Tr) (k : Nat) (hk : k < l.length) : fewL f n (l.drop k) = if 1000000 < n + f l[k] then n + f l[k] else fewL f (n + f l[k]) (l.drop (k + 1)) := by
  rw [List.drop_eq_getElem_cons hk, fewL]
theorem fewL_le {f : Tr → Nat} {B : Nat} (hf : ∀ t, f t ≤ B) : ∀ (l : List Tr) (n : Nat), n ≤ 1000000 → fewL f n l ≤ 1000000 + B
  | [], n, h => by
    have e : fewL f n [] = n := by rw [fewL]
    omega
  | t :: ts, n, h => by
    have := hf t
    have e : fewL f n (t :: ts) = if 1000000 < n + f t then n + f t else fewL f (n + f t) ts := by rw [fewL]
    by_cases hb : 1000000 < n + f t
    · rw [if_pos hb] at e; omega
    · rw [if_neg hb] at e
      have := fewL_le hf ts (n + f t) (by omega)
      omega
theorem fewT_zero (t : Tr) : fewT 0 t = 1000000 := by rw [fewT]
theorem fewT_succ (d : Nat) (k : UInt8) (n : Int) (s : List UInt8) (l : List Tr) : fewT (d + 1) (.node k n s l) = fewL (fewT d) 1 l := by rw [fewT]
theorem fewT_le : ∀ (d : Nat) (t : Tr), fewT d t ≤ 1000000 * (d + 1)
  | 0, t => by have := fewT_zero t; omega
  | d + 1, .node k n s l => by
    have e := fewT_succ d k n s l
    have := fewL_le (fewT_le d) l 1 (by omega)
    omega
theorem fewL_light {f : Tr → Nat} : ∀ (l : List Tr) (n : Nat), fewL f n l ≤ 600 → fewL f n l = n + (l.map f).sum ∧ ∀ t, t ∈ l → f t ≤ 600
  | [], n, h => by simp [fewL]
  | t :: ts, n, h => by
    rw [fewL] at h ⊢
    by_cases hb : 1000000 < n + f t
    · rw [if_pos hb] at h; omega
    · rw [if_neg hb] at h ⊢
      obtain ⟨h1, h2⟩ := fewL_light ts _ h
      have h3 : fewL f (n + f t) ts = n + (f t + (ts.map f).sum) := by omega
      refine ⟨by rw [h3, List.map_cons, List.sum_cons], fun x hx => ?_⟩
      rcases List.mem_cons.1 hx with rfl | hx
      · omega
      · exact h2 x hx
theorem fewT_light : ∀ (d : Nat) (t : Tr), fewT d t ≤ 600 → fewT d t = partsT t ∧ deepT t ≤ d
  | 0, t, h => by have := fewT_zero t; omega
  | d + 1, .node k n s l, h => by
    rw [fewT_succ] at h ⊢
    obtain ⟨h1, h2⟩ := fewL_light l 1 h
    have key : ∀ l' : List Tr, (∀ t, t ∈ l' → fewT d t ≤ 600) → (l'.map (fewT d)).sum = partsL l' ∧ deepL l' ≤ d := by
      intro l'
      induction l' with
      | nil => intro _; simp [partsL_nil, deepL_nil]
      | cons t ts ih =>
        intro hh
        obtain ⟨a, b⟩ := ih (fun x hx => hh x (List.mem_cons_of_mem _ hx))
        obtain ⟨a', b'⟩ := fewT_light d t (hh t (List.mem_cons_self ..))
        refine ⟨by rw [List.map_cons, List.sum_cons, a, a', partsL_cons], by rw [deepL_cons]; omega⟩
    obtain ⟨k1, k2⟩ := key l h2
    refine ⟨by rw [h1, k1, partsT_node], by rw [deepT_node]; omega⟩

/-- A part of a right kind, but for what its list has in it. -/
def plainB (k : UInt8) (n : Int) (s : List UInt8) (m : Nat) : Bool :=
  if k = 0 then decide (s = [] ∧ m = 0) else if k = 1 then decide (n = 0 ∧ m = 0 ∧ s.length ≤ 100) else decide (k = 2 ∧ n = 0 ∧ s = [] ∧ m ≤ 40)
def kindsT : Tr → Bool
  | .node k n s l => plainB k n s l.length && (l.map kindsT).all id
def rightT (t : Tr) : Bool := kindsT t && decide (deepT t ≤ 6) && decide (partsT t ≤ 200)
theorem kindsT_node (k : UInt8) (n : Int) (s : List UInt8) (l : List Tr) : kindsT (.node k n s l) = (plainB k n s l.length && l.all kindsT) := by
  rw [kindsT]; simp

/-- Are both the same? -/
noncomputable def eqT (t u : Tr) : Bool := @decide (t = u) (Classical.propDecidable _)
theorem eqT_iff {t u : Tr} : eqT t u = true ↔ t = u := by unfold eqT; exact @decide_eq_true_iff _ (Classical.propDecidable _)
theorem eqT_ne {t u : Tr} (h : t ≠ u) : eqT t u = false := by
  cases e : eqT t u with
  | false => rfl
  | true => exact absurd (eqT_iff.1 e) h
theorem eqT_self (t : Tr) : eqT t t = true := eqT_iff.2 rfl
theorem take_same {l m : List Tr} {i : Nat} (hi : i < l.length) (hm : i < m.length) (h : l.take i = m.take i) (hx : l[i] = m[i]) : l.take (i + 1) = m.take (i + 1) := by
  rw [List.take_add_one, List.take_add_one, h, List.getElem?_eq_getElem hi, List.getElem?_eq_getElem hm, hx]

/-- The slice v holds the list l. -/
def LiesS (w : World) (l : List Tr) (v : Value) : Prop :=
  ∃ a cap, v = .slice a l.length cap ∧ l.length ≤ cap ∧ cap ≤ maxLen ∧ (a = none → cap = 0) ∧ ∃ C : Nat → Nat → Value,
    (0 < l.length → ∃ b off, a = some ⟨b, off, none⟩ ∧ b < w.heap.size ∧ ∀ i j, i < l.length → j < 4 → w.cell? ⟨b, off + (i * 4 + j), none⟩ = some (C i j)) ∧
    (∀ (i : Nat) (hi : i < l.length), Lies w l[i] (.agg #[C i 0, C i 1, C i 2, C i 3]))
theorem LiesS.ext {w w' : World} (hx : Ext w w') {l : List Tr} {v : Value} (h : LiesS w l v) : LiesS w' l v := by
  obtain ⟨a, cap, hv, h1, h2, h3, C, h4, h5⟩ := h
  refine ⟨a, cap, hv, h1, h2, h3, C, fun hp => ?_, fun i hi => (h5 i hi).ext hx⟩
  obtain ⟨b, off, ha, hb, hc⟩ := h4 hp
  exact ⟨b, off, ha, Nat.lt_of_lt_of_le hb hx.size, fun i j hi hj => (hx.cell (p := ⟨b, _, none⟩) hb).trans (hc i j hi hj)⟩
theorem Lies.parts {w : World} {k : UInt8} {n : Int} {s : List UInt8} {l : List Tr} {v : Value} (h : Lies w (.node k n s l) v) :
    ∃ d, v = .agg #[.int .u8 (k.toNat : Int), .int .i64 n, .string (str s), d] ∧ isI64 n ∧ s.length ≤ 9223372036854775807 ∧ LiesS w l d := by
  cases h with
  | node k n s l a cap C hn hs h1 h2 h3 h4 h5 => exact ⟨_, rfl, hn, hs, a, cap, rfl, h1, h2, h3, C, h4, h5⟩
theorem Lies.mk {w : World} {k : UInt8} {n : Int} {s : List UInt8} {l : List Tr} {d : Value} (hn : isI64 n) (hs : s.length ≤ 9223372036854775807) (h : LiesS w l d) :
    Lies w (.node k n s l) (.agg #[.int .u8 (k.toNat : Int), .int .i64 n, .string (str s), d]) := by
  obtain ⟨a, cap, rfl, h1, h2, h3, C, h4, h5⟩ := h
  exact .node k n s l a cap C hn hs h1 h2 h3 h4 h5
theorem LiesS.nil (w : World) (a : Option Addr) : LiesS w [] (.slice a 0 0) :=
  ⟨a, 0, rfl, by simp, by simp [maxLen], fun _ => rfl, fun _ _ => .nilFunc, fun h => by simp at h, fun i hi => by simp at hi⟩
end Fm
