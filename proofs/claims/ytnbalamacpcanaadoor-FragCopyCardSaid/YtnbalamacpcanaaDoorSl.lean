/- Data in slices: a slice whose elements are of any kind. No program is imported. -/
import Derived.Test.YtnbalamacpcanaaDoorBase
namespace Fm
open Go Go.RowKit

/-- A kind of data: how many cells one has, and how it lies in them. -/
structure Elem (α : Type) where
  sz : Nat
  R : World → α → (Nat → Value) → Prop
  ext : ∀ {w w' : World} {x : α} {c : Nat → Value}, Ext w w' → R w x c → R w' x c
  loc : ∀ {w : World} {x : α} {c d : Nat → Value}, (∀ j, j < sz → c j = d j) → R w x c → R w x d

/-- The slice v holds the list l. -/
def Elem.Row {α : Type} (E : Elem α) (w : World) (l : List α) (v : Value) : Prop :=
  ∃ a cap, v = .slice a l.length cap ∧ l.length ≤ cap ∧ cap ≤ maxLen ∧ (a = none → cap = 0) ∧ ∃ C : Nat → Nat → Value,
    (0 < l.length → ∃ b off, a = some ⟨b, off, none⟩ ∧ b < w.heap.size ∧ ∀ i j, i < l.length → j < E.sz → w.cell? ⟨b, off + (i * E.sz + j), none⟩ = some (C i j)) ∧
    (∀ (i : Nat) (hi : i < l.length), E.R w l[i] (C i))
theorem Elem.Row.ext {α : Type} {E : Elem α} {w w' : World} {l : List α} {v : Value} (h : E.Row w l v) (hx : Ext w w') : E.Row w' l v := by
  obtain ⟨a, cap, hv, h1, h2, h3, C, h4, h5⟩ := h
  refine ⟨a, cap, hv, h1, h2, h3, C, fun hp => ?_, fun i hi => E.ext hx (h5 i hi)⟩
  obtain ⟨b, off, ha, hb, hc⟩ := h4 hp
  exact ⟨b, off, ha, Nat.lt_of_lt_of_le hb hx.size, fun i j hi hj => (hx.cell (p := ⟨b, _, none⟩) hb).trans (hc i j hi hj)⟩
theorem Elem.Row.void {α : Type} (E : Elem α) (w : World) (a : Option Addr) : E.Row w [] (.slice a 0 0) :=
  ⟨a, 0, rfl, by simp, by simp [maxLen], fun _ => rfl, fun _ _ => .nilFunc, fun h => by simp at h, fun i hi => by simp at hi⟩
theorem Elem.Row.slice {α : Type} {E : Elem α} {w : World} {l : List α} {v : Value} (h : E.Row w l v) : ∃ a cap, v = .slice a l.length cap ∧ l.length ≤ cap ∧ cap ≤ 9223372036854775807 := by
  obtain ⟨a, cap, hv, h1, h2, _⟩ := h
  exact ⟨a, cap, hv, h1, by unfold maxLen at h2; omega⟩
theorem Elem.Row.length_le {α : Type} {E : Elem α} {w : World} {l : List α} {v : Value} (h : E.Row w l v) : l.length ≤ 9223372036854775807 := by
  obtain ⟨a, cap, _, h1, h2⟩ := h.slice; omega
/-- An element: its cells, in a world that has grown. -/
theorem Elem.Row.at {α : Type} {E : Elem α} {w : World} {l : List α} {a : Option Addr} {n cap : Nat} (h : E.Row w l (.slice a n cap)) (hp : 0 < l.length) :
    n = l.length ∧ ∃ b off, a = some ⟨b, off, none⟩ ∧ b < w.heap.size ∧ ∀ i (hi : i < l.length), ∃ c : Nat → Value, E.R w l[i] c ∧ ∀ j, j < E.sz → ∀ wr, Ext w wr → wr.cell? ⟨b, off + (i * E.sz + j), none⟩ = some (c j) := by
  obtain ⟨a', cap', hv, h1, h2, h3, C, h4, h5⟩ := h
  injection hv with e1 e2 e3
  obtain ⟨b, off, ha, hb, hc⟩ := h4 hp
  subst e1
  exact ⟨e2, b, off, ha, hb, fun i hi => ⟨C i, h5 i hi, fun j hj wr hx => (hx.cell (p := ⟨b, _, none⟩) hb).trans (hc i j hi hj)⟩⟩
theorem Elem.Row.mk {α : Type} {E : Elem α} {w : World} {l : List α} {b off n cap : Nat} (hn : n = l.length) (h1 : l.length ≤ cap) (h2 : cap ≤ maxLen) (hb : b < w.heap.size)
    (hc : ∀ i (hi : i < l.length), ∃ c : Nat → Value, E.R w l[i] c ∧ ∀ j, j < E.sz → w.cell? ⟨b, off + (i * E.sz + j), none⟩ = some (c j)) : E.Row w l (.slice (some ⟨b, off, none⟩) n cap) := by
  subst hn
  refine ⟨_, cap, rfl, h1, h2, fun h => (by cases h), fun i => if hi : i < l.length then Classical.choose (hc i hi) else fun _ => .nilFunc, fun _ => ⟨b, off, rfl, hb, fun i j hi hj => ?_⟩, fun i hi => ?_⟩
  · simp only [dif_pos hi]; exact (Classical.choose_spec (hc i hi)).2 j hj
  · simp only [dif_pos hi]; exact (Classical.choose_spec (hc i hi)).1
/-- The first k. -/
theorem Elem.Row.take {α : Type} {E : Elem α} {w : World} {l : List α} {a : Option Addr} {n cap : Nat} (h : E.Row w l (.slice a n cap)) {k : Nat} (hk : k ≤ l.length) : E.Row w (l.take k) (.slice a k cap) := by
  obtain ⟨a', cap', hv, h1, h2, h3, C, h4, h5⟩ := h
  injection hv with e1 e2 e3
  subst e1 e3
  have hl : (l.take k).length = k := by simp; omega
  refine ⟨a, cap, by rw [hl], by omega, h2, h3, C, fun hp => ?_, fun i hi => ?_⟩
  · obtain ⟨b, off, ha, hb, hc⟩ := h4 (by omega)
    exact ⟨b, off, ha, hb, fun i j hi hj => hc i j (by omega) hj⟩
  · rw [List.getElem_take]; exact h5 i (by omega)
/-- What is behind the first k. -/
theorem Elem.Row.drop {α : Type} {E : Elem α} {w : World} {l : List α} {a : Option Addr} {n cap : Nat} (h : E.Row w l (.slice a n cap)) {k : Nat} (hk : k ≤ l.length) :
    E.Row w (l.drop k) (.slice (if cap = k then a else a.map (·.add (k * E.sz))) (n - k) (cap - k)) := by
  obtain ⟨a', cap', hv, h1, h2, h3, C, h4, h5⟩ := h
  injection hv with e1 e2 e3
  subst e1 e3 e2
  have hl : (l.drop k).length = l.length - k := by simp
  refine ⟨_, _, by rw [hl], by omega, by omega, ?_, fun i => C (k + i), fun hp => ?_, fun i hi => ?_⟩
  · intro hn
    by_cases hck : cap = k
    · omega
    · rw [if_neg hck] at hn
      cases a with
      | none => have := h3 rfl; omega
      | some ad => simp at hn
  · obtain ⟨b, off, ha, hb, hc⟩ := h4 (by omega)
    refine ⟨b, off + k * E.sz, ?_, hb, fun i j hi hj => ?_⟩
    · rw [if_neg (by omega), ha]; simp [Addr.add_lit]
    · have := hc (k + i) j (by omega) hj
      rw [← this]; congr 2; rw [Nat.add_mul]; omega
  · rw [List.getElem_drop]; exact h5 (k + i) (by omega)

/-! ### kinds -/
def strE : Elem (List UInt8) where
  sz := 1
  R _ s c := c 0 = .string (str s) ∧ s.length ≤ 9223372036854775807
  ext _ h := h
  loc hc h := ⟨(hc 0 (by omega)).symm.trans h.1, h.2⟩
def intE : Elem Int where
  sz := 1
  R _ n c := c 0 = .int .i64 n ∧ isI64 n
  ext _ h := h
  loc hc h := ⟨(hc 0 (by omega)).symm.trans h.1, h.2⟩
def u8E : Elem UInt8 where
  sz := 1
  R _ k c := c 0 = .int .u8 (k.toNat : Int)
  ext _ h := h
  loc hc h := (hc 0 (by omega)).symm.trans h
def rowE {α : Type} (E : Elem α) : Elem (List α) where
  sz := 1
  R w l c := E.Row w l (c 0)
  ext hx h := h.ext hx
  loc hc h := by rw [← hc 0 (by omega)]; exact h
end Fm
