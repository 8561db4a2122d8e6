/- Items and texts in slices: what a walk asks. No program is imported. -/
import Derived.Test.YtnbalamacpcanaaDoorFr
namespace Fm
open Go Go.RowKit

/-- An item as a value. -/
def ItV (w : World) (x : It) (v : Value) : Prop :=
  ∃ (a : Option Addr) (m c : Nat), v = .agg #[.string (str x.name), .int .u8 (x.kind.toNat : Int), .slice a m c, .string (str x.over), .int .i64 x.width, .int .i64 x.quota] ∧ strE.Row w x.after (.slice a m c) ∧
    x.name.length ≤ 9223372036854775807 ∧ x.over.length ≤ 9223372036854775807 ∧ isI64 x.width ∧ isI64 x.quota
theorem ItV.ext {w w' : World} {x : It} {v : Value} (h : ItV w x v) (hx : Ext w w') : ItV w' x v := by
  obtain ⟨a, m, c, hv, hr, h⟩ := h
  exact ⟨a, m, c, hv, hr.ext hx, h⟩
theorem strRow_slice {w : World} {l : List (List UInt8)} {v : Value} (h : strE.Row w l v) : ∃ (a : Option Addr) (c : Nat), v = .slice a l.length c ∧ l.length ≤ c ∧ c ≤ 9223372036854775807 ∧ strE.Row w l (.slice a l.length c) := by
  obtain ⟨a, c, rfl, h1, h2⟩ := h.slice
  exact ⟨a, c, rfl, h1, h2, h⟩
theorem ItV.len {w : World} {x : It} {a : Option Addr} {m c : Nat} {n k o wd q : Value} (h : ItV w x (.agg #[n, k, .slice a m c, o, wd, q])) : m = x.after.length := by
  obtain ⟨a', m', c', hv, hr, _⟩ := h
  obtain ⟨a2, c2, e, _⟩ := hr.slice
  simp at hv
  injection e with _ e _
  omega
theorem ItV.row {w : World} {x : It} {d n k o wd q : Value} (h : ItV w x (.agg #[n, k, d, o, wd, q])) : strE.Row w x.after d := by
  obtain ⟨a', m', c', hv, hr, _⟩ := h
  injection hv with hv
  have := congrArg (fun z => z[2]?) hv
  simp at this
  rw [this]; exact hr
/-- An element of a slice of items, in a world that has grown. -/
theorem it_at {w wr : World} {l : List It} {a : Option Addr} {n cap : Nat} (h : itE.Row w l (.slice a n cap)) (hE : Ext w wr) (i : Nat) (hi : i < l.length) :
    ∃ (b off : Nat), a = some ⟨b, off, none⟩ ∧ b < w.heap.size ∧ ∃ (aa : Option Addr) (m c : Nat), wr.cell? ⟨b, off + i * 6, none⟩ = some (.string (str l[i].name)) ∧ wr.cell? ⟨b, off + i * 6 + 1, none⟩ = some (.int .u8 (l[i].kind.toNat : Int)) ∧ wr.cell? ⟨b, off + i * 6 + 2, none⟩ = some (.slice aa m c) ∧
      wr.cell? ⟨b, off + i * 6 + 3, none⟩ = some (.string (str l[i].over)) ∧ wr.cell? ⟨b, off + i * 6 + 4, none⟩ = some (.int .i64 l[i].width) ∧ wr.cell? ⟨b, off + i * 6 + 5, none⟩ = some (.int .i64 l[i].quota) ∧
      ItV w l[i] (.agg #[.string (str l[i].name), .int .u8 (l[i].kind.toNat : Int), .slice aa m c, .string (str l[i].over), .int .i64 l[i].width, .int .i64 l[i].quota]) := by
  obtain ⟨hn, b, off, ha, hb, hc⟩ := h.at (by omega)
  obtain ⟨c, hR, hcell⟩ := hc i hi
  obtain ⟨r0, r1, r2, r3, r4, r5, r6⟩ := hR
  obtain ⟨aa, cc, e2, _⟩ := r2.slice
  refine ⟨b, off, ha, hb, aa, l[i].after.length, cc, ?_, ?_, ?_, ?_, ?_, ?_, aa, _, cc, rfl, by rw [← e2]; exact r2, r6⟩
  · have := hcell 0 (by decide) wr hE; rw [r0] at this; exact this
  · have := hcell 1 (by decide) wr hE; rw [r1] at this; exact this
  · have := hcell 2 (by decide) wr hE; rw [e2] at this; exact this
  · have := hcell 3 (by decide) wr hE; rw [r3] at this; exact this
  · have := hcell 4 (by decide) wr hE; rw [r4] at this; exact this
  · have := hcell 5 (by decide) wr hE; rw [r5] at this; exact this
/-- An element of a slice of texts. -/
theorem str_at {w wr : World} {l : List (List UInt8)} {a : Option Addr} {n cap : Nat} (h : strE.Row w l (.slice a n cap)) (hE : Ext w wr) (i : Nat) (hi : i < l.length) :
    ∃ (b off : Nat), a = some ⟨b, off, none⟩ ∧ b < w.heap.size ∧ wr.cell? ⟨b, off + i, none⟩ = some (.string (str l[i])) ∧ l[i].length ≤ 9223372036854775807 := by
  obtain ⟨hn, b, off, ha, hb, hc⟩ := h.at (by omega)
  obtain ⟨c, ⟨r0, r1⟩, hcell⟩ := hc i hi
  refine ⟨b, off, ha, hb, ?_, r1⟩
  have := hcell 0 (by decide) wr hE
  rw [r0] at this
  have e : i * strE.sz + 0 = i := by show i * 1 + 0 = i; omega
  rw [e] at this
  exact this
/-- The first that it is so of; else -1. -/
def idxL {α : Type} (p : α → Bool) (l : List α) : Int := match l.findIdx? p with | some i => (i : Int) | none => -1
/-- What an IndexFunc comes to: q: of each, in order; J: how the world stands behind so many. -/
def IdxPost (n : Nat) (q : Nat → Bool) (J : Nat → World → Prop) (e : Ending) (w' : World) : Prop :=
  (∃ i, i < n ∧ q i = true ∧ (∀ j, j < i → q j = false) ∧ e = .returned (.int .i64 (i : Int)) ∧ J (i + 1) w') ∨ ((∀ j, j < n → q j = false) ∧ e = .returned (.int .i64 (-1)) ∧ J n w')
/-- What a ContainsFunc comes to. -/
def HasPost (n : Nat) (q : Nat → Bool) (J : Nat → World → Prop) (e : Ending) (w' : World) : Prop :=
  (∃ i, i < n ∧ q i = true ∧ (∀ j, j < i → q j = false) ∧ e = .returned (.bool true) ∧ J (i + 1) w') ∨ ((∀ j, j < n → q j = false) ∧ e = .returned (.bool false) ∧ J n w')
theorem idx_some {α : Type} {p : α → Bool} {l : List α} {i : Nat} (hi : i < l.length) (h1 : p l[i] = true) (h2 : ∀ j (hj : j < i), p l[j] = false) : idxL p l = (i : Int) := by
  unfold idxL
  have : l.findIdx? p = some i := by
    rw [List.findIdx?_eq_some_iff_getElem]
    exact ⟨hi, h1, fun j hj => by simp [h2 j hj]⟩
  rw [this]
theorem idx_none {α : Type} {p : α → Bool} {l : List α} (h : ∀ j (hj : j < l.length), p l[j] = false) : idxL p l = -1 := by
  unfold idxL
  have : l.findIdx? p = none := by
    rw [List.findIdx?_eq_none_iff]
    intro x hx
    obtain ⟨j, hj, rfl⟩ := List.getElem_of_mem hx
    exact h j hj
  rw [this]
theorem any_some {α : Type} {p : α → Bool} {l : List α} {i : Nat} (hi : i < l.length) (h1 : p l[i] = true) : l.any p = true := List.any_eq_true.2 ⟨l[i], List.getElem_mem hi, h1⟩
theorem any_none {α : Type} {p : α → Bool} {l : List α} (h : ∀ j (hj : j < l.length), p l[j] = false) : l.any p = false := by
  rw [List.any_eq_false]
  intro x hx
  obtain ⟨j, hj, rfl⟩ := List.getElem_of_mem hx
  simp [h j hj]
end Fm
