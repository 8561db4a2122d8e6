/- A struct of so many fields in a box of the call's own. No program is imported. -/
import Derived.Test.YtnbalamacpcanaaDoorBase
import Derived.Deep.AppendLies
namespace Fm
open Go Go.RowKit

structure BoxL (w : World) (b : Nat) (vs : List Value) : Prop where
  lt : b < w.heap.size
  cell : ∀ j u, vs[j]? = some u → w.cell? ⟨b, j, none⟩ = some u
  free : ∀ j, w.frozen? ⟨b, j, none⟩ = false
theorem BoxL.new (w : World) (vs : List Value) (e : TypeId) : BoxL (w.alloc (.cells vs.toArray e)) w.heap.size vs := by
  refine ⟨by simp, fun j u h => ?_, fun j => ?_⟩
  · have := heap_alloc_new w (.cells vs.toArray e)
    simp only [World.cell?, this]
    simpa using h
  · have := heap_alloc_new w (.cells vs.toArray e)
    simp only [World.frozen?, this]
    simp
theorem BoxL.ext {w w' : World} {b : Nat} {vs : List Value} (h : BoxL w b vs) (hE : Ext w w') : BoxL w' b vs :=
  ⟨Nat.lt_of_lt_of_le h.lt hE.size, fun j u hu => (hE.cell (p := ⟨b, j, none⟩) h.lt).trans (h.cell j u hu), fun j => (hE.frozen (p := ⟨b, j, none⟩) h.lt).trans (h.free j)⟩
theorem BoxL.six {w : World} {b : Nat} {c0 c1 c2 c3 c4 c5 : Value} (h : BoxL w b [c0, c1, c2, c3, c4, c5]) : w.cell? ⟨b, 0, none⟩ = some c0 ∧ w.cell? ⟨b, 1, none⟩ = some c1 ∧ w.cell? ⟨b, 2, none⟩ = some c2 ∧ w.cell? ⟨b, 3, none⟩ = some c3 ∧ w.cell? ⟨b, 4, none⟩ = some c4 ∧ w.cell? ⟨b, 5, none⟩ = some c5 :=
  ⟨h.cell 0 _ rfl, h.cell 1 _ rfl, h.cell 2 _ rfl, h.cell 3 _ rfl, h.cell 4 _ rfl, h.cell 5 _ rfl⟩
/-- What is written elsewhere leaves it. -/
theorem BoxL.kept {w w' : World} {b : Nat} {vs : List Value} {row : Option Nat} (h : BoxL w b vs) (hg : w.grownBy w' row) (hr : row ≠ some b) : BoxL w' b vs :=
  ⟨Nat.lt_of_lt_of_le h.lt hg.size, fun j u hu => (hg.cell_far ⟨b, j, none⟩ h.lt (fun e => hr e.symm)).trans (h.cell j u hu), fun j => (hg.frozen_far ⟨b, j, none⟩ h.lt (fun e => hr e.symm)).trans (h.free j)⟩
/-- One field is written. -/
theorem BoxL.set {w : World} {b : Nat} {vs : List Value} (h : BoxL w b vs) (j : Nat) (hj : j < vs.length) (u : Value) : BoxL (w.setCell ⟨b, j, none⟩ u) b (vs.set j u) := by
  refine ⟨by simp [h.lt], fun i x hx => ?_, fun i => by rw [World.frozen?_setCell]; exact h.free i⟩
  by_cases hij : i = j
  · subst hij
    rw [List.getElem?_set_self hj] at hx
    injection hx with hx
    subst hx
    exact World.cell?_setCell_same _ _ _ (h.cell i _ (List.getElem?_eq_getElem hj))
  · rw [List.getElem?_set_ne (by omega)] at hx
    exact (World.cell?_setCell_other w _ _ u (fun e => by injection e with _ e _; omega)).trans (h.cell i x hx)
end Fm
