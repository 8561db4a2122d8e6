/- Fragments in memory of their own: plain facts. No program is imported. -/
import Derived.Test.YtnbalamacpcanaaDoorOwnF
namespace Fm
open Go Go.RowKit

def itCells (x : It) (d : Value) : List Value := [.string (str x.name), .int .u8 (x.kind.toNat : Int), d, .string (str x.over), .int .i64 x.width, .int .i64 x.quota]
def itWf (x : It) : Prop := x.name.length ≤ 9223372036854775807 ∧ x.over.length ≤ 9223372036854775807 ∧ isI64 x.width ∧ isI64 x.quota
/-- The cells of all items. -/
def itsCells (l : List It) (ds : List Value) : List Value := (List.zipWith itCells l ds).flatten
theorem itsCells_snoc {l : List It} {ds : List Value} (h : ds.length = l.length) (x : It) (d : Value) : itsCells (l ++ [x]) (ds ++ [d]) = itsCells l ds ++ itCells x d := by
  unfold itsCells
  rw [List.zipWith_append h.symm, List.flatten_append]
  simp
theorem itsCells_at : ∀ (l : List It) (ds : List Value) (i j : Nat) (hi : i < l.length) (hd : i < ds.length), j < 6 → (itsCells l ds)[i * 6 + j]? = (itCells l[i] ds[i])[j]?
  | [], _, i, _, hi, _, _ => by simp at hi
  | _ :: _, [], i, _, _, hd, _ => by simp at hd
  | x :: l, d :: ds, 0, j, _, _, hj => by
    unfold itsCells
    rw [List.zipWith_cons_cons, List.flatten_cons, List.getElem?_append_left (by simp [itCells]; omega)]
    simp
  | x :: l, d :: ds, i + 1, j, hi, hd, hj => by
    have ih := itsCells_at l ds i j (by simpa using hi) (by simpa using hd) hj
    unfold itsCells at ih ⊢
    rw [List.zipWith_cons_cons, List.flatten_cons, List.getElem?_append_right (by simp [itCells]; omega)]
    have e : (i + 1) * 6 + j - (itCells x d).length = i * 6 + j := by simp [itCells]; omega
    rw [e, ih]
    simp
/-- A fragment in memory of its own from block 'base' on. -/
def OwnF (eI eS : TypeId) (base : Nat) (w : World) (v : Value) (l : List It) : Prop :=
  ∃ ds : List Value, ds.length = l.length ∧ w.ownsRow base eI 6 v l.length (itsCells l ds) ∧
    ∀ i (hi : i < l.length) (hd : i < ds.length), OwnS eS base w ds[i] l[i].after ∧ itWf l[i] ∧ ∀ b, ds[i].ownBlock = some b → v.ownBlock ≠ some b
theorem OwnF.nil (eI eS : TypeId) (base : Nat) (w : World) : OwnF eI eS base w (.slice none 0 0) [] := ⟨[], rfl, World.ownsRow_nil w base eI 6, fun i hi => by simp at hi⟩
theorem OwnF.ext {eI eS : TypeId} {base : Nat} {w w' : World} {v : Value} {l : List It} (h : OwnF eI eS base w v l) (hE : Ext w w') : OwnF eI eS base w' v l := by
  obtain ⟨ds, h1, h2, h3⟩ := h
  exact ⟨ds, h1, hE.own h2, fun i hi hd => ⟨(h3 i hi hd).1.ext hE, (h3 i hi hd).2⟩⟩
theorem OwnF.mono {eI eS : TypeId} {base base' : Nat} {w : World} {v : Value} {l : List It} (h : OwnF eI eS base w v l) (hb : base' ≤ base) : OwnF eI eS base' w v l := by
  obtain ⟨ds, h1, h2, h3⟩ := h
  exact ⟨ds, h1, ownsRow_base h2 hb, fun i hi hd => ⟨(h3 i hi hd).1.mono hb, (h3 i hi hd).2⟩⟩
theorem OwnF.kept {eI eS : TypeId} {base : Nat} {w w' : World} {v : Value} {l : List It} {row : Option Nat} (h : OwnF eI eS base w v l) (hg : w.grownBy w' row) (hr : ∀ b, row = some b → b < base) : OwnF eI eS base w' v l := by
  obtain ⟨ds, h1, h2, h3⟩ := h
  have hlt := h2.lt
  refine ⟨ds, h1, h2.kept hg ?_, fun i hi hd => ⟨(h3 i hi hd).1.kept hg (fun b hb e => by have := hr b e; have := ((h3 i hi hd).1.block b hb).1; omega), (h3 i hi hd).2⟩⟩
  cases hv : v.ownBlock with
  | none => exact .inl rfl
  | some b => right; exact fun e => by have := hr b e.symm; have := (hlt b hv).1; omega
theorem OwnF.row {eI eS : TypeId} {base : Nat} {w : World} {v : Value} {l : List It} (h : OwnF eI eS base w v l) : itE.Row w l v := by
  obtain ⟨ds, h1, h2, h3⟩ := h
  have hc := fun g => World.ownsRow.cells h2 (g := g)
  rcases h2.2 with ⟨rfl, h0⟩ | ⟨g, cap, cur, rfl, hb, hg, hl, hm, h5, h6⟩
  · have : l = [] := List.eq_nil_of_length_eq_zero h0
    subst this
    exact Elem.Row.void itE w none
  · refine Elem.Row.mk rfl hl hm (Array.getElem?_eq_some_iff.1 hg).1 (fun i hi => ?_)
    have hd : i < ds.length := by omega
    obtain ⟨a1, a2, _⟩ := h3 i hi hd
    refine ⟨fun j => (itCells l[i] ds[i]).getD j .nilFunc, ⟨rfl, rfl, a1.row, rfl, rfl, rfl, a2⟩, fun j hj => ?_⟩
    have hj6 : j < 6 := hj
    have := hc g rfl (i * 6 + j) ((itCells l[i] ds[i]).getD j .nilFunc) (by
      rw [itsCells_at l ds i j hi hd hj6, List.getD_eq_getElem?_getD, List.getElem?_eq_getElem (by simp [itCells]; omega)]
      rfl)
    rw [Addr.add_lit] at this
    exact this
theorem OwnF.snoc {eI eS : TypeId} {base : Nat} {w w' : World} {v v' : Value} {l : List It} {x : It} {d : Value} {xs : List Value} (h : OwnF eI eS base w v l) (hd : OwnS eS base w d x.after) (hw : itWf x) (hdv : ∀ b, d.ownBlock = some b → v.ownBlock ≠ some b)
    (hx : w.ownsRow base eI 6 v l.length xs) (hrow : w'.ownsRow base eI 6 v' (l.length + 1) (xs ++ itCells x d)) (hg : w.grownBy w' v.ownBlock) (hat : v'.ownBlock = v.ownBlock ∨ v'.ownBlock = some w.heap.size) : OwnF eI eS base w' v' (l ++ [x]) := by
  obtain ⟨ds, h1, h2, h3⟩ := h
  have hxs : xs = itsCells l ds := by
    rcases h2.2 with ⟨hv, h0⟩ | ⟨g, cap, cur, hv, _, hgg, _, _, _, ht4⟩
    · have a1 := h2.1; have a2 := hx.1
      rw [h0] at a1 a2
      have b1 : itsCells l ds = [] := List.eq_nil_of_length_eq_zero (by omega)
      have b2 : xs = [] := List.eq_nil_of_length_eq_zero (by omega)
      rw [b1, b2]
    · rcases hx.2 with ⟨hv2, _⟩ | ⟨g2, cap2, cur2, hv2, _, hgg2, _, _, _, ht42⟩
      · rw [hv] at hv2; cases hv2
      · rw [hv] at hv2
        injection hv2 with ha _ _
        injection ha with ha
        injection ha with ha
        subst ha
        rw [hgg] at hgg2
        injection hgg2 with hc
        injection hc with hc
        rw [← ht4, ← ht42, hc]
  subst hxs
  refine ⟨ds ++ [d], by simp [h1], by rw [itsCells_snoc h1, List.length_append]; exact hrow, fun i hi hid => ?_⟩
  by_cases hil : i < l.length
  · have hil2 : i < ds.length := by omega
    rw [List.getElem_append_left hil, List.getElem_append_left hil2]
    obtain ⟨a1, a2, a3⟩ := h3 i hil hil2
    refine ⟨a1.kept hg (fun b hb e => a3 b hb e), a2, fun b hb e => ?_⟩
    rcases hat with h | h
    · exact a3 b hb (by rw [← h]; exact e)
    · rw [h] at e; injection e with e; have := (a1.block b hb).2; omega
  · have e1 : i = l.length := by simp at hi; omega
    subst e1
    have e2 : (ds ++ [d])[l.length]'hid = d := by rw [List.getElem_append_right (by omega)]; simp [h1]
    rw [List.getElem_append_right (Nat.le_refl _), e2]
    simp only [Nat.sub_self, List.getElem_cons_zero]
    refine ⟨hd.kept hg (fun b hb e => hdv b hb e), hw, fun b hb e => ?_⟩
    rcases hat with h | h
    · exact hdv b hb (by rw [← h]; exact e)
    · rw [h] at e; injection e with e; have := (hd.block b hb).2; omega
end Fm
