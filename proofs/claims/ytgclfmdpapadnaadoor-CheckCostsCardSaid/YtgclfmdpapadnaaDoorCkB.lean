/- CheckCosts answers true at every input. -/
import Derived.Test.YtgclfmdpapadnaaDoorPlQ
import Derived.Deep.MidRow
import Derived.Test.YtgclfmdpapadnaaDoorVaA
import Derived.Deep.RegionLaw
import Derived.Deep.RegionHeld3
import Derived.Great.BuildSlice
import Derived.Test.YtgclfmdpapadnaaDoorProg
import Derived.Test.YtgclfmdpapadnaaDoorPlCl
import Derived.BigRegion
import Derived.WalkLawsBesides
import Derived.Deep.RegionWith
import Derived.Deep.Cut
namespace Fm
open Go
open Go.RowKit

theorem flat16_all : ∀ (cs : List (List Value)), (∀ C, C ∈ cs → C.length = 16) → cs.flatten.length = cs.length * 16
  | [], _ => rfl
  | C :: cs, h => by
    have h1 := h C (List.mem_cons_self ..)
    have h2 := flat16_all cs (fun D hD => h D (List.mem_cons_of_mem _ hD))
    rw [List.flatten_cons, List.length_append, h1, h2, List.length_cons]; omega
theorem flat16_set : ∀ (cs : List (List Value)) (i j : Nat) (u : Value) (hi : i < cs.length), (∀ C, C ∈ cs → C.length = 16) → j < 16 → cs.flatten.set (i * 16 + j) u = (cs.set i (cs[i].set j u)).flatten
  | [], i, _, _, hi, _, _ => by simp at hi
  | C :: cs, 0, j, u, _, h, hj => by
    have := h C (List.mem_cons_self ..)
    simp only [List.flatten_cons, List.set_cons_zero, List.getElem_cons_zero, Nat.zero_mul, Nat.zero_add]
    rw [List.set_append_left _ _ (by omega)]
  | C :: cs, i + 1, j, u, hi, h, hj => by
    have hC := h C (List.mem_cons_self ..)
    have ih := flat16_set cs i j u (by simpa using hi) (fun D hD => h D (List.mem_cons_of_mem _ hD)) hj
    simp only [List.flatten_cons, List.set_cons_succ, List.getElem_cons_succ]
    rw [List.set_append_right _ _ (by omega), ← ih]
    congr 2
    omega
/-- A node whose slices are not its own. -/
def ShNd (w : World) (n : Nd) (C : List Value) : Prop :=
  ∃ (a : Option Addr) (m c : Nat) (k N s d : Value), C = ndCells n (.slice a m c) k N s d ∧ NdV w n (.agg C.toArray) ∧ (∀ u, u ∈ C → u.oneCell' = true)
theorem ShNd.cells {w : World} {n : Nd} {C : List Value} (h : ShNd w n C) : C.length = 16 := by
  obtain ⟨a, m, c, k, N, s, d, rfl, -⟩ := h; rfl
/-- Nodes whose row is of its own. -/
def ShN (eN : TypeId) (w0 : World) (base : Nat) (w : World) (v : Value) (l : List Nd) : Prop :=
  ∃ cs : List (List Value), cs.length = l.length ∧ w.ownsRow base eN 16 v l.length cs.flatten ∧ ∀ (i : Nat) (hi : i < l.length) (hc : i < cs.length), ShNd w0 l[i] cs[i]
/-- A node whose slices lie from p on, ahead of q. -/
def NdW (eI eV : TypeId) (p q : Nat) (w : World) (n : Nd) (C : List Value) : Prop :=
  ∃ (a : Option Addr) (m c : Nat) (k N S d : Value) (F : Nat → Prop), C = ndCells n (.slice a m c) k N S d ∧ OwnN eI p w (.slice a m c) n.after ∧ (∀ b, (Value.slice a m c).ownBlock = some b → b < q ∧ ¬ F b) ∧
    Owns eV w p n.val (.agg #[k, N, S, d]) F ∧ (∀ b, F b → b < q) ∧ ndWf n
theorem NdW.cells {eI eV : TypeId} {p q : Nat} {w : World} {n : Nd} {C : List Value} (h : NdW eI eV p q w n C) : C.length = 16 := by
  obtain ⟨a, m, c, k, N, s, d, F, rfl, -⟩ := h; rfl
theorem NdW.far {eI eV : TypeId} {p q : Nat} {w w' : World} {n : Nd} {C : List Value} (h : NdW eI eV p q w n C) (hk : ∀ b, p ≤ b → b < q → w'.heap[b]? = w.heap[b]?) : NdW eI eV p q w' n C := by
  obtain ⟨a, m, c, k, N, S, d, F, rfl, h1, h2, h3, h4, h5⟩ := h
  exact ⟨a, m, c, k, N, S, d, F, rfl, ownsRow_block h1 (fun b hb => hk b (World.ownsRow.lt h1 b hb).1 (h2 b hb).1), h2, h3.kept (fun b hb => hk b (h3.bounds b hb).1 (h4 b hb)), h4, h5⟩
theorem NdW.v {eI eV : TypeId} {p q : Nat} {w : World} {n : Nd} {C : List Value} (h : NdW eI eV p q w n C) : NdV w n (.agg C.toArray) := by
  obtain ⟨a, m, c, k, N, S, d, F, rfl, h1, -, h2, -, h3⟩ := h
  obtain ⟨w1, w2, w3, w4, w5, w6, w7, w8, w9, w10, w11⟩ := h3
  exact ⟨a, m, c, k, N, S, d, rfl, h1.row w11, h2.lies, w1, w2, w3, w4, w5, w6, w7, w8, w9⟩
/-- A copy of nodes, the row ahead of lo 0, node i's slices from lo i on, ahead of lo (i + 1). -/
def CopyN (eN eI eV : TypeId) (base : Nat) (w : World) (v : Value) (l : List Nd) : Prop :=
  ∃ (cs : List (List Value)) (lo : Nat → Nat), cs.length = l.length ∧ w.ownsRow base eN 16 v l.length cs.flatten ∧ (∀ b, v.ownBlock = some b → b < lo 0) ∧ base ≤ lo 0 ∧ (∀ i, i < l.length → lo i ≤ lo (i + 1)) ∧ lo l.length ≤ w.heap.size ∧
    ∀ (i : Nat) (hi : i < l.length) (hc : i < cs.length), NdW eI eV (lo i) (lo (i + 1)) w l[i] cs[i]
/-- The first j nodes are copied. -/
def HalfN (eN eI eV : TypeId) (w0 : World) (base : Nat) (w : World) (v : Value) (l : List Nd) (j : Nat) : Prop :=
  ∃ (cs : List (List Value)) (lo : Nat → Nat), cs.length = l.length ∧ w.ownsRow base eN 16 v l.length cs.flatten ∧ (∀ b, v.ownBlock = some b → b < lo 0) ∧ base ≤ lo 0 ∧ (∀ i, i < j → lo i ≤ lo (i + 1)) ∧ lo j ≤ w.heap.size ∧
    (∀ (i : Nat) (hi : i < l.length) (hc : i < cs.length), j ≤ i → ShNd w0 l[i] cs[i]) ∧ ∀ (i : Nat) (hi : i < l.length) (hc : i < cs.length), i < j → NdW eI eV (lo i) (lo (i + 1)) w l[i] cs[i]
theorem HalfN.ext {eN eI eV : TypeId} {w0 w w' : World} {base : Nat} {v : Value} {l : List Nd} {j : Nat} (h : HalfN eN eI eV w0 base w v l j) (hE : Ext w w') : HalfN eN eI eV w0 base w' v l j := by
  obtain ⟨cs, lo, h1, h2, h3, h4, h5, h6, h7, h8⟩ := h
  have hmon : ∀ k, k ≤ j → ∀ i, i ≤ k → lo i ≤ lo k := fun k => by
    induction k with
    | zero => intro _ i hi; have : i = 0 := by omega
              subst this; exact Nat.le_refl _
    | succ k ih =>
      intro hk i hi
      rcases Nat.lt_or_ge i (k + 1) with h | h
      · exact Nat.le_trans (ih (by omega) i (by omega)) (h5 k (by omega))
      · have : i = k + 1 := by omega
        subst this; exact Nat.le_refl _
  exact ⟨cs, lo, h1, hE.own h2, h3, h4, h5, Nat.le_trans h6 hE.size, h7, fun i hi hc hij => (h8 i hi hc hij).far (fun b _ hb => hE.block b (by have := hmon j (Nat.le_refl _) (i + 1) (by omega); omega))⟩
theorem set5 {n : Nd} {e k N s d e' k' N' s' d' : Value} : (((((ndCells n e k N s d).set 6 e').set 12 k').set 13 N').set 14 s').set 15 d' = ndCells n e' k' N' s' d' := rfl
theorem set5_flat {cs : List (List Value)} {j : Nat} (hj : j < cs.length) (h16 : ∀ C, C ∈ cs → C.length = 16) (e k N s d : Value) :
    ((((cs.flatten.set (j * 16 + 6) e).set (j * 16 + 12) k).set (j * 16 + 13) N).set (j * 16 + 14) s).set (j * 16 + 15) d = (cs.set j (((((cs[j].set 6 e).set 12 k).set 13 N).set 14 s).set 15 d)).flatten := by
  have step : ∀ (ds : List (List Value)) (hl : j < ds.length), (∀ C, C ∈ ds → C.length = 16) → ∀ (i : Nat) (u : Value), i < 16 → ds.flatten.set (j * 16 + i) u = (ds.set j (ds[j].set i u)).flatten := fun ds hl h i u hi => flat16_set ds j i u hl h hi
  have keep : ∀ (ds : List (List Value)) (hl : j < ds.length) (i : Nat) (u : Value), (∀ C, C ∈ ds → C.length = 16) → ∀ C, C ∈ ds.set j (ds[j].set i u) → C.length = 16 := fun ds hl i u h C hC => by
    rcases List.mem_or_eq_of_mem_set hC with h1 | h1
    · exact h C h1
    · rw [h1, List.length_set]; exact h _ (List.getElem_mem hl)
  have k1 := keep cs hj 6 e h16
  rw [step cs hj h16 6 e (by omega)]
  have l1 : j < (cs.set j (cs[j].set 6 e)).length := by simpa using hj
  have k2 := keep _ l1 12 k k1
  rw [step _ l1 k1 12 k (by omega)]
  have l2 : j < ((cs.set j (cs[j].set 6 e)).set j ((cs.set j (cs[j].set 6 e))[j].set 12 k)).length := by simpa using hj
  have k3 := keep _ l2 13 N k2
  rw [step _ l2 k2 13 N (by omega)]
  have l3 := l2
  rw [← List.length_set (i := j) (a := (((cs.set j (cs[j].set 6 e)).set j ((cs.set j (cs[j].set 6 e))[j].set 12 k))[j].set 13 N))] at l3
  have k4 := keep _ l3 14 s k3
  rw [step _ l3 k3 14 s (by omega)]
  rw [step _ (by simpa using hj) k4 15 d (by omega)]
  simp
theorem HalfN.step {eN eI eV : TypeId} {w0 wr w W : World} {base : Nat} {l : List Nd} {j g cap : Nat} (h : HalfN eN eI eV w0 base wr (.slice (some ⟨g, 0, none⟩) l.length cap) l j) (hj : j < l.length) (hE : Ext wr w) {a : Option Addr} {m c : Nat} {k N s d : Value} {F : Nat → Prop}
    (hA : OwnN eI wr.heap.size w (.slice a m c) l[j].after) (hF : ∀ b, (Value.slice a m c).ownBlock = some b → ¬ F b) (hV : Owns eV w wr.heap.size l[j].val (.agg #[k, N, s, d]) F)
    (hW : ∀ xs, w.ownsRow base eN 16 (.slice (some ⟨g, 0, none⟩) l.length cap) l.length xs → W.ownsRow base eN 16 (.slice (some ⟨g, 0, none⟩) l.length cap) l.length (((((xs.set (j * 16 + 6) (.slice a m c)).set (j * 16 + 12) k).set (j * 16 + 13) N).set (j * 16 + 14) s).set (j * 16 + 15) d))
    (hg : w.grownBy W (some g)) : HalfN eN eI eV w0 base W (.slice (some ⟨g, 0, none⟩) l.length cap) l (j + 1) := by
  obtain ⟨cs, lo, h1, h2, h3, h4, h5, h6, h7, h8⟩ := h
  have hmon : ∀ k, k ≤ j → ∀ i, i ≤ k → lo i ≤ lo k := fun k => by
    induction k with
    | zero => intro _ i hi; have : i = 0 := by omega
              subst this; exact Nat.le_refl _
    | succ k ih =>
      intro hk i hi
      rcases Nat.lt_or_ge i (k + 1) with h | h
      · exact Nat.le_trans (ih (by omega) i (by omega)) (h5 k (by omega))
      · have : i = k + 1 := by omega
        subst this; exact Nat.le_refl _
  have hgl : g < lo 0 := h3 g rfl
  have hjc : j < cs.length := by omega
  have h16 : ∀ C, C ∈ cs → C.length = 16 := fun C hC => by
    obtain ⟨i, hi, rfl⟩ := List.getElem_of_mem hC
    rcases Nat.lt_or_ge i j with h | h
    · exact (h8 i (by omega) hi h).cells
    · exact (h7 i (by omega) hi h).cells
  obtain ⟨a0, m0, c0, k0, N0, s0, d0, eC, hC, -⟩ := h7 j hj hjc (Nat.le_refl _)
  have hw := hW _ (hE.own h2)
  rw [set5_flat hjc h16, eC, set5] at hw
  have hlj := hmon j (Nat.le_refl _) 0 (by omega)
  refine ⟨cs.set j (ndCells l[j] (.slice a m c) k N s d), fun i => if i ≤ j then lo i else W.heap.size, by simp [h1], hw, ?_, ?_, fun i hi => ?_, ?_, fun i hi hc hji => ?_, fun i hi hc hij => ?_⟩
  · intro b hb; simpa using h3 b hb
  · simpa using h4
  · dsimp only
    rw [if_pos (by omega)]
    by_cases e : i + 1 ≤ j
    · rw [if_pos e]; exact h5 i (by omega)
    · rw [if_neg e]
      have : i = j := by omega
      subst this
      exact Nat.le_trans h6 (Nat.le_trans hE.size hg.size)
  · dsimp only; rw [if_neg (by omega)]; exact Nat.le_refl _
  · have hic : i < cs.length := by simpa using hc
    rw [List.getElem_set_ne (by omega)]
    exact h7 i hi hic (by omega)
  · have hic : i < cs.length := by simpa using hc
    dsimp only
    rw [if_pos (by omega)]
    by_cases e : i = j
    · subst e
      rw [if_neg (by omega), List.getElem_set_self]
      have hn : ndWf l[i] := hC.wf
      refine ⟨a, m, c, k, N, s, d, F, rfl, ?_, fun b hb => ⟨?_, hF b hb⟩, ?_, fun b hb => ?_, hn⟩
      · refine ownsRow_mono (ownsRow_block hA (fun b hb => hg.block b (World.ownsRow.lt hA b hb).2 (fun e => ?_))) h6
        have := (World.ownsRow.lt hA b hb).1
        injection e with e
        omega
      · exact Nat.lt_of_lt_of_le (World.ownsRow.lt hA b hb).2 hg.size
      · refine (hV.kept (fun b hb => hg.block b (hV.bounds b hb).2 (fun e => ?_))).mono h6
        have := (hV.bounds b hb).1
        injection e with e
        omega
      · exact Nat.lt_of_lt_of_le (hV.bounds b hb).2 hg.size
    · rw [if_pos (by omega), List.getElem_set_ne (fun h => e h.symm)]
      refine (h8 i hi hic (by omega)).far (fun b hb1 hb2 => ?_)
      have hb3 : b < lo j := Nat.lt_of_lt_of_le hb2 (hmon j (Nat.le_refl _) (i + 1) (by omega))
      have hb4 : g < b := Nat.lt_of_lt_of_le hgl (Nat.le_trans (hmon i (by omega) 0 (by omega)) hb1)
      rw [hg.block b (by have := hE.size; omega) (fun e => by injection e with e; omega)]
      exact hE.block b (by omega)
/-- The same in a world where a block ahead of the copy has changed. -/
theorem HalfN.set {eN eI eV : TypeId} {w0 w : World} {base : Nat} {v : Value} {l : List Nd} {j b : Nat} (h : HalfN eN eI eV w0 base w v l j) (hb : b < base) (o : Nat) (u : Value) : HalfN eN eI eV w0 base (w.setCell ⟨b, o, none⟩ u) v l j := by
  obtain ⟨cs, lo, h1, h2, h3, h4, h5, h6, h7, h8⟩ := h
  have hg := setOne_grown w b o u
  have hmon : ∀ i, i ≤ j → base ≤ lo i := fun i => by
    induction i with
    | zero => exact fun _ => h4
    | succ i ih => exact fun hi => Nat.le_trans (ih (by omega)) (h5 i (by omega))
  refine ⟨cs, lo, h1, ownsRow_block h2 (fun k hk => hg.block k (h2.lt k hk).2 (fun e => ?_)), h3, h4, h5, Nat.le_trans h6 hg.size, h7, fun i hi hc hij => ?_⟩
  · injection e with e
    have := (h2.lt k hk).1
    omega
  · have q := h8 i hi hc hij
    obtain ⟨a, m, c, k, N, S, d, F, rfl', k1, k2, k3, k4, k5⟩ := q
    have hbi := hmon i (by omega)
    refine ⟨a, m, c, k, N, S, d, F, rfl', ownsRow_block k1 (fun x hx => hg.block x (World.ownsRow.lt k1 x hx).2 (fun e => ?_)), k2, k3.kept (fun x hx => hg.block x (k3.bounds x hx).2 (fun e => ?_)), k4, k5⟩
    · injection e with e
      have := (World.ownsRow.lt k1 x hx).1
      omega
    · injection e with e
      have := (k3.bounds x hx).1
      omega
/-- A node that is still to be copied. -/
theorem HalfN.at {eN eI eV : TypeId} {w0 w : World} {base g cap : Nat} {l : List Nd} {j : Nat} (h : HalfN eN eI eV w0 base w (.slice (some ⟨g, 0, none⟩) l.length cap) l j) (hj : j < l.length) :
    ∃ (a : Option Addr) (m c : Nat) (k N s d : Value), NdV w0 l[j] (.agg (ndCells l[j] (.slice a m c) k N s d).toArray) ∧ (∀ i u, (ndCells l[j] (.slice a m c) k N s d)[i]? = some u → w.cell? ⟨g, j * 16 + i, none⟩ = some u) ∧ (∀ i, w.frozen? ⟨g, i, none⟩ = false) ∧ base ≤ g ∧ g < w.heap.size := by
  obtain ⟨cs, lo, h1, h2, h3, h4, h5, h6, h7, h8⟩ := h
  have hjc : j < cs.length := by omega
  have h16 : ∀ C, C ∈ cs → C.length = 16 := fun C hC => by
    obtain ⟨i, hi, rfl⟩ := List.getElem_of_mem hC
    rcases Nat.lt_or_ge i j with h | h
    · exact (h8 i (by omega) hi h).cells
    · exact (h7 i (by omega) hi h).cells
  obtain ⟨a, m, c, k, N, s, d, eC, hC, -⟩ := h7 j hj hjc (Nat.le_refl _)
  rw [eC] at hC
  refine ⟨a, m, c, k, N, s, d, hC, fun i u hu => ?_, fun i => h2.frozenAt _, (h2.lt g rfl).1, (h2.lt g rfl).2⟩
  have hi : i < 16 := (List.getElem?_eq_some_iff.1 hu).1
  have hfl := flat16_all cs h16
  rw [h2.cellAt _ (by omega), flat16 cs j i hjc h16 hi, eC]
  exact hu
theorem CopyN.mono {eN eI eV : TypeId} {base base' : Nat} {w : World} {v : Value} {l : List Nd} (h : CopyN eN eI eV base w v l) (hb : base' ≤ base) : CopyN eN eI eV base' w v l := by
  obtain ⟨cs, lo, h1, h2, h3, h4, h5⟩ := h
  exact ⟨cs, lo, h1, ownsRow_mono h2 hb, h3, Nat.le_trans hb h4, h5⟩
theorem CopyN.slice {eN eI eV : TypeId} {base : Nat} {w : World} {v : Value} {l : List Nd} (h : CopyN eN eI eV base w v l) : ∃ a c, v = .slice a l.length c := by
  obtain ⟨cs, lo, h1, h2, _⟩ := h
  rcases h2.2 with ⟨e, e2⟩ | ⟨g, cap, cur, e, _⟩
  · exact ⟨none, 0, by rw [e, e2]⟩
  · exact ⟨_, _, e⟩
theorem ShN.slice {eN : TypeId} {w0 w : World} {base : Nat} {v : Value} {l : List Nd} (h : ShN eN w0 base w v l) : (l = [] ∧ v = .slice none 0 0) ∨ ∃ g c, v = .slice (some ⟨g, 0, none⟩) l.length c ∧ l.length ≤ c := by
  obtain ⟨cs, h1, h2, _⟩ := h
  rcases h2.2 with ⟨e, e2⟩ | ⟨g, cap, cur, e, hb, hg, hl, _⟩
  · exact .inl ⟨List.eq_nil_of_length_eq_zero e2, e⟩
  · exact .inr ⟨g, cap, e, hl⟩
end Fm

/- Nodes in blocks that are open, changed and written over: plain facts. No program is imported. -/
namespace Fm
open Go Go.RowKit

/-- What lies outside the open blocks stays. -/
structure Keep (O : Nat → Prop) (w w' : World) : Prop where
  os : w'.os = w.os
  tape : w'.tape = w.tape
  output : w'.output = w.output
  size : w.heap.size ≤ w'.heap.size
  block : ∀ b, b < w.heap.size → ¬ O b → w'.heap[b]? = w.heap[b]?
theorem Keep.refl (O : Nat → Prop) (w : World) : Keep O w w := ⟨rfl, rfl, rfl, Nat.le_refl _, fun _ _ _ => rfl⟩
theorem Keep.trans {O : Nat → Prop} {a b c : World} (h : Keep O a b) (k : Keep O b c) : Keep O a c :=
  ⟨k.os.trans h.os, k.tape.trans h.tape, k.output.trans h.output, Nat.le_trans h.size k.size, fun x hx ho => (k.block x (Nat.lt_of_lt_of_le hx h.size) ho).trans (h.block x hx ho)⟩
theorem Keep.grown {O : Nat → Prop} {a b c : World} {row : Option Nat} (h : Keep O a b) (hg : b.grownBy c row) (hr : ∀ k, row = some k → O k) : Keep O a c :=
  h.trans ⟨hg.os, hg.tape, hg.output, hg.size, fun x hx ho => hg.block x hx (fun e => ho (hr x e.symm))⟩
theorem Keep.ext {O : Nat → Prop} {a b c : World} (h : Keep O a b) (hE : Ext b c) : Keep O a c := h.grown (row := none) hE.grownBy (fun k hk => by cases hk)
theorem Keep.mono {O O' : Nat → Prop} {w w' : World} (h : Keep O w w') (hO : ∀ b, O b → O' b) : Keep O' w w' := ⟨h.os, h.tape, h.output, h.size, fun b hb ho => h.block b hb (fun q => ho (hO b q))⟩
/-- Cells that are there, and may be written. -/
def Has (w : World) (b n : Nat) : Prop := b < w.heap.size ∧ ∀ j, j < n → (∃ u, w.cell? ⟨b, j, none⟩ = some u) ∧ w.frozen? ⟨b, j, none⟩ = false
theorem Has.set {w : World} {b n : Nat} (h : Has w b n) (b' j' : Nat) (u : Value) : Has (w.setCell ⟨b', j', none⟩ u) b n := by
  refine ⟨by simp [h.1], fun j hj => ?_⟩
  obtain ⟨⟨x, hx⟩, hf⟩ := h.2 j hj
  refine ⟨?_, by rw [World.frozen?_setCell]; exact hf⟩
  by_cases e : (⟨b, j, none⟩ : Addr) = ⟨b', j', none⟩
  · rw [← e]; exact ⟨u, World.cell?_setCell_same _ _ _ hx⟩
  · exact ⟨x, (World.cell?_setCell_other w _ _ u (fun h => e h.symm)).trans hx⟩
theorem Has.block {w w' : World} {b n : Nat} (h : Has w b n) (hb : w'.heap[b]? = w.heap[b]?) (hs : w.heap.size ≤ w'.heap.size) : Has w' b n := by
  refine ⟨Nat.lt_of_lt_of_le h.1 hs, fun j hj => ?_⟩
  obtain ⟨⟨x, hx⟩, hf⟩ := h.2 j hj
  exact ⟨⟨x, (World.cell?_of_block (a := ⟨b, j, none⟩) hb).trans hx⟩, (World.frozen?_of_block (a := ⟨b, j, none⟩) hb).trans hf⟩
theorem Has.ext {w w' : World} {b n : Nat} (h : Has w b n) (hE : Ext w w') : Has w' b n := h.block (hE.block b h.1) hE.size
/-- A slice whose cells may be written, in an open block, none of two others. -/
def OpenSl (O : Nat → Prop) (w : World) (g p sz : Nat) (v : Value) : Prop :=
  ∃ a m c, v = .slice a m c ∧ m ≤ 9223372036854775807 ∧ (0 < m → ∃ b, a = some ⟨b, 0, none⟩ ∧ O b ∧ b ≠ g ∧ b ≠ p ∧ Has w b (m * sz))
theorem OpenSl.set {O : Nat → Prop} {w : World} {g p sz : Nat} {v : Value} (h : OpenSl O w g p sz v) (b' j' : Nat) (u : Value) : OpenSl O (w.setCell ⟨b', j', none⟩ u) g p sz v := by
  obtain ⟨a, m, c, h1, h2, h3⟩ := h
  refine ⟨a, m, c, h1, h2, fun hm => ?_⟩
  obtain ⟨b, k1, k2, k3, k4, k5⟩ := h3 hm
  exact ⟨b, k1, k2, k3, k4, k5.set _ _ _⟩
theorem OpenSl.ext {O : Nat → Prop} {w w' : World} {g p sz : Nat} {v : Value} (h : OpenSl O w g p sz v) (hE : Ext w w') : OpenSl O w' g p sz v := by
  obtain ⟨a, m, c, h1, h2, h3⟩ := h
  refine ⟨a, m, c, h1, h2, fun hm => ?_⟩
  obtain ⟨b, k1, k2, k3, k4, k5⟩ := h3 hm
  exact ⟨b, k1, k2, k3, k4, k5.ext hE⟩
theorem OpenSl.own {O : Nat → Prop} {w : World} {g p sz base e n : Nat} {v : Value} {xs : List Value} (h : w.ownsRow base e sz v n xs) (hO : ∀ b, v.ownBlock = some b → O b ∧ b ≠ g ∧ b ≠ p) : OpenSl O w g p sz v := by
  have hx := h.1
  rcases h.2 with ⟨e1, e2⟩ | ⟨b, cap, cur, e1, h1, h2, h3, h4, h5, h6⟩
  · exact ⟨none, 0, 0, e1, by omega, fun h => by omega⟩
  · subst e1
    obtain ⟨k1, k2, k3⟩ := hO b rfl
    refine ⟨_, _, _, rfl, by unfold maxLen at h4; omega, fun hm => ⟨b, rfl, k1, k2, k3, (h.lt b rfl).2, fun j hj => ⟨⟨_, (h.cellAt j (by omega)).trans (List.getElem?_eq_getElem (by omega))⟩, h.frozenAt j⟩⟩⟩
/-- Nodes from their cells. -/
theorem ndRow_parts {eN : TypeId} {base : Nat} {w : World} {v : Value} {l : List Nd} {cs : List (List Value)} (h1 : cs.length = l.length) (h2 : w.ownsRow base eN 16 v l.length cs.flatten)
    (h3 : ∀ (i : Nat) (hi : i < l.length) (hc : i < cs.length), cs[i].length = 16 ∧ NdV w l[i] (.agg cs[i].toArray)) : ndE.Row w l v := by
  have hc := fun g => World.ownsRow.cells h2 (g := g)
  have h16 : ∀ C, C ∈ cs → C.length = 16 := fun C hC => by
    obtain ⟨i, hi, rfl⟩ := List.getElem_of_mem hC
    exact (h3 i (by omega) hi).1
  rcases h2.2 with ⟨rfl, h0⟩ | ⟨g, cap, cur, rfl, hb, hg, hl, hm, h5, h6⟩
  · have : l = [] := List.eq_nil_of_length_eq_zero h0
    subst this
    exact Elem.Row.void ndE w none
  · refine Elem.Row.mk rfl hl hm (Array.getElem?_eq_some_iff.1 hg).1 (fun i hi => ?_)
    have hd : i < cs.length := by omega
    obtain ⟨hlen, hn⟩ := h3 i hi hd
    refine ⟨fun j => cs[i].getD j .nilFunc, ?_, fun j hj => ?_⟩
    · obtain ⟨a, m, c, k, N, S, x, e, k1, k2, k3⟩ := hn
      injection e with e
      have e := congrArg Array.toList e
      simp only at e
      rw [e]
      exact ⟨⟨rfl, rfl, rfl, rfl, rfl, rfl⟩, k1, ⟨rfl, rfl, rfl, rfl, rfl⟩, k2, k3⟩
    · have hj16 : j < 16 := hj
      have := hc g rfl (i * 16 + j) (cs[i].getD j .nilFunc) (by
        rw [flat16 cs i j hd h16 hj16, List.getD_eq_getElem?_getD, List.getElem?_eq_getElem (by omega)]; rfl)
      rw [Addr.add_lit] at this
      exact this
/-- Nodes that may be written over: their row in an open block, and what they are after and their lists too. -/
def RigN (eN : TypeId) (O : Nat → Prop) (p : Nat) (w : World) (v : Value) (l : List Nd) : Prop :=
  ∃ cs : List (List Value), cs.length = l.length ∧ w.ownsRow 0 eN 16 v l.length cs.flatten ∧ (∀ g, v.ownBlock = some g → O g ∧ g ≠ p) ∧
    ∀ (i : Nat) (hi : i < l.length) (hc : i < cs.length), cs[i].length = 16 ∧ NdV w l[i] (.agg cs[i].toArray) ∧
      ∀ g, v.ownBlock = some g → OpenSl O w g p 1 (cs[i].getD 6 .nilFunc) ∧ OpenSl O w g p 4 (cs[i].getD 15 .nilFunc)
theorem RigN.row {eN : TypeId} {O : Nat → Prop} {p : Nat} {w : World} {v : Value} {l : List Nd} (h : RigN eN O p w v l) : ndE.Row w l v := by
  obtain ⟨cs, h1, h2, h3, h4⟩ := h
  exact ndRow_parts h1 h2 (fun i hi hc => ⟨(h4 i hi hc).1, (h4 i hi hc).2.1⟩)
theorem RigN.ext {eN : TypeId} {O : Nat → Prop} {p : Nat} {w w' : World} {v : Value} {l : List Nd} (h : RigN eN O p w v l) (hE : Ext w w') : RigN eN O p w' v l := by
  obtain ⟨cs, h1, h2, h3, h4⟩ := h
  exact ⟨cs, h1, hE.own h2, h3, fun i hi hc => ⟨(h4 i hi hc).1, (h4 i hi hc).2.1.ext hE, fun g hg => ⟨((h4 i hi hc).2.2 g hg).1.ext hE, ((h4 i hi hc).2.2 g hg).2.ext hE⟩⟩⟩
/-- A copy of nodes, all its blocks from base on, ahead of top. -/
def CopyT (eN eI eV : TypeId) (base top : Nat) (w : World) (v : Value) (l : List Nd) : Prop :=
  ∃ (cs : List (List Value)) (lo : Nat → Nat), cs.length = l.length ∧ w.ownsRow base eN 16 v l.length cs.flatten ∧ (∀ b, v.ownBlock = some b → b < lo 0) ∧ base ≤ lo 0 ∧ (∀ i, i < l.length → lo i ≤ lo (i + 1)) ∧ lo l.length ≤ top ∧ top ≤ w.heap.size ∧
    ∀ (i : Nat) (hi : i < l.length) (hc : i < cs.length), NdW eI eV (lo i) (lo (i + 1)) w l[i] cs[i]
theorem CopyN.top {eN eI eV : TypeId} {base : Nat} {w : World} {v : Value} {l : List Nd} (h : CopyN eN eI eV base w v l) : CopyT eN eI eV base w.heap.size w v l := by
  obtain ⟨cs, lo, h1, h2, h3, h4, h5, h6, h7⟩ := h
  exact ⟨cs, lo, h1, h2, h3, h4, h5, h6, Nat.le_refl _, h7⟩
theorem lo_mono {lo : Nat → Nat} {n : Nat} (h5 : ∀ i, i < n → lo i ≤ lo (i + 1)) : ∀ k, k ≤ n → ∀ i, i ≤ k → lo i ≤ lo k := fun k => by
  induction k with
  | zero => intro _ i hi; have : i = 0 := by omega
            subst this; exact Nat.le_refl _
  | succ k ih =>
    intro hk i hi
    rcases Nat.lt_or_ge i (k + 1) with h | h
    · exact Nat.le_trans (ih (by omega) i (by omega)) (h5 k (by omega))
    · have : i = k + 1 := by omega
      subst this; exact Nat.le_refl _
/-- What is not within the copy's blocks may change. -/
theorem CopyT.far {eN eI eV : TypeId} {base top : Nat} {w w' : World} {v : Value} {l : List Nd} (h : CopyT eN eI eV base top w v l) (hk : ∀ b, base ≤ b → b < top → w'.heap[b]? = w.heap[b]?) (hs : w.heap.size ≤ w'.heap.size) : CopyT eN eI eV base top w' v l := by
  obtain ⟨cs, lo, h1, h2, h3, h4, h5, h6, h7, h8⟩ := h
  have hm := lo_mono h5
  refine ⟨cs, lo, h1, ownsRow_block h2 (fun b hb => hk b (h2.lt b hb).1 ?_), h3, h4, h5, h6, Nat.le_trans h7 hs, fun i hi hc => (h8 i hi hc).far (fun b hb1 hb2 => hk b ?_ ?_)⟩
  · have := h3 b hb; have := hm l.length (Nat.le_refl _) 0 (by omega); omega
  · have := hm i (by omega) 0 (by omega); omega
  · have := hm l.length (Nat.le_refl _) (i + 1) (by omega); omega
theorem CopyT.ext {eN eI eV : TypeId} {base top : Nat} {w w' : World} {v : Value} {l : List Nd} (h : CopyT eN eI eV base top w v l) (hE : Ext w w') : CopyT eN eI eV base top w' v l := by
  have ht : top ≤ w.heap.size := by obtain ⟨_, _, _, _, _, _, _, _, h7, _⟩ := h; exact h7
  exact h.far (fun b _ hb => hE.block b (by omega)) hE.size
theorem CopyT.row {eN eI eV : TypeId} {base top : Nat} {w : World} {v : Value} {l : List Nd} (h : CopyT eN eI eV base top w v l) : ndE.Row w l v := by
  obtain ⟨cs, lo, h1, h2, h3, h4, h5, h6, h7, h8⟩ := h
  exact ndRow_parts h1 h2 (fun i hi hc => ⟨(h8 i hi hc).cells, (h8 i hi hc).v⟩)
theorem CopyT.slice {eN eI eV : TypeId} {base top : Nat} {w : World} {v : Value} {l : List Nd} (h : CopyT eN eI eV base top w v l) : (l = [] ∧ v = .slice none 0 0) ∨ ∃ g c, v = .slice (some ⟨g, 0, none⟩) l.length c ∧ l.length ≤ c ∧ base ≤ g ∧ g < top := by
  obtain ⟨cs, lo, h1, h2, h3, h4, h5, h6, h7, h8⟩ := h
  rcases h2.2 with ⟨e, e2⟩ | ⟨g, cap, cur, e, hb, hg, hl, _⟩
  · exact .inl ⟨List.eq_nil_of_length_eq_zero e2, e⟩
  · subst e
    exact .inr ⟨g, cap, rfl, hl, (h2.lt g rfl).1, by have := h3 g rfl; have := lo_mono h5 l.length (Nat.le_refl _) 0 (by omega); omega⟩
/-- The slices of a node within a window. -/
theorem NdW.open {eI eV : TypeId} {p q : Nat} {w : World} {n : Nd} {C : List Value} (h : NdW eI eV p q w n C) {O : Nat → Prop} {g P : Nat} (hO : ∀ b, p ≤ b → b < q → O b ∧ b ≠ g ∧ b ≠ P) : OpenSl O w g P 1 (C.getD 6 .nilFunc) ∧ OpenSl O w g P 4 (C.getD 15 .nilFunc) := by
  obtain ⟨a, m, c, k, N, S, d, F, rfl, h1, h2, h3, h4, h5⟩ := h
  refine ⟨OpenSl.own (show w.ownsRow p eI 1 (.slice a m c) n.after.length (n.after.map (Value.int .i64)) from h1) (fun b hb => hO b (World.ownsRow.lt h1 b hb).1 (h2 b hb).1), ?_⟩
  obtain ⟨kk, nn, ss, ll, hv⟩ : ∃ kk nn ss ll, n.val = .node kk nn ss ll := by cases h : n.val with | node k n s l => exact ⟨k, n, s, l, rfl⟩
  rw [hv] at h3
  obtain ⟨d', e, -, -, C, G, hrow, hch, hF, -⟩ := h3.parts
  injection e with e
  injection e with e
  simp only [List.cons.injEq, and_true] at e
  obtain ⟨-, -, -, rfl⟩ := e
  exact OpenSl.own hrow (fun b hb => hO b (hrow.lt b hb).1 (h4 b ((hF b).2 (.inl hb))))
/-- One cell of a node of a copy is written. -/
theorem CopyT.put {eN eI eV : TypeId} {base top g cap i : Nat} {w : World} {l : List Nd} (h : CopyT eN eI eV base top w (.slice (some ⟨g, 0, none⟩) l.length cap) l) (hi : i < l.length) (j : Nat) (hj : j < 16) (u : Value) (n' : Nd)
    (hN : ∀ p q C, NdW eI eV p q w l[i] C → NdW eI eV p q w n' (C.set j u)) : CopyT eN eI eV base top (w.setCell ⟨g, i * 16 + j, none⟩ u) (.slice (some ⟨g, 0, none⟩) l.length cap) (l.set i n') ∧ w.grownBy (w.setCell ⟨g, i * 16 + j, none⟩ u) (some g) := by
  obtain ⟨cs, lo, h1, h2, h3, h4, h5, h6, h7, h8⟩ := h
  have hm := lo_mono h5
  have h16 : ∀ C, C ∈ cs → C.length = 16 := fun C hC => by
    obtain ⟨k, hk, rfl⟩ := List.getElem_of_mem hC
    exact (h8 k (by omega) hk).cells
  have hic : i < cs.length := by omega
  have st := h2.stored (i * 16 + j) u
  have hg0 := h3 g rfl
  rw [flat16_set cs i j u hic h16 hj] at st
  refine ⟨⟨cs.set i (cs[i].set j u), lo, by simp [h1], by rw [List.length_set]; exact st.1, h3, h4, by rw [List.length_set]; exact h5, by rw [List.length_set]; exact h6, Nat.le_trans h7 st.2.size, fun k hk hkc => ?_⟩, st.2⟩
  have hkl : k < l.length := by simpa using hk
  have hkc' : k < cs.length := by simpa using hkc
  have key : NdW eI eV (lo k) (lo (k + 1)) w (l.set i n')[k] (cs.set i (cs[i].set j u))[k] := by
    by_cases e : i = k
    · subst e
      rw [List.getElem_set_self, List.getElem_set_self]
      exact hN _ _ _ (h8 i hi hic)
    · rw [List.getElem_set_ne e, List.getElem_set_ne e]
      exact h8 k hkl hkc'
  refine key.far (fun b hb1 hb2 => st.2.block b ?_ (fun e => ?_))
  · have := hm l.length (Nat.le_refl _) (k + 1) (by omega); omega
  · injection e with e
    have := hm k (by omega) 0 (by omega)
    omega
/-- The node's cells. -/
theorem CopyT.at {eN eI eV : TypeId} {base top g cap i : Nat} {w : World} {l : List Nd} (h : CopyT eN eI eV base top w (.slice (some ⟨g, 0, none⟩) l.length cap) l) (hi : i < l.length) :
    ∃ (a : Option Addr) (m c : Nat) (k N s d : Value), NdV w l[i] (.agg (ndCells l[i] (.slice a m c) k N s d).toArray) ∧ (∀ j u, (ndCells l[i] (.slice a m c) k N s d)[j]? = some u → w.cell? ⟨g, i * 16 + j, none⟩ = some u) ∧ (∀ j, w.frozen? ⟨g, j, none⟩ = false) ∧ base ≤ g ∧ g < top ∧ g < w.heap.size ∧
      OwnN eI base w (.slice a m c) l[i].after ∧ (∀ b, (Value.slice a m c).ownBlock = some b → b < top ∧ b ≠ g) ∧
      ∀ (O : Nat → Prop) (p : Nat) (w2 : World) (v' : Value) (n' : Nd), (∀ b, base ≤ b → b < top → O b ∧ b ≠ p) → w.grownBy w2 (Value.slice a m c).ownBlock → OwnN eI base w2 v' n'.after → (∀ b, v'.ownBlock = some b → O b ∧ b ≠ g ∧ b ≠ p) →
        ndCells n' v' k N s d = (ndCells l[i] (.slice a m c) k N s d).set 6 v' → n'.val = l[i].val → ndWf n' → (∃ a' m' c', v' = .slice a' m' c') →
        w2.cell? ⟨g, i * 16 + 6, none⟩ = some (.slice a m c) ∧ w2.frozen? ⟨g, i * 16 + 6, none⟩ = false ∧ RigN eN O p (w2.setCell ⟨g, i * 16 + 6, none⟩ v') (.slice (some ⟨g, 0, none⟩) l.length cap) (l.set i n') ∧ w2.grownBy (w2.setCell ⟨g, i * 16 + 6, none⟩ v') (some g) := by
  obtain ⟨cs, lo, h1, h2, h3, h4, h5, h6, h7, h8⟩ := h
  have hm := lo_mono h5
  have h16 : ∀ C, C ∈ cs → C.length = 16 := fun C hC => by
    obtain ⟨k, hk, rfl⟩ := List.getElem_of_mem hC
    exact (h8 k (by omega) hk).cells
  have hic : i < cs.length := by omega
  have hg0 := h3 g rfl
  have hgt : g < top := by have := hm l.length (Nat.le_refl _) 0 (by omega); omega
  have hv := (h8 i hi hic).v
  obtain ⟨a, m, c, k, N, S, d, F, eC, k1, k2, k3, k4, k5⟩ := h8 i hi hic
  have hfl := flat16_all cs h16
  have l1 := hm i (by omega) 0 (by omega)
  have l2 := hm l.length (Nat.le_refl _) (i + 1) (by omega)
  have hblk : ∀ b, (Value.slice a m c).ownBlock = some b → lo i ≤ b ∧ b < lo (i + 1) := fun b hb => ⟨(World.ownsRow.lt k1 b hb).1, (k2 b hb).1⟩
  have hcell : ∀ w2 : World, w2.ownsRow base eN 16 (.slice (some ⟨g, 0, none⟩) l.length cap) l.length cs.flatten → ∀ j u, (ndCells l[i] (.slice a m c) k N S d)[j]? = some u → w2.cell? ⟨g, i * 16 + j, none⟩ = some u := fun w2 hr j u hu => by
    have hj : j < 16 := (List.getElem?_eq_some_iff.1 hu).1
    rw [hr.cellAt _ (by omega), flat16 cs i j hic h16 hj, eC]
    exact hu
  rw [eC] at hv
  refine ⟨a, m, c, k, N, S, d, hv, hcell w h2, fun j => h2.frozenAt _, (h2.lt g rfl).1, hgt, (h2.lt g rfl).2, ownsRow_mono k1 (by omega), fun b hb => ⟨by have := hblk b hb; omega, by have := hblk b hb; omega⟩, ?_⟩
  intro O p w2 v' n' hO hg hown hv' hcs hval hwf hsl
  have r2 : w2.ownsRow base eN 16 (.slice (some ⟨g, 0, none⟩) l.length cap) l.length cs.flatten := by
    refine ownsRow_block h2 (fun b hb => hg.block b (h2.lt b hb).2 (fun e => ?_))
    have := hblk b e.symm
    have := h3 b hb
    omega
  have st := r2.stored (i * 16 + 6) v'
  rw [flat16_set cs i 6 v' hic h16 (by omega)] at st
  refine ⟨hcell w2 r2 6 _ rfl, r2.frozenAt _, ⟨cs.set i (cs[i].set 6 v'), by simp [h1], ownsRow_mono (by rw [List.length_set]; exact st.1) (Nat.zero_le _), fun b hb => ?_, fun x hx hxc => ?_⟩, st.2⟩
  · obtain rfl : g = b := by injection hb
    exact hO g (h2.lt g rfl).1 hgt
  have hxl : x < l.length := by simpa using hx
  have hxc' : x < cs.length := by simpa using hxc
  by_cases e : i = x
  · subst e
    rw [List.getElem_set_self, List.getElem_set_self, eC, ← hcs]
    obtain ⟨w1, w3, w4, w5, w6, w7, w8, w9, w10, w11, w12⟩ := hwf
    obtain ⟨a', m', c', rfl⟩ := hsl
    have o2 : OwnN eI base (w2.setCell ⟨g, i * 16 + 6, none⟩ (.slice a' m' c')) (.slice a' m' c') n'.after := ownsRow_block hown (fun b hb => st.2.block b (World.ownsRow.lt hown b hb).2 (fun e => by injection e with e; exact (hv' b hb).2.1 e))
    have v2 : Owns eV (w2.setCell ⟨g, i * 16 + 6, none⟩ (.slice a' m' c')) (lo i) l[i].val (.agg #[k, N, S, d]) F := (k3.kept (fun b hb => hg.block b (k3.bounds b hb).2 (fun e => (k2 b e.symm).2 hb))).kept (fun b hb => st.2.block b (Nat.lt_of_lt_of_le (k3.bounds b hb).2 hg.size) (fun e => by injection e with e; have := (k3.bounds b hb).1; omega))
    refine ⟨rfl, ⟨a', m', c', k, N, S, d, rfl, o2.row w12, by rw [hval]; exact v2.lies, w1, w3, w4, w5, w6, w7, w8, w9, w10⟩, fun b hb => ?_⟩
    obtain rfl : g = b := by injection hb
    refine ⟨OpenSl.own (show World.ownsRow _ base eI 1 (.slice a' m' c') n'.after.length (n'.after.map (Value.int .i64)) from o2) hv', ?_⟩
    have nw : NdW eI eV (lo i) (lo (i + 1)) (w2.setCell ⟨g, i * 16 + 6, none⟩ (.slice a' m' c')) ⟨l[i].id, l[i].name, l[i].kind, l[i].flow, l[i].owner, l[i].place, [], l[i].width, l[i].quota, l[i].stand, l[i].fails, l[i].tok, l[i].val⟩ (ndCells l[i] (.slice none 0 0) k N S d) := by
      obtain ⟨y1, y2, y3, y4, y5, y6, y7, y8, y9, y10, y11⟩ := k5
      exact ⟨none, 0, 0, k, N, S, d, F, rfl, OwnN.nil _ _ _, fun b hb => by simp [Value.ownBlock] at hb, v2, k4, y1, y2, y3, y4, y5, y6, y7, y8, y9, y10, fun z hz => by cases hz⟩
    exact (nw.open (fun b hb1 hb2 => by
      obtain ⟨o1, o2⟩ := hO b (by omega) (by omega)
      exact ⟨o1, by omega, o2⟩)).2
  · rw [List.getElem_set_ne e, List.getElem_set_ne e]
    have m1 := hm x (by omega) 0 (by omega)
    have m2 := hm l.length (Nat.le_refl _) (x + 1) (by omega)
    have nw : NdW eI eV (lo x) (lo (x + 1)) (w2.setCell ⟨g, i * 16 + 6, none⟩ v') l[x] cs[x] := by
      refine ((h8 x hxl hxc').far (w' := w2) (fun b hb1 hb2 => hg.block b (by omega) (fun e2 => ?_))).far (fun b hb1 hb2 => st.2.block b (Nat.lt_of_lt_of_le (show b < w.heap.size by omega) hg.size) (fun e2 => ?_))
      · have := hblk b e2.symm
        rcases Nat.lt_or_ge i x with q | q
        · have := hm x (by omega) (i + 1) (by omega); omega
        · have := hm i (by omega) (x + 1) (by omega); omega
      · injection e2 with e2; omega
    refine ⟨nw.cells, nw.v, fun b hb => ?_⟩
    obtain rfl : g = b := by injection hb
    exact nw.open (fun b hb1 hb2 => by
      obtain ⟨o1, o2⟩ := hO b (by omega) (by omega)
      exact ⟨o1, by omega, o2⟩)
theorem CopyT.n {eN eI eV : TypeId} {base top : Nat} {w : World} {v : Value} {l : List Nd} (h : CopyT eN eI eV base top w v l) : CopyN eN eI eV base w v l := by
  obtain ⟨cs, lo, h1, h2, h3, h4, h5, h6, h7, h8⟩ := h
  exact ⟨cs, lo, h1, h2, h3, h4, h5, Nat.le_trans h6 h7, h8⟩
theorem CopyN.kept {eN eI eV : TypeId} {base : Nat} {w w' : World} {v : Value} {l : List Nd} {row : Option Nat} (h : CopyN eN eI eV base w v l) (hg : w.grownBy w' row) (hr : ∀ b, row = some b → b < base) : CopyN eN eI eV base w' v l :=
  (h.top.far (fun b hb1 hb2 => hg.block b hb2 (fun e => by have := hr b e.symm; omega)) hg.size).n
theorem CopyT.size {eN eI eV : TypeId} {base top : Nat} {w : World} {v : Value} {l : List Nd} (h : CopyT eN eI eV base top w v l) : top ≤ w.heap.size := by
  obtain ⟨_, _, _, _, _, _, _, _, h7, _⟩ := h; exact h7
theorem CopyT.block {eN eI eV : TypeId} {base top : Nat} {w : World} {v : Value} {l : List Nd} (h : CopyT eN eI eV base top w v l) (b : Nat) (hb : v.ownBlock = some b) : base ≤ b ∧ b < top := by
  obtain ⟨cs, lo, h1, h2, h3, h4, h5, h6, h7, h8⟩ := h
  have := lo_mono h5 l.length (Nat.le_refl _) 0 (by omega)
  have := h3 b hb
  exact ⟨(h2.lt b hb).1, by omega⟩
end Fm

/- Two copies of a state, and what is written over: plain facts. No program is imported. -/
namespace Fm
open Go Go.RowKit

/-- Two copies, each in blocks of its own, and their boxes. -/
structure Two (eN eI eV : TypeId) (w0 w : World) (u1 u2 : List Value) (l : List Nd) (b1 b2 : Nat) (v1 v2 : Value) (p1 q1 p2 q2 : Nat) : Prop where
  e : Ext w0 w
  x1 : BoxL w b1 u1
  x2 : BoxL w b2 u2
  c1 : CopyT eN eI eV p1 q1 w v1 l
  c2 : CopyT eN eI eV p2 q2 w v2 l
  n1 : w0.heap.size ≤ b1
  n2 : w0.heap.size ≤ b2
  ne : b1 ≠ b2
  lo : w0.heap.size ≤ p1
  mid : q1 ≤ p2
  f11 : b1 < p1 ∨ q1 ≤ b1
  f12 : b1 < p2 ∨ q2 ≤ b1
  f21 : b2 < p1 ∨ q1 ≤ b2
  f22 : b2 < p2 ∨ q2 ≤ b2
theorem Two.ext {eN eI eV : TypeId} {w0 w w' : World} {u1 u2 : List Value} {l : List Nd} {b1 b2 : Nat} {v1 v2 : Value} {p1 q1 p2 q2 : Nat} (h : Two eN eI eV w0 w u1 u2 l b1 b2 v1 v2 p1 q1 p2 q2) (hE : Ext w w') : Two eN eI eV w0 w' u1 u2 l b1 b2 v1 v2 p1 q1 p2 q2 :=
  ⟨h.e.trans hE, h.x1.ext hE, h.x2.ext hE, h.c1.ext hE, h.c2.ext hE, h.n1, h.n2, h.ne, h.lo, h.mid, h.f11, h.f12, h.f21, h.f22⟩
/-- What is open when the first of the two is changed: all that is new, but the second, and the boxes. -/
def OpT (w0 : World) (b1 b2 p2 q2 : Nat) (b : Nat) : Prop := w0.heap.size ≤ b ∧ (b < p2 ∨ q2 ≤ b) ∧ b ≠ b1 ∧ b ≠ b2
/-- Behind the first one's change: the second stands, and what is old. -/
structure Aft (eN eI eV : TypeId) (w0 w : World) (u2 : List Value) (l : List Nd) (b1 b2 : Nat) (v2 : Value) (p2 q2 : Nat) : Prop where
  e : Ext w0 w
  x2 : BoxL w b2 u2
  c2 : CopyT eN eI eV p2 q2 w v2 l
  n1 : w0.heap.size ≤ b1
  n2 : w0.heap.size ≤ b2
  ne : b1 ≠ b2
  f12 : b1 < p2 ∨ q2 ≤ b1
  lo : w0.heap.size ≤ p2
theorem Aft.ext {eN eI eV : TypeId} {w0 w w' : World} {u2 : List Value} {l : List Nd} {b1 b2 : Nat} {v2 : Value} {p2 q2 : Nat} (h : Aft eN eI eV w0 w u2 l b1 b2 v2 p2 q2) (hE : Ext w w') : Aft eN eI eV w0 w' u2 l b1 b2 v2 p2 q2 :=
  ⟨h.e.trans hE, h.x2.ext hE, h.c2.ext hE, h.n1, h.n2, h.ne, h.f12, h.lo⟩
theorem Aft.keep {eN eI eV : TypeId} {w0 w w' : World} {u2 : List Value} {l : List Nd} {b1 b2 : Nat} {v2 : Value} {p2 q2 : Nat} (h : Aft eN eI eV w0 w u2 l b1 b2 v2 p2 q2) {k j : Nat} {u : Value} (ho : OpT w0 b1 b2 p2 q2 k) (hw : w' = w.setCell ⟨k, j, none⟩ u) : Aft eN eI eV w0 w' u2 l b1 b2 v2 p2 q2 := by
  subst hw
  have hg := setOne_grown w k j u
  unfold OpT at ho
  have s2 := h.c2.size
  exact ⟨h.e.grown hg (fun x hx => by injection hx with hx; omega), h.x2.kept hg (fun e => by injection e with e; omega), h.c2.far (fun b q1 q2 => hg.block b (by omega) (fun e => by injection e with e; omega)) hg.size, h.n1, h.n2, h.ne, h.f12, h.lo⟩
/-- While the first one is written over. -/
structure Lp (eN eI eV : TypeId) (w0 w : World) (u1 u2 : List Value) (l : List Nd) (b1 b2 : Nat) (v2 : Value) (p2 q2 g cap : Nat) (cs : List (List Value)) : Prop where
  a : Aft eN eI eV w0 w u2 l b1 b2 v2 p2 q2
  x1 : BoxL w b1 u1
  r : w.ownsRow 0 eN 16 (.slice (some ⟨g, 0, none⟩) cs.length cap) cs.length cs.flatten
  s : ∀ (i : Nat) (hi : i < cs.length), cs[i].length = 16 ∧ OpenSl (OpT w0 b1 b2 p2 q2) w g b1 1 (cs[i].getD 6 .nilFunc) ∧ OpenSl (OpT w0 b1 b2 p2 q2) w g b1 4 (cs[i].getD 15 .nilFunc)
theorem Lp.set {eN eI eV : TypeId} {w0 w : World} {u1 u2 : List Value} {l : List Nd} {b1 b2 : Nat} {v2 : Value} {p2 q2 g cap : Nat} {cs : List (List Value)} (h : Lp eN eI eV w0 w u1 u2 l b1 b2 v2 p2 q2 g cap cs) {k : Nat} (ho : OpT w0 b1 b2 p2 q2 k) (hg : k ≠ g) (j : Nat) (u : Value) :
    Lp eN eI eV w0 (w.setCell ⟨k, j, none⟩ u) u1 u2 l b1 b2 v2 p2 q2 g cap cs := by
  have hgr := setOne_grown w k j u
  refine ⟨h.a.keep ho rfl, h.x1.kept hgr (fun e => by injection e with e; exact ho.2.2.1 e), ownsRow_block h.r (fun b hb => hgr.block b (h.r.lt b hb).2 (fun e => ?_)), fun i hi => ⟨(h.s i hi).1, (h.s i hi).2.1.set _ _ _, (h.s i hi).2.2.set _ _ _⟩⟩
  injection e with e
  have hb : g = b := by injection hb
  omega
theorem Lp.at {eN eI eV : TypeId} {w0 w : World} {u1 u2 : List Value} {l : List Nd} {b1 b2 : Nat} {v2 : Value} {p2 q2 g cap : Nat} {cs : List (List Value)} (h : Lp eN eI eV w0 w u1 u2 l b1 b2 v2 p2 q2 g cap cs) (i : Nat) (hi : i < cs.length) :
    w.cell? ⟨g, i * 16 + 6, none⟩ = some (cs[i].getD 6 .nilFunc) ∧ w.cell? ⟨g, i * 16 + 12 + 3, none⟩ = some (cs[i].getD 15 .nilFunc) := by
  have h16 : ∀ C, C ∈ cs → C.length = 16 := fun C hC => by
    obtain ⟨k, hk, rfl⟩ := List.getElem_of_mem hC
    exact (h.s k hk).1
  have hfl := flat16_all cs h16
  have hl := (h.s i hi).1
  refine ⟨?_, ?_⟩
  · rw [h.r.cellAt (i * 16 + 6) (by omega), flat16 cs i 6 hi h16 (by omega), List.getD_eq_getElem?_getD, List.getElem?_eq_getElem (by omega)]; rfl
  · show w.cell? ⟨g, i * 16 + 15, none⟩ = _
    rw [h.r.cellAt (i * 16 + 15) (by omega), flat16 cs i 15 hi h16 (by omega), List.getD_eq_getElem?_getD, List.getElem?_eq_getElem (by omega)]; rfl
end Fm

namespace Fm
open Go Go.RowKit

def setL : List Value → Nat → List Value → List Value
  | xs, _, [] => xs
  | xs, o, v :: vs => setL (xs.set o v) (o + 1) vs
theorem setL_get : ∀ (vs xs : List Value) (o p : Nat), o + vs.length ≤ xs.length → (setL xs o vs)[p]? = if o ≤ p ∧ p < o + vs.length then vs[p - o]? else xs[p]?
  | [], xs, o, p, _ => by rw [setL, if_neg (by rw [List.length_nil]; omega)]
  | v :: vs, xs, o, p, h => by
    rw [List.length_cons] at h
    rw [setL, setL_get vs (xs.set o v) (o + 1) p (by simp; omega)]
    by_cases h1 : p = o
    · subst h1
      rw [if_neg (by omega), if_pos (by simp), List.getElem?_set_self (by omega)]; simp
    · by_cases h2 : o + 1 ≤ p ∧ p < o + 1 + vs.length
      · rw [if_pos h2, if_pos (by simp; omega), show p - o = (p - (o + 1)) + 1 by omega, List.getElem?_cons_succ]
      · rw [if_neg h2, if_neg (by simp; omega), List.getElem?_set_ne (by omega)]
theorem setL_flat {cs : List (List Value)} {j : Nat} {C : List Value} (hj : j < cs.length) (h16 : ∀ D, D ∈ cs → D.length = 16) (hC : C.length = 16) : setL cs.flatten (j * 16) C = (cs.set j C).flatten := by
  have hl := flat16_all cs h16
  have h16' : ∀ D, D ∈ cs.set j C → D.length = 16 := fun D hD => by
    rcases List.mem_or_eq_of_mem_set hD with h | h
    · exact h16 D h
    · rw [h]; exact hC
  apply List.ext_getElem?
  intro p
  rw [setL_get C cs.flatten (j * 16) p (by rw [hl, hC]; omega), hC]
  by_cases hp : p < cs.length * 16
  · obtain ⟨i, k, hk, rfl⟩ : ∃ i k, k < 16 ∧ p = i * 16 + k := ⟨p / 16, p % 16, Nat.mod_lt _ (by omega), by omega⟩
    have hi : i < cs.length := by omega
    rw [flat16 (cs.set j C) i k (by simpa using hi) h16' hk]
    by_cases e : i = j
    · subst e
      rw [if_pos (by omega), List.getElem_set_self, show i * 16 + k - i * 16 = k by omega]
    · rw [if_neg (by omega), List.getElem_set_ne (fun h => e h.symm), flat16 cs i k hi h16 hk]
  · rw [if_neg (by omega), List.getElem?_eq_none (by rw [hl]; omega), List.getElem?_eq_none (by rw [flat16_all _ h16']; simp; omega)]
theorem ownsRow_setCells {base e size n g cap : Nat} : ∀ (vs : List Value) (o : Nat) (w : World) (xs : List Value), w.ownsRow base e size (.slice (some ⟨g, 0, none⟩) n cap) n xs →
    (w.setCells g o vs).ownsRow base e size (.slice (some ⟨g, 0, none⟩) n cap) n (setL xs o vs)
  | [], _, _, _, h => h
  | v :: vs, o, _, _, h => ownsRow_setCells vs (o + 1) _ _ (h.stored o v).1
/-- The first j nodes of a row of n are made, node i's slices from lo i on. -/
def MadeN (eN eI eV : TypeId) (base : Nat) (w : World) (v : Value) (n : Nat) (f : Nat → Nd) (j : Nat) : Prop :=
  ∃ (cs : List (List Value)) (lo : Nat → Nat), cs.length = n ∧ w.ownsRow base eN 16 v n cs.flatten ∧ (∀ b, v.ownBlock = some b → b < lo 0) ∧ base ≤ lo 0 ∧ (∀ i, i < j → lo i ≤ lo (i + 1)) ∧ lo j ≤ w.heap.size ∧
    (∀ C, C ∈ cs → C.length = 16) ∧ ∀ (i : Nat) (_ : i < n) (hc : i < cs.length), i < j → NdW eI eV (lo i) (lo (i + 1)) w (f i) cs[i]
theorem MadeN.ext {eN eI eV : TypeId} {base : Nat} {w w' : World} {v : Value} {n j : Nat} {f : Nat → Nd} (h : MadeN eN eI eV base w v n f j) (hE : Ext w w') : MadeN eN eI eV base w' v n f j := by
  obtain ⟨cs, lo, h1, h2, h3, h4, h5, h6, h7, h8⟩ := h
  have hmon := lo_mono h5
  refine ⟨cs, lo, h1, hE.own h2, h3, h4, h5, Nat.le_trans h6 hE.size, h7, fun i hi hc hij => (h8 i hi hc hij).far (fun b _ hb => ?_)⟩
  have := hmon j (Nat.le_refl _) (i + 1) (by omega)
  exact (hE.grownBy).block b (by omega) (by simp)
theorem MadeN.lt {eN eI eV : TypeId} {base : Nat} {w : World} {n j g cap : Nat} {f : Nat → Nd} (h : MadeN eN eI eV base w (.slice (some ⟨g, 0, none⟩) n cap) n f j) : base ≤ g ∧ g < w.heap.size := by
  obtain ⟨cs, lo, h1, h2, -⟩ := h
  exact World.ownsRow.lt h2 g rfl
theorem MadeN.there {eN eI eV : TypeId} {base : Nat} {w : World} {n j g cap : Nat} {f : Nat → Nd} (h : MadeN eN eI eV base w (.slice (some ⟨g, 0, none⟩) n cap) n f j) {k : Nat} (hk : k < n) : w.there g (k * 16) 16 := by
  obtain ⟨cs, lo, h1, h2, -⟩ := h
  intro i hi
  have hl : cs.flatten.length = n * 16 := h2.1
  have hlt : k * 16 + i < cs.flatten.length := by omega
  refine ⟨?_, World.ownsRow.frozenAt h2 _⟩
  rw [World.ownsRow.cellAt h2 _ (by omega), List.getElem?_eq_getElem hlt]
  rfl
theorem MadeN.step {eN eI eV : TypeId} {wr w : World} {base : Nat} {n j g cap : Nat} {f : Nat → Nd} (h : MadeN eN eI eV base wr (.slice (some ⟨g, 0, none⟩) n cap) n f j) (hj : j < n) (hE : Ext wr w) {a : Option Addr} {m c : Nat} {k N s d : Value} {F : Nat → Prop}
    (hA : OwnN eI wr.heap.size w (.slice a m c) (f j).after) (hF : ∀ b, (Value.slice a m c).ownBlock = some b → ¬ F b) (hV : Owns eV w wr.heap.size (f j).val (.agg #[k, N, s, d]) F) (hwf : ndWf (f j)) :
    MadeN eN eI eV base (w.setCells g (j * 16) (ndCells (f j) (.slice a m c) k N s d)) (.slice (some ⟨g, 0, none⟩) n cap) n f (j + 1) := by
  have hg := setCells_grown g (ndCells (f j) (.slice a m c) k N s d) (j * 16) w
  obtain ⟨cs, lo, h1, h2, h3, h4, h5, h6, h7, h8⟩ := h
  have hmon := lo_mono h5
  have hgl : g < lo 0 := h3 g rfl
  have hjc : j < cs.length := by omega
  have hw := ownsRow_setCells (ndCells (f j) (.slice a m c) k N s d) (j * 16) w _ (hE.own h2)
  rw [setL_flat hjc h7 rfl] at hw
  have hlj := hmon j (Nat.le_refl _) 0 (by omega)
  generalize hW : w.setCells g (j * 16) (ndCells (f j) (.slice a m c) k N s d) = W at *
  refine ⟨cs.set j (ndCells (f j) (.slice a m c) k N s d), fun i => if i ≤ j then lo i else W.heap.size, by simp [h1], hw, ?_, ?_, fun i hi => ?_, ?_, fun C hC => ?_, fun i hi hc hij => ?_⟩
  · intro b hb; simpa using h3 b hb
  · simpa using h4
  · dsimp only
    rw [if_pos (by omega)]
    by_cases e : i + 1 ≤ j
    · rw [if_pos e]; exact h5 i (by omega)
    · rw [if_neg e]
      have : i = j := by omega
      subst this
      exact Nat.le_trans h6 (Nat.le_trans hE.size hg.size)
  · dsimp only; rw [if_neg (by omega)]; exact Nat.le_refl _
  · rcases List.mem_or_eq_of_mem_set hC with h | h
    · exact h7 C h
    · rw [h]; rfl
  · have hic : i < cs.length := by simpa using hc
    dsimp only
    rw [if_pos (by omega)]
    by_cases e : i = j
    · subst e
      rw [if_neg (by omega), List.getElem_set_self]
      refine ⟨a, m, c, k, N, s, d, F, rfl, ?_, fun b hb => ⟨?_, hF b hb⟩, ?_, fun b hb => ?_, hwf⟩
      · refine ownsRow_mono (ownsRow_block hA (fun b hb => hg.block b (World.ownsRow.lt hA b hb).2 (fun e => ?_))) h6
        have := (World.ownsRow.lt hA b hb).1
        injection e with e
        have := hE.size
        omega
      · exact Nat.lt_of_lt_of_le (World.ownsRow.lt hA b hb).2 hg.size
      · refine (hV.kept (fun b hb => hg.block b (hV.bounds b hb).2 (fun e => ?_))).mono h6
        have := (hV.bounds b hb).1
        injection e with e
        omega
      · exact Nat.lt_of_lt_of_le (hV.bounds b hb).2 hg.size
    · rw [if_pos (by omega), List.getElem_set_ne (fun h => e h.symm)]
      refine (h8 i hi hic (by omega)).far (fun b hb1 hb2 => ?_)
      have h9 := hmon j (Nat.le_refl _) (i + 1) (by omega)
      have h10 := hmon i (by omega) 0 (by omega)
      rw [hg.block b (by have := hE.size; omega) (fun e => by injection e with e; omega)]
      exact (hE.grownBy).block b (by omega) (by simp)
end Fm

namespace Fm
open Go Go.RowKit

theorem grown_row {a b c : World} {r r' : Option Nat} (h : a.grownBy b r) (k : b.grownBy c r') (hr : r' = r ∨ ∃ g, r' = some g ∧ a.heap.size ≤ g) : a.grownBy c r := by
  rcases hr with rfl | ⟨g, rfl, hg⟩
  · exact grown_trans h k
  · exact ⟨k.os.trans h.os, k.tape.trans h.tape, k.output.trans h.output, Nat.le_trans h.size k.size, fun b hb hne => (k.block b (Nat.lt_of_lt_of_le hb h.size) (fun e => by injection e with e; omega)).trans (h.block b hb hne)⟩
/-- A node's cells, whatever becomes of that block. -/
def FarNd (w : World) (row : Option Nat) (n : Nd) (C : List Value) : Prop := C.length = 16 ∧ (∀ u, u ∈ C → u.oneCell' = true) ∧ ∀ w', w.grownBy w' row → NdV w' n (.agg C.toArray)
theorem FarNd.then {w w' : World} {row row' : Option Nat} {n : Nd} {C : List Value} (h : FarNd w row n C) (hg : w.grownBy w' row) (hr : row' = row ∨ ∃ g, row' = some g ∧ w.heap.size ≤ g) : FarNd w' row' n C :=
  ⟨h.1, h.2.1, fun w'' hg' => h.2.2 w'' (grown_row hg hg' hr)⟩
theorem ndV_one {w : World} {n : Nd} {C : List Value} (h : NdV w n (.agg C.toArray)) : C.length = 16 ∧ ∀ u, u ∈ C → u.oneCell' = true := by
  obtain ⟨a, m, c, k, N, s, l, e, h1, h2, -⟩ := h
  injection e with e
  injection e with e
  subst e
  obtain ⟨t, ht⟩ : ∃ t, t = n.val := ⟨_, rfl⟩
  rw [← ht] at h2
  obtain ⟨kk, nn, ss, ls⟩ := t
  obtain ⟨d, hd, -, -, hls⟩ := h2.parts
  obtain ⟨av, capv, rfl, -⟩ := hls
  injection hd with hd
  injection hd with hd
  simp only [List.cons.injEq, and_true] at hd
  obtain ⟨rfl, rfl, rfl, rfl⟩ := hd
  refine ⟨rfl, fun u hu => ?_⟩
  simp only [ndCells, List.mem_cons, List.not_mem_nil, or_false] at hu
  rcases hu with rfl | rfl | rfl | rfl | rfl | rfl | rfl | rfl | rfl | rfl | rfl | rfl | rfl | rfl | rfl | rfl <;> rfl
theorem farNd_of {w : World} {row : Option Nat} {n : Nd} {C : List Value} (h : ∀ w', w.grownBy w' row → NdV w' n (.agg C.toArray)) : FarNd w row n C :=
  ⟨(ndV_one (h w (grown_ext (Ext.refl w) row))).1, (ndV_one (h w (grown_ext (Ext.refl w) row))).2, h⟩
/-- Nodes in a row of one's own. -/
def HeldN (eN : TypeId) (base : Nat) (w : World) (v : Value) (l : List Nd) : Prop :=
  ∃ cs : List (List Value), cs.length = l.length ∧ w.ownsRow base eN 16 v l.length cs.flatten ∧ ∀ (i : Nat) (hi : i < l.length) (hc : i < cs.length), FarNd w v.ownBlock l[i] cs[i]
theorem HeldN.row {eN : TypeId} {base : Nat} {w : World} {v : Value} {l : List Nd} (h : HeldN eN base w v l) : ndE.Row w l v := by
  obtain ⟨cs, h1, h2, h3⟩ := h
  exact ndRow_parts h1 h2 (fun i hi hc => ⟨(h3 i hi hc).1, (h3 i hi hc).2.2 w (grown_ext (Ext.refl w) _)⟩)
theorem HeldN.ext {eN : TypeId} {base : Nat} {w w' : World} {v : Value} {l : List Nd} (h : HeldN eN base w v l) (hE : Ext w w') : HeldN eN base w' v l := by
  obtain ⟨cs, h1, h2, h3⟩ := h
  exact ⟨cs, h1, hE.own h2, fun i hi hc => (h3 i hi hc).then (grown_ext hE _) (.inl rfl)⟩
theorem HeldN.mono {eN : TypeId} {base base' : Nat} {w : World} {v : Value} {l : List Nd} (h : HeldN eN base w v l) (hb : base' ≤ base) : HeldN eN base' w v l := by
  obtain ⟨cs, h1, h2, h3⟩ := h
  exact ⟨cs, h1, ownsRow_mono h2 hb, h3⟩
theorem HeldN.slice {eN : TypeId} {base : Nat} {w : World} {v : Value} {l : List Nd} (h : HeldN eN base w v l) : ∃ a c, v = .slice a l.length c := by
  obtain ⟨cs, h1, h2, h3⟩ := h
  rcases h2.2 with ⟨e1, e2⟩ | ⟨g, cap, cur, e1, _⟩
  · exact ⟨none, 0, by rw [e1, e2]⟩
  · exact ⟨_, _, e1⟩
theorem HeldN.lt {eN : TypeId} {base : Nat} {w : World} {v : Value} {l : List Nd} (h : HeldN eN base w v l) : ∀ k, v.ownBlock = some k → base ≤ k ∧ k < w.heap.size := by
  obtain ⟨cs, h1, h2, h3⟩ := h
  exact World.ownsRow.lt h2
theorem HeldN.nil (eN : TypeId) (base : Nat) (w : World) : HeldN eN base w (.slice none 0 0) [] := ⟨[], rfl, World.ownsRow_nil _ _ _ _, fun i hi => (by cases hi)⟩
/-- The cells of one node. -/
theorem HeldN.at {eN : TypeId} {base : Nat} {w : World} {g cap : Nat} {l : List Nd} (h : HeldN eN base w (.slice (some ⟨g, 0, none⟩) l.length cap) l) {i : Nat} (hi : i < l.length) :
    ∃ C : List Value, FarNd w (some g) l[i] C ∧ w.rangeAt g (i * 16) C ∧ w.there g (i * 16) 16 := by
  obtain ⟨cs, h1, h2, h3⟩ := h
  have hc : i < cs.length := by omega
  have h16 : ∀ D, D ∈ cs → D.length = 16 := fun D hD => by
    obtain ⟨j, hj, rfl⟩ := List.getElem_of_mem hD
    exact (h3 j (by omega) hj).1
  have hl : cs.flatten.length = l.length * 16 := h2.1
  have hcell : ∀ j, j < 16 → w.cell? ⟨g, i * 16 + j, none⟩ = cs[i][j]? := fun j hj => by
    rw [World.ownsRow.cellAt h2 _ (by omega), flat16 cs i j hc h16 hj]
  refine ⟨cs[i], h3 i hi hc, fun j v hv => ?_, fun j hj => ⟨?_, World.ownsRow.frozenAt h2 _⟩⟩
  · have hj : j < 16 := by
      have := (List.getElem?_eq_some_iff.1 hv).1
      have := (h3 i hi hc).1
      omega
    rw [hcell j hj]; exact hv
  · rw [hcell j hj, List.getElem?_eq_getElem (by have := (h3 i hi hc).1; omega)]; rfl
theorem HeldN.spot {eN : TypeId} {base : Nat} {w : World} {g cap : Nat} {l : List Nd} (h : HeldN eN base w (.slice (some ⟨g, 0, none⟩) l.length cap) l) {i : Nat} (hi : i < l.length) (j : Nat) (hj : j < 16) : (∃ u, w.cell? ⟨g, i * 16 + j, none⟩ = some u) ∧ w.frozen? ⟨g, i * 16 + j, none⟩ = false := by
  obtain ⟨C, -, -, h3⟩ := h.at hi
  obtain ⟨h4, h5⟩ := h3 j hj
  exact ⟨Option.isSome_iff_exists.1 h4, h5⟩
/-- One node is another one now. -/
theorem HeldN.upd {eN : TypeId} {base : Nat} {w W : World} {g cap : Nat} {l : List Nd} (h : HeldN eN base w (.slice (some ⟨g, 0, none⟩) l.length cap) l) {i : Nat} (hi : i < l.length) (n' : Nd) (f : List Value → List Value)
    (hW : ∀ cs : List (List Value), cs.length = l.length → (∀ D, D ∈ cs → D.length = 16) → ∀ hc : i < cs.length, w.ownsRow base eN 16 (.slice (some ⟨g, 0, none⟩) l.length cap) l.length cs.flatten → W.ownsRow base eN 16 (.slice (some ⟨g, 0, none⟩) l.length cap) l.length (cs.set i (f cs[i])).flatten)
    (hg : w.grownBy W (some g)) (hN : ∀ C, FarNd w (some g) l[i] C → FarNd W (some g) n' (f C)) : HeldN eN base W (.slice (some ⟨g, 0, none⟩) l.length cap) (l.set i n') := by
  obtain ⟨cs, h1, h2, h3⟩ := h
  have hc : i < cs.length := by omega
  have h16 : ∀ D, D ∈ cs → D.length = 16 := fun D hD => by
    obtain ⟨j, hj, rfl⟩ := List.getElem_of_mem hD
    exact (h3 j (by omega) hj).1
  refine ⟨cs.set i (f cs[i]), by simp [h1], by rw [List.length_set]; exact hW cs h1 h16 hc h2, fun j hj hd => ?_⟩
  have hj' : j < l.length := by simpa using hj
  have hd' : j < cs.length := by simpa using hd
  by_cases e : i = j
  · subst e
    rw [List.getElem_set_self, List.getElem_set_self]
    exact hN _ (h3 i hi hc)
  · rw [List.getElem_set_ne e, List.getElem_set_ne e]
    exact (h3 j hj' hd').then hg (.inl rfl)
theorem flat16_set1 {cs : List (List Value)} {i j : Nat} {u : Value} (hi : i < cs.length) (h16 : ∀ C, C ∈ cs → C.length = 16) (hj : j < 16) : cs.flatten.set (i * 16 + j) u = (cs.set i (cs[i].set j u)).flatten := flat16_set cs i j u hi h16 hj
/-- One cell of one node is written. -/
theorem HeldN.put {eN : TypeId} {base : Nat} {w : World} {g cap : Nat} {l : List Nd} (h : HeldN eN base w (.slice (some ⟨g, 0, none⟩) l.length cap) l) {i : Nat} (hi : i < l.length) (j : Nat) (hj : j < 16) (u : Value) (n' : Nd)
    (hN : ∀ (w' : World) (C : List Value), NdV w' (l[i]'hi) (.agg C.toArray) → NdV w' n' (.agg (C.set j u).toArray)) : HeldN eN base (w.setCell ⟨g, i * 16 + j, none⟩ u) (.slice (some ⟨g, 0, none⟩) l.length cap) (l.set i n') ∧ w.grownBy (w.setCell ⟨g, i * 16 + j, none⟩ u) (some g) := by
  have hg := setOne_grown w g (i * 16 + j) u
  refine ⟨h.upd hi n' (fun C => C.set j u) (fun cs _ h16 hc ho => ?_) hg (fun C hC => farNd_of (fun w' hw' => hN w' C (hC.2.2 w' (grown_trans hg hw')))), hg⟩
  rw [← flat16_set1 hc h16 hj]
  exact (ho.stored (i * 16 + j) u).1
/-- The cells that a copy's nodes have. -/
theorem CopyN.far {eN eI eV : TypeId} {base : Nat} {w : World} {v : Value} {l : List Nd} (h : CopyN eN eI eV base w v l) {row : Option Nat} (hr : ∀ b, row = some b → b < base) :
    ∃ ds : List (List Value), ds.length = l.length ∧ w.ownsRow base eN 16 v l.length ds.flatten ∧ ∀ (i : Nat) (hi : i < l.length) (hc : i < ds.length), FarNd w row l[i] ds[i] := by
  obtain ⟨cs, lo, h1, h2, h3, h4, h5, h6, h7⟩ := h
  have hmon := lo_mono h5
  refine ⟨cs, h1, h2, fun i hi hc => farNd_of (fun w' hw' => ((h7 i hi hc).far (fun b hb1 hb2 => hw'.block b ?_ (fun e => ?_))).v)⟩
  · have := hmon l.length (Nat.le_refl _) (i + 1) (by omega)
    omega
  · have := hr b e.symm
    have := hmon i (by omega) 0 (by omega)
    omega
/-- A row of nodes of one's own as what is appended. -/
theorem _root_.Go.Src.nodes {P : Program} {tx e' : TypeId} (hk : P.underlying tx = some (.slice e')) {w : World} {base n : Nat} {eN : TypeId} {v : Value} {ds : List (List Value)} (h : w.ownsRow base eN 16 v n ds.flatten) (h1 : ∀ D, D ∈ ds → ∀ u, u ∈ D → u.oneCell' = true) : Src P 16 tx v n ds.flatten w := by
  have hone : ∀ u, u ∈ ds.flatten → u.oneCell' = true := fun u hu => by
    obtain ⟨D, hD, hu⟩ := List.mem_flatten.1 hu
    exact h1 D hD u hu
  have hc := fun g => World.ownsRow.cells h (g := g)
  have hl := h.1
  rcases h.2 with ⟨rfl, rfl⟩ | ⟨g, cap, cur, rfl, -⟩
  · have : ds.flatten = [] := List.eq_nil_of_length_eq_zero (by omega)
    rw [this]
    exact Src.ofNil w hk 0
  · exact Src.ofSlice w hk _ _ _ _ hl (fun j u hu => hc g rfl j u hu) hone
/-! ### one field of a node -/
end Fm

namespace Fm
open Go Go.RowKit

/-- Nodes in a row of one's own, what they hold was there ahead. -/
def OldN (eN : TypeId) (w0 : World) (base : Nat) (w : World) (v : Value) (l : List Nd) : Prop :=
  ∃ cs : List (List Value), cs.length = l.length ∧ w.ownsRow base eN 16 v l.length cs.flatten ∧ ∀ (i : Nat) (hi : i < l.length) (hc : i < cs.length), ∀ W, Ext w0 W → NdV W l[i] (.agg cs[i].toArray)
theorem OldN.nil (eN : TypeId) (w0 : World) (base : Nat) (w : World) : OldN eN w0 base w (.slice none 0 0) [] := ⟨[], rfl, World.ownsRow_nil _ _ _ _, fun i hi => (by cases hi)⟩
theorem OldN.kept {eN : TypeId} {w0 w w' : World} {base : Nat} {v : Value} {l : List Nd} {row : Option Nat} (h : OldN eN w0 base w v l) (hg : w.grownBy w' row) (hr : ∀ b, v.ownBlock = some b → row ≠ some b) : OldN eN w0 base w' v l := by
  obtain ⟨cs, h1, h2, h3⟩ := h
  refine ⟨cs, h1, h2.kept hg ?_, h3⟩
  cases e : v.ownBlock with
  | none => exact .inl rfl
  | some b => exact .inr (fun h => hr b e h.symm)
theorem OldN.ext {eN : TypeId} {w0 w w' : World} {base : Nat} {v : Value} {l : List Nd} (h : OldN eN w0 base w v l) (hE : Ext w w') : OldN eN w0 base w' v l := h.kept hE.grownBy (fun b _ e => by cases e)
theorem OldN.held {eN : TypeId} {w0 w : World} {base : Nat} {v : Value} {l : List Nd} (h : OldN eN w0 base w v l) (hE : Ext w0 w) (hb : w0.heap.size ≤ base) : HeldN eN base w v l := by
  obtain ⟨cs, h1, h2, h3⟩ := h
  exact ⟨cs, h1, h2, fun i hi hc => farNd_of (fun w' hw' => h3 i hi hc w' (hE.grown hw' (fun k hk => by have := (World.ownsRow.lt h2 k hk).1; omega)))⟩
end Fm
namespace Fm
open Go Go.RowKit
/-- The nodes of a copy from the k-th on. -/
def TailN (eN eI eV : TypeId) (base : Nat) (w : World) (v : Value) (n : Nat) (f : Nat → Nd) (k : Nat) : Prop :=
  ∃ (cs : List (List Value)) (lo : Nat → Nat), cs.length = n ∧ w.ownsRow base eN 16 v n cs.flatten ∧ (∀ b, v.ownBlock = some b → b < lo k) ∧ base ≤ lo k ∧ (∀ i, k ≤ i → i < n → lo i ≤ lo (i + 1)) ∧ lo n ≤ w.heap.size ∧ (∀ C, C ∈ cs → C.length = 16) ∧
    ∀ (i : Nat) (_ : i < n) (hc : i < cs.length), k ≤ i → NdW eI eV (lo i) (lo (i + 1)) w (f i) cs[i]
theorem CopyN.tail {eN eI eV : TypeId} {base : Nat} {w : World} {v : Value} {n : Nat} {f : Nat → Nd} (h : CopyN eN eI eV base w v ((List.range n).map f)) : TailN eN eI eV base w v n f 0 := by
  obtain ⟨cs, lo, h1, h2, h3, h4, h5, h6, h7⟩ := h
  rw [List.length_map, List.length_range] at h1 h2 h5 h6
  have h8 : ∀ (i : Nat) (_ : i < n) (hc : i < cs.length), NdW eI eV (lo i) (lo (i + 1)) w (f i) cs[i] := fun i hi hc => by
    have := h7 i (by simpa using hi) hc
    simpa using this
  exact ⟨cs, lo, h1, h2, h3, h4, fun i _ hi => h5 i hi, h6, fun C hC => by
    obtain ⟨i, hi, rfl⟩ := List.getElem_of_mem hC
    exact (h8 i (by omega) hi).cells, fun i hi hc _ => h8 i hi hc⟩
theorem lo_le {n k : Nat} {lo : Nat → Nat} (h5 : ∀ i, k ≤ i → i < n → lo i ≤ lo (i + 1)) : ∀ j, k ≤ j → j ≤ n → lo j ≤ lo n ∧ lo k ≤ lo j := by
  have up : ∀ d j, j + d ≤ n → k ≤ j → lo j ≤ lo (j + d) := fun d => by
    induction d with
    | zero => intro j _ _; exact Nat.le_refl _
    | succ d ih => intro j h1 h2; exact Nat.le_trans (ih j (by omega) h2) (h5 (j + d) (by omega) (by omega))
  intro j h1 h2
  have a := up (n - j) j (by omega) h1
  have b := up (j - k) k (by omega) (Nat.le_refl _)
  rw [show j + (n - j) = n by omega] at a
  rw [show k + (j - k) = j by omega] at b
  exact ⟨a, b⟩
theorem TailN.ext {eN eI eV : TypeId} {base : Nat} {w w' : World} {v : Value} {n k : Nat} {f : Nat → Nd} (h : TailN eN eI eV base w v n f k) (hE : Ext w w') : TailN eN eI eV base w' v n f k := by
  obtain ⟨cs, lo, h1, h2, h3, h4, h5, h6, h7, h8⟩ := h
  refine ⟨cs, lo, h1, hE.own h2, h3, h4, h5, Nat.le_trans h6 hE.size, h7, fun i hi hc hk => (h8 i hi hc hk).far (fun b _ hb => ?_)⟩
  have := (lo_le h5 (i + 1) (by omega) (by omega)).1
  exact hE.grownBy.block b (by omega) (by simp)
theorem TailN.at {eN eI eV : TypeId} {base : Nat} {w : World} {g cap n k : Nat} {f : Nat → Nd} (h : TailN eN eI eV base w (.slice (some ⟨g, 0, none⟩) n cap) n f k) (hk : k < n) :
    ∃ (C : List Value) (p q : Nat), NdW eI eV p q w (f k) C ∧ w.rangeAt g (k * 16) C ∧ base ≤ p ∧ p ≤ q ∧ q ≤ w.heap.size ∧ g < p ∧ base ≤ g ∧
      ∀ w', w.heap.size ≤ w'.heap.size → (∀ b, b < w.heap.size → ¬ (p ≤ b ∧ b < q) → w'.heap[b]? = w.heap[b]?) → TailN eN eI eV base w' (.slice (some ⟨g, 0, none⟩) n cap) n f (k + 1) := by
  obtain ⟨cs, lo, h1, h2, h3, h4, h5, h6, h7, h8⟩ := h
  have hle := lo_le h5
  have hc : k < cs.length := by omega
  have hg := h3 g rfl
  have hl : cs.flatten.length = n * 16 := h2.1
  have q1 := hle (k + 1) (by omega) (by omega)
  refine ⟨cs[k], lo k, lo (k + 1), h8 k hk hc (Nat.le_refl _), fun j v hv => ?_, h4, h5 k (Nat.le_refl _) hk, by omega, hg, (World.ownsRow.lt h2 g rfl).1, fun w' hs hw' => ?_⟩
  · have hj : j < 16 := by
      have := (List.getElem?_eq_some_iff.1 hv).1
      have := h7 cs[k] (List.getElem_mem hc)
      omega
    rw [World.ownsRow.cellAt h2 _ (by omega), flat16 cs k j hc h7 hj]; exact hv
  · have hgw := (World.ownsRow.lt h2 g rfl).2
    refine ⟨cs, lo, h1, ownsRow_block h2 (fun b hb => hw' b (World.ownsRow.lt h2 b hb).2 (fun hh => ?_)), fun b hb => ?_, by omega, fun i hi hin => h5 i (by omega) hin, by omega, h7, fun i hi hci hki => (h8 i hi hci (by omega)).far (fun b hb1 hb2 => hw' b ?_ (fun hh => ?_))⟩
    · have : b = g := by simpa [Value.ownBlock] using hb.symm
      omega
    · have : b = g := by simpa [Value.ownBlock] using hb.symm
      have := h5 k (Nat.le_refl _) hk
      omega
    · have := (hle (i + 1) (by omega) (by omega)).1
      omega
    · have q2 := lo_le (k := k + 1) (n := n) (lo := lo) (fun i hi hin => h5 i (by omega) hin) i (by omega) (by omega)
      omega
end Fm

namespace Fm
open Go Go.RowKit

/-- One node more. -/
def ndFl (f o : Int) : Nd := ⟨[], [], 0, f, o, 0, [], 0, 0, 0, 0, 0, zT⟩
theorem rightO_snoc {l : List Nd} {n : Nd} (h : RightO l) (h1 : -1 ≤ n.owner) (h2 : n.owner < (l.length : Int)) (h3 : ∀ j : Nat, n.owner = (j : Int) → ∀ hj : j < l.length, l[j].flow = n.flow) : RightO (l ++ [n]) := by
  intro i hi
  by_cases hil : i < l.length
  · rw [List.getElem_append_left hil]
    obtain ⟨a, b, c⟩ := h i hil
    refine ⟨a, b, fun j hj hjl => ?_⟩
    have : j < l.length := by omega
    rw [List.getElem_append_left this]
    exact c j hj this
  · have hie : i = l.length := by rw [List.length_append, List.length_singleton] at hi; omega
    subst hie
    have e : (l ++ [n])[l.length] = n := by simp
    rw [e]
    refine ⟨h1, h2, fun j hj hjl => ?_⟩
    have : j < l.length := by omega
    rw [List.getElem_append_left this]
    exact h3 j hj this
end Fm

namespace Fm
open Go Go.RowKit

/-- Numbers that stay, whatever becomes of that block. -/
def FarI (w : World) (row : Option Nat) (l : List Int) (v : Value) : Prop := ∀ w', w.grownBy w' row → intE.Row w' l v
theorem FarI.row {w : World} {row : Option Nat} {l : List Int} {v : Value} (h : FarI w row l v) : intE.Row w l v := h w (grown_ext (Ext.refl w) row)
theorem FarI.then {w w' : World} {row row' : Option Nat} {l : List Int} {v : Value} (h : FarI w row l v) (hg : w.grownBy w' row) (hr : row' = row ∨ ∃ g, row' = some g ∧ w.heap.size ≤ g) : FarI w' row' l v := fun w'' hg' => h w'' (grown_row hg hg' hr)
theorem FarI.ext {w w' : World} {row : Option Nat} {l : List Int} {v : Value} (h : FarI w row l v) (hE : Ext w w') : FarI w' row l v := h.then (grown_ext hE row) (.inl rfl)
end Fm
namespace Fm
open Go Go.RowKit
/-! ### instances done one by one -/
end Fm
namespace Fm
open Go Go.RowKit
end Fm

open Go.RowKit Go.Shelf
namespace Fm
open Go Go.RowKit
def flC (f o : Int) : List Value := [.string { data := #[] }, .string { data := #[] }, .int .u8 0, .int .i64 f, .int .i64 o, .int .i64 0, .slice none 0 0, .int .i64 0, .int .i64 0, .int .u8 0, .int .i64 0, .int .i64 0, .int .u8 0, .int .i64 0, .string { data := #[] }, .slice none 0 0]
theorem zT_liesF (W : World) : Lies W zT (.agg #[.int .u8 0, .int .i64 0, .string { data := #[] }, .slice none 0 0]) := (OwnT.mk (e := 0) (base := 0) (n := 0) (k := 0) (s := []) (by unfold isI64; omega) (by simp) (OwnL.nil _ _ _)).lies
theorem ndFl_v {f o : Int} (hf : isI64 f) (ho : isI64 o) (W : World) : NdV W (ndFl f o) (.agg (flC f o).toArray) := by
  have z : isI64 0 := by unfold isI64; omega
  exact ⟨none, 0, 0, .int .u8 0, .int .i64 0, .string { data := #[] }, .slice none 0 0, rfl, Elem.Row.void _ _ _, zT_liesF W, by simp [ndFl], by simp [ndFl], hf, ho, z, z, z, z, z⟩
end Fm
namespace Go.Proofs.YtgclfmdpapadnaaDoor
open Go Go.Proofs Fm
attribute [local go_sem] Oper.semAt_some

end Go.Proofs.YtgclfmdpapadnaaDoor

open Go.RowKit Go.Shelf
namespace Go.Proofs.YtgclfmdpapadnaaDoor
open Go Go.Proofs Fm

end Go.Proofs.YtgclfmdpapadnaaDoor

/- Walks: Right, Bytes. -/
open Go.RowKit Go.Shelf
namespace Go.Proofs.YtgclfmdpapadnaaDoor
open Go Go.Proofs Fm

end Go.Proofs.YtgclfmdpapadnaaDoor

/- Walks: the reader's num and text. -/
open Go.RowKit Go.Shelf
namespace Go.Proofs.YtgclfmdpapadnaaDoor
open Go Go.Proofs Fm

/-- The reader in block R: what is left, and how much room. -/
structure RdAt (w0 w : World) (R : Nat) (v : Value) (xs : List UInt8) (m : Int) : Prop where
  ext : Ext w0 w
  old : w0.heap.size ≤ R
  lt : R < w.heap.size
  c0 : w.cell? ⟨R, 0, none⟩ = some v
  c1 : w.cell? ⟨R, 1, none⟩ = some (.int .i64 m)
  f0 : w.frozen? ⟨R, 0, none⟩ = false
  f1 : w.frozen? ⟨R, 1, none⟩ = false
  bytes : Bytes w0 v xs
theorem RdAt.kept {w0 w w' : World} {R : Nat} {v : Value} {xs : List UInt8} {m : Int} (h : RdAt w0 w R v xs m) {row : Option Nat} (hg : w.grownBy w' row) (hr : ∀ k, row = some k → w0.heap.size ≤ k ∧ k ≠ R) : RdAt w0 w' R v xs m := by
  have hne : some R ≠ row := fun e => (hr R e.symm).2 rfl
  exact ⟨h.ext.grown hg (fun k hk => (hr k hk).1), h.old, Nat.lt_of_lt_of_le h.lt hg.size, (hg.cell_far ⟨R, 0, none⟩ h.lt hne).trans h.c0, (hg.cell_far ⟨R, 1, none⟩ h.lt hne).trans h.c1,
    (hg.frozen_far ⟨R, 0, none⟩ h.lt hne).trans h.f0, (hg.frozen_far ⟨R, 1, none⟩ h.lt hne).trans h.f1, h.bytes⟩
theorem RdAt.then {w0 w w' : World} {R : Nat} {v : Value} {xs : List UInt8} {m : Int} (h : RdAt w0 w R v xs m) (hE : Ext w w') : RdAt w0 w' R v xs m := h.kept hE.grownBy (fun k hk => by cases hk)
end Go.Proofs.YtgclfmdpapadnaaDoor

/- Walks: the reader's value. -/
open Go.RowKit Go.Shelf
namespace Go.Proofs.YtgclfmdpapadnaaDoor
open Go Go.Proofs Fm

/-- A struct of four cells in a block of its own. -/
def Box4 (w : World) (b : Nat) (c0 c1 c2 c3 : Value) : Prop := w.heap[b]? = some (.cells #[c0, c1, c2, c3] 48 (0, 0))
theorem Box4.new (w : World) (c0 c1 c2 c3 : Value) : Box4 (w.alloc (.cells #[c0, c1, c2, c3] 48)) w.heap.size c0 c1 c2 c3 := heap_alloc_new w _
theorem Box4.lt {w : World} {b : Nat} {c0 c1 c2 c3 : Value} (h : Box4 w b c0 c1 c2 c3) : b < w.heap.size := (Array.getElem?_eq_some_iff.1 h).1
theorem Box4.kept {w w' : World} {b : Nat} {c0 c1 c2 c3 : Value} (h : Box4 w b c0 c1 c2 c3) {row : Option Nat} (hg : w.grownBy w' row) (hr : row ≠ some b) : Box4 w' b c0 c1 c2 c3 := (hg.block b h.lt (fun e => hr e.symm)).trans h
theorem Box4.ext {w w' : World} {b : Nat} {c0 c1 c2 c3 : Value} (h : Box4 w b c0 c1 c2 c3) (hE : Ext w w') : Box4 w' b c0 c1 c2 c3 := (hE.block b h.lt).trans h
theorem Box4.cells {w : World} {b : Nat} {c0 c1 c2 c3 : Value} (h : Box4 w b c0 c1 c2 c3) : w.cell? ⟨b, 0, none⟩ = some c0 ∧ w.cell? ⟨b, 1, none⟩ = some c1 ∧ w.cell? ⟨b, 2, none⟩ = some c2 ∧ w.cell? ⟨b, 3, none⟩ = some c3 := by
  unfold Box4 at h
  refine ⟨?_, ?_, ?_, ?_⟩ <;> simp [World.cell?, h]
theorem Box4.frozen {w : World} {b : Nat} {c0 c1 c2 c3 : Value} (h : Box4 w b c0 c1 c2 c3) : w.frozen? ⟨b, 0, none⟩ = false ∧ w.frozen? ⟨b, 1, none⟩ = false ∧ w.frozen? ⟨b, 2, none⟩ = false ∧ w.frozen? ⟨b, 3, none⟩ = false := by
  unfold Box4 at h
  refine ⟨?_, ?_, ?_, ?_⟩ <;> simp [World.frozen?, h]
end Go.Proofs.YtgclfmdpapadnaaDoor

open Go.RowKit Go.Shelf
namespace Go.Proofs.YtgclfmdpapadnaaDoor
open Go Go.Proofs Fm

theorem grown_row {a b c : World} {r1 row : Option Nat} (h : a.grownBy b r1) (k : b.grownBy c row) (hr : ∀ x, row = some x → a.heap.size ≤ x) : a.grownBy c r1 :=
  ⟨k.os.trans h.os, k.tape.trans h.tape, k.output.trans h.output, Nat.le_trans h.size k.size,
    fun i hi hne => (k.block i (Nat.lt_of_lt_of_le hi h.size) (fun e => by have := hr i e.symm; omega)).trans (h.block i hi hne)⟩
end Go.Proofs.YtgclfmdpapadnaaDoor

open Go.RowKit Go.Shelf
namespace Go.Proofs.YtgclfmdpapadnaaDoor
open Go Go.Proofs Fm

end Go.Proofs.YtgclfmdpapadnaaDoor

/- Walks: frag's reader: many texts. -/
open Go.RowKit Go.Shelf
namespace Go.Proofs.YtgclfmdpapadnaaDoor
open Go Go.Proofs Fm

end Go.Proofs.YtgclfmdpapadnaaDoor

/- Walks: frag's reader: an item. -/
open Go.RowKit Go.Shelf
namespace Go.Proofs.YtgclfmdpapadnaaDoor
open Go Go.Proofs Fm

theorem _root_.Fm.OwnS.far {e : TypeId} {base : Nat} {w : World} {v : Value} {l : List (List UInt8)} (h : OwnS e base w v l) {B : Nat} (hB : B < base) (j : Nat) (u : Value) : OwnS e base (w.setCell ⟨B, j, none⟩ u) v l :=
  h.kept (setOne_grown w B j u) (fun b hb e => by injection e with e; have := (h.block b hb).1; omega)
end Go.Proofs.YtgclfmdpapadnaaDoor

/- Walks: frag's reader: many items; Take, Parse. -/
open Go.RowKit Go.Shelf
namespace Go.Proofs.YtgclfmdpapadnaaDoor
open Go Go.Proofs Fm

theorem info_item : (Tryd.prog.info? 27).map (fun i => (i.zero, i.size, i.bytes)) = some (some (.agg #[.string { data := #[] }, .int .u8 0, .slice none 0 0, .string { data := #[] }, .int .i64 0, .int .i64 0]), 6, 80) := by kernel_rfl
theorem elem_item : ElemOf Tryd.prog 22 27 (.agg #[.string { data := #[] }, .int .u8 0, .slice none 0 0, .string { data := #[] }, .int .i64 0, .int .i64 0]) 6 80 := ⟨Tryd.underlying22, info_item, rfl, by decide⟩
end Go.Proofs.YtgclfmdpapadnaaDoor

open Go.RowKit Go.Shelf
namespace Go.Proofs.YtgclfmdpapadnaaDoor
open Go Go.Proofs Fm

theorem row_one_it (w : World) {x : It} {d : Value} {b : Nat} {e : TypeId} {fr : Nat × Nat} (hb : w.heap[b]? = some (.cells (itCells x d).toArray e fr)) (hd : strE.Row w x.after d) (hw : itWf x) : itE.Row w [x] (.slice (some ⟨b, 0, none⟩) 1 1) := by
  refine Elem.Row.mk rfl (by simp) (by simp [maxLen]) (Array.getElem?_eq_some_iff.1 hb).1 (fun i hi => ⟨fun j => (itCells x d).getD j .nilFunc, ?_, fun j hj => ?_⟩)
  · have : i = 0 := by simp at hi; omega
    subst this
    exact ⟨rfl, rfl, hd, rfl, rfl, rfl, hw⟩
  · have : i = 0 := by simp at hi; omega
    subst this
    have hj6 : j < 6 := hj
    simp only [World.cell?, hb]
    rw [Nat.zero_mul, Nat.zero_add, Nat.zero_add, List.getElem?_toArray, List.getD_eq_getElem?_getD, List.getElem?_eq_getElem (by simp [itCells]; omega)]
    rfl
theorem row_one_str (w : World) {s : List UInt8} {b : Nat} {e : TypeId} {fr : Nat × Nat} (hb : w.heap[b]? = some (.cells #[.string (str s)] e fr)) (hs : s.length ≤ 9223372036854775807) : strE.Row w [s] (.slice (some ⟨b, 0, none⟩) 1 1) := by
  refine Elem.Row.mk rfl (by simp) (by simp [maxLen]) (Array.getElem?_eq_some_iff.1 hb).1 (fun i hi => ⟨fun _ => .string (str s), ?_, fun j hj => ?_⟩)
  · have : i = 0 := by simp at hi; omega
    subst this
    exact ⟨rfl, hs⟩
  · have : i = 0 := by simp at hi; omega
    subst this
    have : j = 0 := by have hj1 : j < 1 := hj; omega
    subst this
    simp [World.cell?, hb]
end Go.Proofs.YtgclfmdpapadnaaDoor

open Go.RowKit Go.Shelf
namespace Fm
open Go Go.RowKit
def ckA : It := ⟨[97], 0, [], [], 0, 0⟩
def ckB : It := ⟨[98], 0, [[97]], [], 0, 0⟩
def ckM : It := ⟨[109], 1, [], [97], 2, 1⟩
def ckWide : It := ⟨[109], 1, [], [97], 5, 1⟩
def ckLost : It := ⟨[98], 0, [[99]], [], 0, 0⟩
def ckDeep : List Nd := [ndFl 0 (-1), ndFl 0 0, ndFl 0 1]
theorem ck_wf : itWf ckA ∧ itWf ckB ∧ itWf ckM ∧ itWf ckWide ∧ itWf ckLost := by
  refine ⟨?_, ?_, ?_, ?_, ?_⟩ <;> exact ⟨by decide, by decide, by unfold isI64 ; decide, by unfold isI64; decide⟩
theorem ck1 : checkF 3 4 [] (-1) 5 [ckA, ckB] = 0 := by decide +kernel
theorem ck3 : checkF 3 4 [] (-1) 5 [ckA, ckLost] = 21 := by decide +kernel
theorem ck5 : checkF 3 4 [] (-1) 5 [ckA, ckM] = 22 := by decide +kernel
theorem ck6 : checkF 3 4 [] (-1) 5 [ckA, ckA] = 20 := by decide +kernel
theorem ck7 : checkF 3 4 [] (-1) 5 [ckA, ckWide] = 24 := by decide +kernel
theorem ck8 : checkF 3 4 ckDeep 2 5 [ckA] = 23 := by decide +kernel
theorem rightO_nil : RightO [] := fun i hi => by cases hi
theorem ckDeep_right : RightO ckDeep := by
  have h1 : RightO [ndFl 0 (-1)] := @rightO_snoc [] (ndFl 0 (-1)) rightO_nil (by decide) (by decide) (fun j hj _ => by have : (-1 : Int) = (j : Int) := hj; omega)
  have h2 : RightO [ndFl 0 (-1), ndFl 0 0] := @rightO_snoc [ndFl 0 (-1)] (ndFl 0 0) h1 (by decide) (by decide) (fun j hj hl => by
    have : (0 : Int) = (j : Int) := hj
    obtain rfl : j = 0 := by omega
    rfl)
  exact @rightO_snoc [ndFl 0 (-1), ndFl 0 0] (ndFl 0 1) h2 (by decide) (by decide) (fun j hj hl => by
    have : (1 : Int) = (j : Int) := hj
    obtain rfl : j = 1 := by omega
    rfl)
theorem row_two_it (w : World) {x y : It} {d d' : Value} {b : Nat} {e : TypeId} {fr : Nat × Nat} (hb : w.heap[b]? = some (.cells (itCells x d ++ itCells y d').toArray e fr)) (hd : strE.Row w x.after d) (hd' : strE.Row w y.after d') (hw : itWf x) (hw' : itWf y) : itE.Row w [x, y] (.slice (some ⟨b, 0, none⟩) 2 2) := by
  refine Elem.Row.mk rfl (by simp) (by simp [maxLen]) (Array.getElem?_eq_some_iff.1 hb).1 (fun i hi => ⟨fun j => (itCells x d ++ itCells y d').getD (i * 6 + j) .nilFunc, ?_, fun j hj => ?_⟩)
  · have hi : i < 2 := hi
    rcases (by omega : i = 0 ∨ i = 1) with rfl | rfl
    · exact ⟨rfl, rfl, hd, rfl, rfl, rfl, hw⟩
    · exact ⟨rfl, rfl, hd', rfl, rfl, rfl, hw'⟩
  · have hi : i < 2 := hi
    have hj6 : j < 6 := hj
    simp only [World.cell?, hb]
    rw [show 0 + (i * itE.sz + j) = i * 6 + j by show 0 + (i * 6 + j) = _; omega, List.getElem?_toArray, List.getD_eq_getElem?_getD, List.getElem?_eq_getElem (by simp [itCells]; omega)]
    rfl
end Fm
namespace Go.Proofs.YtgclfmdpapadnaaDoor
open Go Go.Proofs Fm
attribute [local go_sem] Oper.semAt_some

theorem frag20 (l : List Nd) (items : List It) (hO : RightO l) (hl : l.length ≤ 1000000) (hi : items.length ≤ 1000) (ow k : Int) (hk : checkF 3 4 l ow 5 items = k) (X : World) (nv iv : Value) (hN : ndE.Row X l nv) (hI : itE.Row X items iv) :
    Calls Tryd.prog 14 #[.agg #[.int .i64 0, .int .i64 3, .int .i64 4, .int .i64 0, .int .i64 0], nv, .int .i64 ow, .int .i64 5, iv] X fun e w' => e = .returned (.int .i64 k) ∧ Ext X w' := by
  rw [← hk]
  exact cFrag_any l items hO hl hi 0 3 4 0 0 ow 5 X nv iv hN hI
theorem total20 (X : World) (iv : Value) (hI : itE.Row X [ckA, ckB] iv) : Calls Tryd.prog 11 #[iv] X fun e w' => e = .returned (.int .i64 2) ∧ Ext X w' :=
  ctotal_any [ckA, ckB] (fun x hx => by
    simp only [List.mem_cons, List.not_mem_nil, or_false] at hx
    rcases hx with rfl | rfl <;> exact ⟨⟨by decide, by decide⟩, by decide, by decide⟩) (by decide) X iv hI
theorem cost20 (X : World) (v : Value) (h : ItV X ckM v) : Calls Tryd.prog 10 #[v] X fun e w' => e = .returned (.int .i64 5) ∧ Ext X w' :=
  ccost_any ckM ⟨⟨by decide, by decide⟩, by decide, by decide⟩ X v h
theorem deepRow (W : World) : ndE.Row (W.alloc (.cells (flC 0 (-1) ++ flC 0 0 ++ flC 0 1).toArray 50)) ckDeep (.slice (some ⟨W.heap.size, 0, none⟩) 3 3) := by
  have z : ∀ k : Int, -1 ≤ k → k ≤ 1 → isI64 k := fun k h1 h2 => by unfold isI64; omega
  have ho := World.ownsRow_lit W (flC 0 (-1) ++ flC 0 0 ++ flC 0 1).toArray 3 (base := W.heap.size) (e := 50) (size := 16) (Nat.le_refl _) (by unfold maxLen; omega) rfl
  refine ndRow_parts (cs := [flC 0 (-1), flC 0 0, flC 0 1]) rfl (by simpa [ckDeep] using ho) (fun i hi hc => ?_)
  have hi : i < 3 := hi
  rcases (by omega : i = 0 ∨ i = 1 ∨ i = 2) with rfl | rfl | rfl
  · exact ⟨rfl, ndFl_v (z 0 (by omega) (by omega)) (z (-1) (by omega) (by omega)) _⟩
  · exact ⟨rfl, ndFl_v (z 0 (by omega) (by omega)) (z 0 (by omega) (by omega)) _⟩
  · exact ⟨rfl, ndFl_v (z 0 (by omega) (by omega)) (z 1 (by omega) (by omega)) _⟩

set_option maxRecDepth 100000 in
set_option maxHeartbeats 8000000 in
theorem awake20_any (w : World) : Calls Tryd.prog 9 #[] w fun e w' => e = .returned (.bool true) ∧ Ext w w' := by
  go_enter Tryd.func9, Tryd.ntmps9
  go_upto_region 2 with (fail)
  have bC := BoxL.new w [.int .i64 0, .int .i64 3, .int .i64 4, .int .i64 0, .int .i64 0] 32
  have e1 := (Ext.refl w).alloc (.cells #[.int .i64 0, .int .i64 3, .int .i64 4, .int .i64 0, .int .i64 0] 32)
  have z1 : w.heap.size < (w.alloc (.cells #[.int .i64 0, .int .i64 3, .int .i64 4, .int .i64 0, .int .i64 0] 32)).heap.size := by simp
  generalize w.alloc (.cells #[.int .i64 0, .int .i64 3, .int .i64 4, .int .i64 0, .int .i64 0] 32) = W1 at *
  go_upto_region 3 with (fail)
  obtain ⟨SB, hSB⟩ : ∃ SB, SB = W1.heap.size := ⟨_, rfl⟩
  rw [← hSB]
  have hS := heap_alloc_new W1 (.cells #[.string { data := #[97] }] 9)
  have e2 := (Ext.refl W1).alloc (.cells #[.string { data := #[97] }] 9)
  have z2 : (W1.alloc (.cells #[.string { data := #[97] }] 9)).heap.size = W1.heap.size + 1 := by simp
  rw [← hSB] at hS z2
  generalize W1.alloc (.cells #[.string { data := #[97] }] 9) = W2 at *
  have hSr : strE.Row W2 [[97]] (.slice (some ⟨SB, 0, none⟩) 1 1) := row_one_str W2 hS (by decide)
  have bA := BoxL.new W2 [.string { data := #[97] }, .int .u8 0, .slice none 0 0, .string { data := #[] }, .int .i64 0, .int .i64 0] 27
  have e3 := (Ext.refl W2).alloc (.cells #[.string { data := #[97] }, .int .u8 0, .slice none 0 0, .string { data := #[] }, .int .i64 0, .int .i64 0] 27)
  have z3 : (W2.alloc (.cells #[.string { data := #[97] }, .int .u8 0, .slice none 0 0, .string { data := #[] }, .int .i64 0, .int .i64 0] 27)).heap.size = SB + 1 + 1 := by simp [z2]
  rw [z2] at bA
  generalize W2.alloc (.cells #[.string { data := #[97] }, .int .u8 0, .slice none 0 0, .string { data := #[] }, .int .i64 0, .int .i64 0] 27) = W3 at *
  have bB := BoxL.new W3 [.string { data := #[98] }, .int .u8 0, .slice (some ⟨SB, 0, none⟩) 1 1, .string { data := #[] }, .int .i64 0, .int .i64 0] 27
  have e4 := (Ext.refl W3).alloc (.cells #[.string { data := #[98] }, .int .u8 0, .slice (some ⟨SB, 0, none⟩) 1 1, .string { data := #[] }, .int .i64 0, .int .i64 0] 27)
  rw [z3] at bB
  generalize W3.alloc (.cells #[.string { data := #[98] }, .int .u8 0, .slice (some ⟨SB, 0, none⟩) 1 1, .string { data := #[] }, .int .i64 0, .int .i64 0] 27) = W4 at *
  clear hSB z2 z3 hS z1
  have HS := Lib.hid ((hSr.ext e3).ext e4)
  have HC := Lib.hid (((bC.ext e2).ext e3).ext e4)
  have HA := Lib.hid (bA.ext e4)
  have HB := Lib.hid bB
  have HE4 := Lib.hid (((e1.trans e2).trans e3).trans e4)
  clear bA bB bC e1 e2 e3 e4 hSr
  go_upto_region 4 with (fail)
  have bM := BoxL.new W4 [.string { data := #[109] }, .int .u8 1, .slice none 0 0, .string { data := #[97] }, .int .i64 2, .int .i64 1] 27
  have e5 := (Ext.refl W4).alloc (.cells #[.string { data := #[109] }, .int .u8 1, .slice none 0 0, .string { data := #[97] }, .int .i64 2, .int .i64 1] 27)
  generalize W4.alloc (.cells #[.string { data := #[109] }, .int .u8 1, .slice none 0 0, .string { data := #[97] }, .int .i64 2, .int .i64 1] 27) = W5 at *
  have z5 : W4.heap.size < W5.heap.size := bM.1
  generalize W4.heap.size = BM at *
  have ⟨m0, m1, m2, m3, m4, m5⟩ := bM.six
  go_upto_region 5 with (fail)
  have bW := BoxL.new W5 [.string { data := #[109] }, .int .u8 1, .slice none 0 0, .string { data := #[97] }, .int .i64 2, .int .i64 1] 27
  have e6 := (Ext.refl W5).alloc (.cells #[.string { data := #[109] }, .int .u8 1, .slice none 0 0, .string { data := #[97] }, .int .i64 2, .int .i64 1] 27)
  have HM := Lib.hid (bM.ext e6)
  clear m0 m1 m2 m3 m4 m5 bM
  generalize W5.alloc (.cells #[.string { data := #[109] }, .int .u8 1, .slice none 0 0, .string { data := #[97] }, .int .i64 2, .int .i64 1] 27) = W6 at *
  generalize hBW : W5.heap.size = BW at *
  have w4 := bW.cell 4 _ rfl
  have w4' := bW.free 4
  go_upto_region 6 with (fail)
  have HW := Lib.hid (bW.set 4 (by simp) (.int .i64 5))
  have e7 : Ext W5 (W6.setCell ⟨BW, 4, none⟩ (.int .i64 5)) := e6.setCell (p := ⟨BW, 4, none⟩) (by show W5.heap.size ≤ BW; omega) _
  have HM := Lib.hid (HM.out.kept (setOne_grown W6 BW 4 (.int .i64 5)) (fun e => by injection e with e; omega))
  clear w4 w4' bW e6
  generalize W6.setCell ⟨BW, 4, none⟩ (.int .i64 5) = W7 at *
  have HB7 := Lib.hid (HB.out.ext (e5.trans e7))
  have ⟨x0, x1, x2, x3, x4, x5⟩ := HB7.out.six
  go_upto_region 7 with (fail)
  have bL := BoxL.new W7 [.string { data := #[98] }, .int .u8 0, .slice (some ⟨SB, 0, none⟩) 1 1, .string { data := #[] }, .int .i64 0, .int .i64 0] 27
  have e8 := (Ext.refl W7).alloc (.cells #[.string { data := #[98] }, .int .u8 0, .slice (some ⟨SB, 0, none⟩) 1 1, .string { data := #[] }, .int .i64 0, .int .i64 0] 27)
  clear x0 x1 x2 x3 x4 x5
  generalize W7.alloc (.cells #[.string { data := #[98] }, .int .u8 0, .slice (some ⟨SB, 0, none⟩) 1 1, .string { data := #[] }, .int .i64 0, .int .i64 0] 27) = W8 at *
  generalize hBL : W7.heap.size = BL at *
  have e9 := (Ext.refl W8).alloc (.cells #[.string { data := #[99] }] 9)
  have l2 := (bL.ext e9).cell 2 _ rfl
  have l2' := (bL.ext e9).free 2
  have lz : BL < W8.heap.size := bL.1
  go_upto_region 8 with (fail)
  have hL9 : BoxL ((W8.setCell ⟨BL, 2, none⟩ (.slice (some ⟨W8.heap.size, 0, none⟩) 1 1)).alloc (.cells #[.string { data := #[99] }] 9)) BL [.string { data := #[98] }, .int .u8 0, .slice (some ⟨W8.heap.size, 0, none⟩) 1 1, .string { data := #[] }, .int .i64 0, .int .i64 0] := (bL.set 2 (by simp) (.slice (some ⟨W8.heap.size, 0, none⟩) 1 1)).ext ((Ext.refl _).alloc _)
  have hE9 : Ext W7 ((W8.setCell ⟨BL, 2, none⟩ (.slice (some ⟨W8.heap.size, 0, none⟩) 1 1)).alloc (.cells #[.string { data := #[99] }] 9)) := (e8.setCell (p := ⟨BL, 2, none⟩) (by show W7.heap.size ≤ BL; omega) _).alloc _
  have hT9 := heap_alloc_new (W8.setCell ⟨BL, 2, none⟩ (.slice (some ⟨W8.heap.size, 0, none⟩) 1 1)) (.cells #[.string { data := #[99] }] 9)
  rw [World.size_setCell] at hT9
  clear e9 l2 l2' lz bL e8
  generalize (W8.setCell ⟨BL, 2, none⟩ (.slice (some ⟨W8.heap.size, 0, none⟩) 1 1)).alloc (.cells #[.string { data := #[99] }] 9) = W9 at *
  generalize W8.heap.size = SC at *
  have HL := Lib.hid hL9
  have HT := Lib.hid (row_one_str W9 (s := [99]) hT9 (by decide))
  have HE9 := Lib.hid ((e5.trans e7).trans hE9)
  have HM := Lib.hid (HM.out.ext hE9)
  have HW := Lib.hid (HW.out.ext hE9)
  clear hL9 hE9 hT9 e5 e7 z5 HB7
  have hD := deepRow W9
  have hE10 := (Ext.refl W9).alloc (.cells (flC 0 (-1) ++ flC 0 0 ++ flC 0 1).toArray 50)
  simp only [flC, List.cons_append, List.nil_append] at hD hE10
  go_upto_region 9 with (fail)
  generalize W9.alloc (.cells #[.string { data := #[] }, .string { data := #[] }, .int .u8 0, .int .i64 0, .int .i64 (-1), .int .i64 0, .slice none 0 0, .int .i64 0, .int .i64 0, .int .u8 0, .int .i64 0, .int .i64 0, .int .u8 0, .int .i64 0, .string { data := #[] }, .slice none 0 0, .string { data := #[] }, .string { data := #[] }, .int .u8 0, .int .i64 0, .int .i64 0, .int .i64 0, .slice none 0 0, .int .i64 0, .int .i64 0, .int .u8 0, .int .i64 0, .int .i64 0, .int .u8 0, .int .i64 0, .string { data := #[] }, .slice none 0 0, .string { data := #[] }, .string { data := #[] }, .int .u8 0, .int .i64 0, .int .i64 1, .int .i64 0, .slice none 0 0, .int .i64 0, .int .i64 0, .int .u8 0, .int .i64 0, .int .i64 0, .int .u8 0, .int .i64 0, .string { data := #[] }, .slice none 0 0] 50) = WA at *
  generalize W9.heap.size = DB at *
  have HD := Lib.hid hD
  have HS := Lib.hid ((HS.out.ext HE9.out).ext hE10)
  have HT := Lib.hid (HT.out.ext hE10)
  have HC := Lib.hid ((HC.out.ext HE9.out).ext hE10)
  have HA := Lib.hid ((HA.out.ext HE9.out).ext hE10)
  have HB := Lib.hid ((HB.out.ext HE9.out).ext hE10)
  have HM := Lib.hid (HM.out.ext hE10)
  have HW := Lib.hid (HW.out.ext hE10)
  have HL := Lib.hid (HL.out.ext hE10)
  have HEw := Lib.hid ((HE4.out.trans HE9.out).trans hE10)
  have HK0 := Lib.hid (Ext.refl WA)
  clear hD hE10 HE4 HE9
  have c0 := (HC.out.ext HK0.out).cell 0 _ rfl
  have c1 := (HC.out.ext HK0.out).cell 1 _ rfl
  have c2 := (HC.out.ext HK0.out).cell 2 _ rfl
  have c3 := (HC.out.ext HK0.out).cell 3 _ rfl
  have c4 := (HC.out.ext HK0.out).cell 4 _ rfl
  have ⟨x00, x01, x02, x03, x04, x05⟩ := (HA.out.ext HK0.out).six
  have ⟨x10, x11, x12, x13, x14, x15⟩ := (HB.out.ext HK0.out).six
  go_wp2_with fail
  have hb0 := heap_alloc_new WA (.cells #[.string { data := #[97] }, .int .u8 0, .slice none 0 0, .string { data := #[] }, .int .i64 0, .int .i64 0, .string { data := #[98] }, .int .u8 0, .slice (some ⟨SB, 0, none⟩) 1 1, .string { data := #[] }, .int .i64 0, .int .i64 0] 27)
  have hE0 := (Ext.refl WA).alloc (.cells #[.string { data := #[97] }, .int .u8 0, .slice none 0 0, .string { data := #[] }, .int .i64 0, .int .i64 0, .string { data := #[98] }, .int .u8 0, .slice (some ⟨SB, 0, none⟩) 1 1, .string { data := #[] }, .int .i64 0, .int .i64 0] 27)
  clear c0 c1 c2 c3 c4 x00 x01 x02 x03 x04 x05 x10 x11 x12 x13 x14 x15
  generalize WA.alloc (.cells #[.string { data := #[97] }, .int .u8 0, .slice none 0 0, .string { data := #[] }, .int .i64 0, .int .i64 0, .string { data := #[98] }, .int .u8 0, .slice (some ⟨SB, 0, none⟩) 1 1, .string { data := #[] }, .int .i64 0, .int .i64 0] 27) = X0 at *
  refine (frag20 [] [ckA, ckB] rightO_nil (by decide) (by decide) (-1) _ ck1 X0 _ _ (Elem.Row.void _ _ _) (row_two_it X0 (x := ckA) (y := ckB) (d := .slice none 0 0) (d' := .slice (some ⟨SB, 0, none⟩) 1 1) hb0 (Elem.Row.void _ _ _) (HS.out.ext (HK0.out.trans hE0)) ck_wf.1 ck_wf.2.1)).mono ?_
  rintro e Y0 ⟨rfl, hF0⟩
  have HK1 := Lib.hid ((HK0.out.trans hE0).trans hF0)
  clear hF0 HK0 hb0 hE0
  have ⟨x00, x01, x02, x03, x04, x05⟩ := (HA.out.ext HK1.out).six
  have ⟨x10, x11, x12, x13, x14, x15⟩ := (HB.out.ext HK1.out).six
  go_wp2_with fail
  have hb1 := heap_alloc_new Y0 (.cells #[.string { data := #[97] }, .int .u8 0, .slice none 0 0, .string { data := #[] }, .int .i64 0, .int .i64 0, .string { data := #[98] }, .int .u8 0, .slice (some ⟨SB, 0, none⟩) 1 1, .string { data := #[] }, .int .i64 0, .int .i64 0] 27)
  have hE1 := (Ext.refl Y0).alloc (.cells #[.string { data := #[97] }, .int .u8 0, .slice none 0 0, .string { data := #[] }, .int .i64 0, .int .i64 0, .string { data := #[98] }, .int .u8 0, .slice (some ⟨SB, 0, none⟩) 1 1, .string { data := #[] }, .int .i64 0, .int .i64 0] 27)
  clear x00 x01 x02 x03 x04 x05 x10 x11 x12 x13 x14 x15
  generalize Y0.alloc (.cells #[.string { data := #[97] }, .int .u8 0, .slice none 0 0, .string { data := #[] }, .int .i64 0, .int .i64 0, .string { data := #[98] }, .int .u8 0, .slice (some ⟨SB, 0, none⟩) 1 1, .string { data := #[] }, .int .i64 0, .int .i64 0] 27) = X1 at *
  refine (total20 X1 _ (row_two_it X1 (x := ckA) (y := ckB) (d := .slice none 0 0) (d' := .slice (some ⟨SB, 0, none⟩) 1 1) hb1 (Elem.Row.void _ _ _) (HS.out.ext (HK1.out.trans hE1)) ck_wf.1 ck_wf.2.1)).mono ?_
  rintro e Y1 ⟨rfl, hF1⟩
  have HK2 := Lib.hid ((HK1.out.trans hE1).trans hF1)
  clear hF1 HK1 hb1 hE1
  have c0 := (HC.out.ext HK2.out).cell 0 _ rfl
  have c1 := (HC.out.ext HK2.out).cell 1 _ rfl
  have c2 := (HC.out.ext HK2.out).cell 2 _ rfl
  have c3 := (HC.out.ext HK2.out).cell 3 _ rfl
  have c4 := (HC.out.ext HK2.out).cell 4 _ rfl
  have ⟨x00, x01, x02, x03, x04, x05⟩ := (HA.out.ext HK2.out).six
  have ⟨x10, x11, x12, x13, x14, x15⟩ := (HL.out.ext HK2.out).six
  go_wp2_with fail
  have hb2 := heap_alloc_new Y1 (.cells #[.string { data := #[97] }, .int .u8 0, .slice none 0 0, .string { data := #[] }, .int .i64 0, .int .i64 0, .string { data := #[98] }, .int .u8 0, .slice (some ⟨SC, 0, none⟩) 1 1, .string { data := #[] }, .int .i64 0, .int .i64 0] 27)
  have hE2 := (Ext.refl Y1).alloc (.cells #[.string { data := #[97] }, .int .u8 0, .slice none 0 0, .string { data := #[] }, .int .i64 0, .int .i64 0, .string { data := #[98] }, .int .u8 0, .slice (some ⟨SC, 0, none⟩) 1 1, .string { data := #[] }, .int .i64 0, .int .i64 0] 27)
  clear c0 c1 c2 c3 c4 x00 x01 x02 x03 x04 x05 x10 x11 x12 x13 x14 x15
  generalize Y1.alloc (.cells #[.string { data := #[97] }, .int .u8 0, .slice none 0 0, .string { data := #[] }, .int .i64 0, .int .i64 0, .string { data := #[98] }, .int .u8 0, .slice (some ⟨SC, 0, none⟩) 1 1, .string { data := #[] }, .int .i64 0, .int .i64 0] 27) = X2 at *
  refine (frag20 [] [ckA, ckLost] rightO_nil (by decide) (by decide) (-1) _ ck3 X2 _ _ (Elem.Row.void _ _ _) (row_two_it X2 (x := ckA) (y := ckLost) (d := .slice none 0 0) (d' := .slice (some ⟨SC, 0, none⟩) 1 1) hb2 (Elem.Row.void _ _ _) (HT.out.ext (HK2.out.trans hE2)) ck_wf.1 ck_wf.2.2.2.2)).mono ?_
  rintro e Y2 ⟨rfl, hF2⟩
  have HK3 := Lib.hid ((HK2.out.trans hE2).trans hF2)
  clear hF2 HK2 hb2 hE2
  have ⟨x00, x01, x02, x03, x04, x05⟩ := (HM.out.ext HK3.out).six
  go_wp2_with fail
  clear x00 x01 x02 x03 x04 x05
  refine (cost20 Y2 _ ⟨none, 0, 0, rfl, Elem.Row.void _ _ _, ck_wf.2.2.1⟩).mono ?_
  rintro e Y3 ⟨rfl, hF3⟩
  have HK4 := Lib.hid (HK3.out.trans hF3)
  clear hF3 HK3
  have c0 := (HC.out.ext HK4.out).cell 0 _ rfl
  have c1 := (HC.out.ext HK4.out).cell 1 _ rfl
  have c2 := (HC.out.ext HK4.out).cell 2 _ rfl
  have c3 := (HC.out.ext HK4.out).cell 3 _ rfl
  have c4 := (HC.out.ext HK4.out).cell 4 _ rfl
  have ⟨x00, x01, x02, x03, x04, x05⟩ := (HA.out.ext HK4.out).six
  have ⟨x10, x11, x12, x13, x14, x15⟩ := (HM.out.ext HK4.out).six
  go_wp2_with fail
  have hb4 := heap_alloc_new Y3 (.cells #[.string { data := #[97] }, .int .u8 0, .slice none 0 0, .string { data := #[] }, .int .i64 0, .int .i64 0, .string { data := #[109] }, .int .u8 1, .slice none 0 0, .string { data := #[97] }, .int .i64 2, .int .i64 1] 27)
  have hE4 := (Ext.refl Y3).alloc (.cells #[.string { data := #[97] }, .int .u8 0, .slice none 0 0, .string { data := #[] }, .int .i64 0, .int .i64 0, .string { data := #[109] }, .int .u8 1, .slice none 0 0, .string { data := #[97] }, .int .i64 2, .int .i64 1] 27)
  clear c0 c1 c2 c3 c4 x00 x01 x02 x03 x04 x05 x10 x11 x12 x13 x14 x15
  generalize Y3.alloc (.cells #[.string { data := #[97] }, .int .u8 0, .slice none 0 0, .string { data := #[] }, .int .i64 0, .int .i64 0, .string { data := #[109] }, .int .u8 1, .slice none 0 0, .string { data := #[97] }, .int .i64 2, .int .i64 1] 27) = X4 at *
  refine (frag20 [] [ckA, ckM] rightO_nil (by decide) (by decide) (-1) _ ck5 X4 _ _ (Elem.Row.void _ _ _) (row_two_it X4 (x := ckA) (y := ckM) (d := .slice none 0 0) (d' := .slice none 0 0) hb4 (Elem.Row.void _ _ _) (Elem.Row.void _ _ _) ck_wf.1 ck_wf.2.2.1)).mono ?_
  rintro e Y4 ⟨rfl, hF4⟩
  have HK5 := Lib.hid ((HK4.out.trans hE4).trans hF4)
  clear hF4 HK4 hb4 hE4
  have c0 := (HC.out.ext HK5.out).cell 0 _ rfl
  have c1 := (HC.out.ext HK5.out).cell 1 _ rfl
  have c2 := (HC.out.ext HK5.out).cell 2 _ rfl
  have c3 := (HC.out.ext HK5.out).cell 3 _ rfl
  have c4 := (HC.out.ext HK5.out).cell 4 _ rfl
  have ⟨x00, x01, x02, x03, x04, x05⟩ := (HA.out.ext HK5.out).six
  go_wp2_with fail
  have hb5 := heap_alloc_new Y4 (.cells #[.string { data := #[97] }, .int .u8 0, .slice none 0 0, .string { data := #[] }, .int .i64 0, .int .i64 0, .string { data := #[97] }, .int .u8 0, .slice none 0 0, .string { data := #[] }, .int .i64 0, .int .i64 0] 27)
  have hE5 := (Ext.refl Y4).alloc (.cells #[.string { data := #[97] }, .int .u8 0, .slice none 0 0, .string { data := #[] }, .int .i64 0, .int .i64 0, .string { data := #[97] }, .int .u8 0, .slice none 0 0, .string { data := #[] }, .int .i64 0, .int .i64 0] 27)
  clear c0 c1 c2 c3 c4 x00 x01 x02 x03 x04 x05
  generalize Y4.alloc (.cells #[.string { data := #[97] }, .int .u8 0, .slice none 0 0, .string { data := #[] }, .int .i64 0, .int .i64 0, .string { data := #[97] }, .int .u8 0, .slice none 0 0, .string { data := #[] }, .int .i64 0, .int .i64 0] 27) = X5 at *
  refine (frag20 [] [ckA, ckA] rightO_nil (by decide) (by decide) (-1) _ ck6 X5 _ _ (Elem.Row.void _ _ _) (row_two_it X5 (x := ckA) (y := ckA) (d := .slice none 0 0) (d' := .slice none 0 0) hb5 (Elem.Row.void _ _ _) (Elem.Row.void _ _ _) ck_wf.1 ck_wf.1)).mono ?_
  rintro e Y5 ⟨rfl, hF5⟩
  have HK6 := Lib.hid ((HK5.out.trans hE5).trans hF5)
  clear hF5 HK5 hb5 hE5
  have c0 := (HC.out.ext HK6.out).cell 0 _ rfl
  have c1 := (HC.out.ext HK6.out).cell 1 _ rfl
  have c2 := (HC.out.ext HK6.out).cell 2 _ rfl
  have c3 := (HC.out.ext HK6.out).cell 3 _ rfl
  have c4 := (HC.out.ext HK6.out).cell 4 _ rfl
  have ⟨x00, x01, x02, x03, x04, x05⟩ := (HA.out.ext HK6.out).six
  have ⟨x10, x11, x12, x13, x14, x15⟩ := (HW.out.ext HK6.out).six
  go_wp2_with fail
  have hb6 := heap_alloc_new Y5 (.cells #[.string { data := #[97] }, .int .u8 0, .slice none 0 0, .string { data := #[] }, .int .i64 0, .int .i64 0, .string { data := #[109] }, .int .u8 1, .slice none 0 0, .string { data := #[97] }, .int .i64 5, .int .i64 1] 27)
  have hE6 := (Ext.refl Y5).alloc (.cells #[.string { data := #[97] }, .int .u8 0, .slice none 0 0, .string { data := #[] }, .int .i64 0, .int .i64 0, .string { data := #[109] }, .int .u8 1, .slice none 0 0, .string { data := #[97] }, .int .i64 5, .int .i64 1] 27)
  clear c0 c1 c2 c3 c4 x00 x01 x02 x03 x04 x05 x10 x11 x12 x13 x14 x15
  generalize Y5.alloc (.cells #[.string { data := #[97] }, .int .u8 0, .slice none 0 0, .string { data := #[] }, .int .i64 0, .int .i64 0, .string { data := #[109] }, .int .u8 1, .slice none 0 0, .string { data := #[97] }, .int .i64 5, .int .i64 1] 27) = X6 at *
  refine (frag20 [] [ckA, ckWide] rightO_nil (by decide) (by decide) (-1) _ ck7 X6 _ _ (Elem.Row.void _ _ _) (row_two_it X6 (x := ckA) (y := ckWide) (d := .slice none 0 0) (d' := .slice none 0 0) hb6 (Elem.Row.void _ _ _) (Elem.Row.void _ _ _) ck_wf.1 ck_wf.2.2.2.1)).mono ?_
  rintro e Y6 ⟨rfl, hF6⟩
  have HK7 := Lib.hid ((HK6.out.trans hE6).trans hF6)
  clear hF6 HK6 hb6 hE6
  have c0 := (HC.out.ext HK7.out).cell 0 _ rfl
  have c1 := (HC.out.ext HK7.out).cell 1 _ rfl
  have c2 := (HC.out.ext HK7.out).cell 2 _ rfl
  have c3 := (HC.out.ext HK7.out).cell 3 _ rfl
  have c4 := (HC.out.ext HK7.out).cell 4 _ rfl
  have ⟨x00, x01, x02, x03, x04, x05⟩ := (HA.out.ext HK7.out).six
  go_wp2_with fail
  have hb7 := heap_alloc_new Y6 (.cells #[.string { data := #[97] }, .int .u8 0, .slice none 0 0, .string { data := #[] }, .int .i64 0, .int .i64 0] 27)
  have hE7 := (Ext.refl Y6).alloc (.cells #[.string { data := #[97] }, .int .u8 0, .slice none 0 0, .string { data := #[] }, .int .i64 0, .int .i64 0] 27)
  clear c0 c1 c2 c3 c4 x00 x01 x02 x03 x04 x05
  generalize Y6.alloc (.cells #[.string { data := #[97] }, .int .u8 0, .slice none 0 0, .string { data := #[] }, .int .i64 0, .int .i64 0] 27) = X7 at *
  refine (frag20 ckDeep [ckA] ckDeep_right (by decide) (by decide) 2 _ ck8 X7 _ _ (HD.out.ext (HK7.out.trans hE7)) (row_one_it X7 (x := ckA) (d := .slice none 0 0) hb7 (Elem.Row.void _ _ _) ck_wf.1)).mono ?_
  rintro e Y7 ⟨rfl, hF7⟩
  have HK8 := Lib.hid ((HK7.out.trans hE7).trans hF7)
  clear hF7 HK7 hb7 hE7
  go_wp2
  go_ret
  exact ⟨rfl, HEw.out.trans HK8.out⟩
end Go.Proofs.YtgclfmdpapadnaaDoor

open Go.RowKit Go.Shelf
namespace Go.Proofs.YtgclfmdpapadnaaDoor
open Go Go.Proofs Fm

theorem itsCells_len : ∀ (l : List It) (ds : List Value), ds.length = l.length → (itsCells l ds).length = l.length * 6
  | [], _, _ => by simp [itsCells]
  | _ :: _, [], h => by simp at h
  | x :: l, d :: ds, h => by
    have ih := itsCells_len l ds (by simpa using h)
    unfold itsCells at ih ⊢
    rw [List.zipWith_cons_cons, List.flatten_cons, List.length_append, ih]
    simp [itCells]; omega
theorem itsCells_some {l : List It} {ds : List Value} (h : ds.length = l.length) {p : Nat} {u : Value} (hu : (itsCells l ds)[p]? = some u) :
    ∃ (i j : Nat) (hi : i < l.length) (hd : i < ds.length), j < 6 ∧ p = i * 6 + j ∧ (itCells l[i] ds[i])[j]? = some u := by
  have hp : p < (itsCells l ds).length := (List.getElem?_eq_some_iff.1 hu).1
  rw [itsCells_len l ds h] at hp
  have hi : p / 6 < l.length := by omega
  have e : p = p / 6 * 6 + p % 6 := by omega
  refine ⟨p / 6, p % 6, hi, by omega, by omega, e, ?_⟩
  rw [← itsCells_at l ds (p / 6) (p % 6) hi (by omega) (by omega), ← e]; exact hu
theorem itsCells_append {l m : List It} {ds es : List Value} (h : ds.length = l.length) : itsCells (l ++ m) (ds ++ es) = itsCells l ds ++ itsCells m es := by
  unfold itsCells
  rw [List.zipWith_append h.symm, List.flatten_append]
/-- Items that may be appended. -/
def SrcI (w0 w : World) (X : Value) (m : List It) : Prop :=
  ∃ ds : List Value, ds.length = m.length ∧ (∀ i (hi : i < m.length) (hd : i < ds.length), strE.Row w0 m[i].after ds[i] ∧ itWf m[i]) ∧ Src Tryd.prog 6 22 X m.length (itsCells m ds) w
theorem srcI_row {w0 w : World} {l : List It} {X : Value} (h : itE.Row w0 l X) (hE : Ext w0 w) : SrcI w0 w X l := by
  obtain ⟨a, cap, rfl, h1, h2, h3, C, h4, h5⟩ := h
  have hl : ((List.range l.length).map (fun i => C i 2)).length = l.length := by simp
  have hd : ∀ i (_ : i < l.length) (hd : i < ((List.range l.length).map (fun i => C i 2)).length), ((List.range l.length).map (fun i => C i 2))[i] = C i 2 := by intro i hi hd; simp
  have hcc : ∀ i j u (hi : i < l.length) (hd : i < ((List.range l.length).map (fun i => C i 2)).length), j < 6 → (itCells l[i] ((List.range l.length).map (fun i => C i 2))[i])[j]? = some u → C i j = u ∧ u.oneCell' = true := by
    intro i j u hi hd' hj hc
    rw [hd i hi hd'] at hc
    obtain ⟨r0, r1, r2, r3, r4, r5, _⟩ := h5 i hi
    obtain ⟨a2, c2, e2, _⟩ := r2.slice
    match j, hj with
    | 0, _ => simp [itCells] at hc; rw [← hc]; exact ⟨r0, rfl⟩
    | 1, _ => simp [itCells] at hc; rw [← hc]; exact ⟨r1, rfl⟩
    | 2, _ => simp [itCells] at hc; rw [← hc]; exact ⟨rfl, by rw [e2]; rfl⟩
    | 3, _ => simp [itCells] at hc; rw [← hc]; exact ⟨r3, rfl⟩
    | 4, _ => simp [itCells] at hc; rw [← hc]; exact ⟨r4, rfl⟩
    | 5, _ => simp [itCells] at hc; rw [← hc]; exact ⟨r5, rfl⟩
  refine ⟨(List.range l.length).map (fun i => C i 2), hl, fun i hi hd' => ?_, ?_⟩
  · obtain ⟨r0, r1, r2, r3, r4, r5, r6⟩ := h5 i hi
    rw [hd i hi hd']; exact ⟨r2, r6⟩
  · have hone : ∀ u ∈ itsCells l ((List.range l.length).map (fun i => C i 2)), u.oneCell' = true := by
      intro u hu
      obtain ⟨p, hp⟩ := List.getElem?_of_mem hu
      obtain ⟨i, j, hi, hd', hj, -, hc⟩ := itsCells_some hl hp
      exact (hcc i j u hi hd' hj hc).2
    by_cases h0 : 0 < l.length
    · obtain ⟨b, off, rfl, hb, hc⟩ := h4 h0
      refine Src.ofSlice w Tryd.underlying22 _ _ _ _ (itsCells_len l _ hl) (fun p u hu => ?_) hone
      obtain ⟨i, j, hi, hd', hj, rfl, hcj⟩ := itsCells_some hl hu
      rw [Addr.add_lit]
      exact (hE.cell (p := ⟨b, _, none⟩) hb).trans ((hc i j hi hj).trans (by rw [(hcc i j u hi hd' hj hcj).1]))
    · have : l = [] := List.eq_nil_of_length_eq_zero (by omega)
      subst this
      cases a with
      | none => exact Src.ofNil w Tryd.underlying22 cap
      | some ad => exact Src.ofSlice w Tryd.underlying22 ad 0 cap [] rfl (fun p u hu => by simp at hu) (fun u hu => by cases hu)
/-- Items in a row of one's own; their texts lie where they lay. -/
def ShF (w0 w : World) (v : Value) (l : List It) : Prop :=
  ∃ ds : List Value, ds.length = l.length ∧ w.ownsRow w0.heap.size 27 6 v l.length (itsCells l ds) ∧ ∀ i (hi : i < l.length) (hd : i < ds.length), strE.Row w0 l[i].after ds[i] ∧ itWf l[i]
theorem ShF.made {w0 w : World} (h : Ext w0 w) : ShF w0 (w.alloc (.cells #[] 27)) (.slice (some ⟨w.heap.size, 0, none⟩) 0 0) [] :=
  ⟨[], rfl, World.ownsRow_made w #[] 0 h.size (by simp) rfl, fun i hi => by simp at hi⟩
theorem ShF.ext {w0 w w' : World} {v : Value} {l : List It} (h : ShF w0 w v l) (hE : Ext w w') : ShF w0 w' v l := by
  obtain ⟨ds, h1, h2, h3⟩ := h
  exact ⟨ds, h1, hE.own h2, h3⟩
theorem ShF.lt {w0 w : World} {v : Value} {l : List It} (h : ShF w0 w v l) : ∀ b, v.ownBlock = some b → w0.heap.size ≤ b ∧ b < w.heap.size := by
  obtain ⟨ds, h1, h2, h3⟩ := h
  exact h2.lt
theorem ShF.row {w0 w : World} {v : Value} {l : List It} (h : ShF w0 w v l) (hE : Ext w0 w) : itE.Row w l v := by
  obtain ⟨ds, h1, h2, h3⟩ := h
  have hc := fun g => World.ownsRow.cells h2 (g := g)
  rcases h2.2 with ⟨rfl, h0⟩ | ⟨g, cap, cur, rfl, hb, hg, hl, hm, h5, h6⟩
  · have : l = [] := List.eq_nil_of_length_eq_zero h0
    subst this
    exact Elem.Row.void itE w none
  · refine Elem.Row.mk rfl hl hm (Array.getElem?_eq_some_iff.1 hg).1 (fun i hi => ?_)
    have hd : i < ds.length := by omega
    obtain ⟨a1, a2⟩ := h3 i hi hd
    refine ⟨fun j => (itCells l[i] ds[i]).getD j .nilFunc, ⟨rfl, rfl, a1.ext hE, rfl, rfl, rfl, a2⟩, fun j hj => ?_⟩
    have hj6 : j < 6 := hj
    have := hc g rfl (i * 6 + j) ((itCells l[i] ds[i]).getD j .nilFunc) (by
      rw [itsCells_at l ds i j hi hd hj6, List.getD_eq_getElem?_getD, List.getElem?_eq_getElem (by simp [itCells]; omega)]
      rfl)
    rw [Addr.add_lit] at this
    exact this
theorem elem_item6 : ElemOf Tryd.prog 22 27 (.agg #[.string { data := #[] }, .int .u8 0, .slice none 0 0, .string { data := #[] }, .int .i64 0, .int .i64 0]) 6 80 := elem_item
/-- append at an operation that comes up. -/
theorem oper_appF {w0 w : World} {o : Oper} {a : Act} {K : Act → World → Prop} {Q : Exit → Act → World → Prop} (s x : Operand) (hop : o.op = Op.call { callee := Callee.builtin Builtin.append, args := #[s, x], argTypes := #[22, 22] })
    {v : Value} {l : List It} (hs : a.eval s = v) (h : ShF w0 w v l) (hE : Ext w0 w) {X : Value} {m : List It} (hx : a.eval x = X) (hm : SrcI w0 w X m) (hlen : l.length + m.length ≤ 1000)
    (hK : ∀ v' w', ShF w0 w' v' (l ++ m) → Ext w0 w' → w.grownBy w' v.ownBlock → K (a.put o.dst v') w') : Oper.wp Tryd.prog o a w K Q := by
  obtain ⟨ds, h1, h2, h3⟩ := h
  obtain ⟨es, g1, g2, g3⟩ := hm
  have hb : (l.length + m.length) * 80 ≤ 1000 * 80 := Nat.mul_le_mul_right _ hlen
  obtain ⟨v', w', hrun, r1, r2, r3⟩ := run_append_src_at w elem_item6 22 o.type w0.heap.size v l.length (itsCells l ds) h2 X m.length (itsCells m es) g3 (by unfold maxLen; omega) (by omega) hE.size
  unfold Oper.wp
  simp [execOp, hop, resolve, invoke, builtin, hs, hx, hrun, Result.andThen]
  refine hK v' w' ⟨ds ++ es, by simp [h1, g1], by rw [itsCells_append h1, List.length_append]; exact r1, fun i hi hd => ?_⟩ (hE.grown r2 (fun k hk => (h2.lt k hk).1)) r2
  by_cases hil : i < l.length
  · have hid : i < ds.length := by omega
    rw [List.getElem_append_left hil, List.getElem_append_left hid]; exact h3 i hil hid
  · have hi' : i - l.length < m.length := by rw [List.length_append] at hi; omega
    have e1 : (l ++ m)[i] = m[i - l.length] := List.getElem_append_right (by omega)
    have e2 : (ds ++ es)[i] = es[i - l.length]'(by omega) := by rw [List.getElem_append_right (by omega)]; simp [h1]
    rw [e1, e2]; exact g2 _ hi' (by omega)
theorem sizeof_item : ∀ w, (sizeOf (Tryd.prog.elem 22)).run Tryd.prog w = .ok 6 w := fun _ => by kernel_rfl
theorem slice_it_upto (a : Option Addr) (len cap k : Nat) (h1 : k ≤ cap) (w : World) :
    (Instr.slice 22 (.slice a len cap) none (some (.int .i64 (k : Int))) none).run Tryd.prog w = .ok (.slice a k cap) w := by
  rw [run_slice_h (ht := by kernel_rfl) (h0 := by omega) (h2 := by omega), sizeof_item]
  cases a <;> simp [Result.andThen, sliced, Addr.add]
end Go.Proofs.YtgclfmdpapadnaaDoor

open Go.RowKit Go.Shelf
namespace Go.Proofs.YtgclfmdpapadnaaDoor
open Go Go.Proofs Fm
attribute [local go_sem] Oper.semAt_some

theorem wpList_appF {w0 w : World} {ops : Array Oper} {rest : List Oper} {o : Oper} {a : Act} {Q : Exit → Act → World → Prop} (hgd : o.guard = none) (s x : Operand) (hop : o.op = Op.call { callee := Callee.builtin Builtin.append, args := #[s, x], argTypes := #[22, 22] })
    {v : Value} {l : List It} (hs : a.eval s = v) (h : ShF w0 w v l) (hE : Ext w0 w) {X : Value} {m : List It} (hx : a.eval x = X) (hm : SrcI w0 w X m) (hlen : l.length + m.length ≤ 1000)
    (hK : ∀ v' w', ShF w0 w' v' (l ++ m) → Ext w0 w' → w.grownBy w' v.ownBlock → wpList Tryd.prog ops Q rest (a.put o.dst v') w') : wpList Tryd.prog ops Q (o :: rest) a w :=
  wpList_plain hgd fun _ hk => oper_appF s x hop hs h hE hx hm hlen fun v' w' h1 h2 h3 => hk _ _ (hK v' w' h1 h2 h3)
theorem costF_map {x : It} (h : x.kind = 1) : costF x = 1 + x.width * (1 + x.quota) := by unfold costF; rw [if_pos h]
theorem costF_task {x : It} (h : x.kind ≠ 1) : costF x = 1 + x.quota := by unfold costF; rw [if_neg h]
theorem total_nil : totalF [] = 0 := rfl
set_option maxRecDepth 100000 in
set_option maxHeartbeats 4000000 in
theorem checkCosts_any (w : World) (l : List It) (lv : Value) (hlv : itE.Row w l lv) (m : List It) (mv : Value) (hmv : itE.Row w m mv) :
    Calls Tryd.prog 3 #[lv, mv] w fun e w' => e = .returned (.bool true) ∧ Ext w w' := by
  obtain ⟨al, cl, rfl, hl1, hl2⟩ := hlv.slice
  obtain ⟨am, cm, rfl, hm1, hm2⟩ := hmv.slice
  obtain ⟨LN, hLN⟩ : ∃ LN, LN = min l.length 30 := ⟨_, rfl⟩
  obtain ⟨MN, hMN⟩ : ∃ MN, MN = min m.length 30 := ⟨_, rfl⟩
  have hminl : min (l.length : Int) 30 = (LN : Int) := by omega
  have hminm : min (m.length : Int) 30 = (MN : Int) := by omega
  have hsl := slice_it_upto al l.length cl LN (by omega)
  have hsm := slice_it_upto am m.length cm MN (by omega)
  obtain ⟨L, hL⟩ : ∃ L, L = l.take LN := ⟨_, rfl⟩
  obtain ⟨M, hM⟩ : ∃ M, M = m.take MN := ⟨_, rfl⟩
  have HL := Lib.hid (show itE.Row w L (.slice al LN cl) by rw [hL]; exact hlv.take (by omega))
  have HM := Lib.hid (show itE.Row w M (.slice am MN cm) by rw [hM]; exact hmv.take (by omega))
  have HLn := Lib.hid (show L.length = LN by rw [hL, List.length_take]; omega)
  have HMn := Lib.hid (show M.length = MN by rw [hM, List.length_take]; omega)
  have hL30 : LN ≤ 30 := by omega
  have hM30 : MN ≤ 30 := by omega
  clear hL hM hLN hMN hlv hmv hl1 hm1
  go_enter Tryd.func3, Tryd.ntmps3
  go_wp2_with fail
  go_region
  have hE0 := (Ext.refl w).drew
  generalize w.drew = W0 at *
  have HE0 := Lib.hid hE0
  clear hE0 hsl hsm hminl hminm
  go_wp2_with fail
  refine (fright_any L W0 _ (HL.out.ext HE0.out)).mono ?_
  cases hfl : fragB L with
  | false =>
    rintro e w1 ⟨rfl, hE1⟩
    have HE1 := Lib.hid (HE0.out.trans hE1)
    clear hfl hE1
    go_wp2_with fail
    refine (awake20_any w1).mono ?_
    rintro e w2 ⟨rfl, hE2⟩
    have HE2 := Lib.hid (HE1.out.trans hE2)
    clear hE2
    go_wp2
    go_ret
    exact ⟨rfl, HE2.out⟩
  | true =>
  rintro e w1 ⟨rfl, hE1⟩
  have HE1 := Lib.hid (HE0.out.trans hE1)
  have HfL := Lib.hid (fair_of hfl)
  have HbL := Lib.hid (show L.all itB = true by unfold fragB at hfl; rw [Bool.and_eq_true] at hfl; exact hfl.1)
  clear hfl hE1
  go_wp2_with fail
  refine (fright_any M w1 _ (HM.out.ext HE1.out)).mono ?_
  cases hfm : fragB M with
  | false =>
    rintro e w1 ⟨rfl, hE1⟩
    have HE1 := Lib.hid (HE1.out.trans hE1)
    clear hfm hE1
    go_wp2_with fail
    refine (awake20_any w1).mono ?_
    rintro e w2 ⟨rfl, hE2⟩
    have HE2 := Lib.hid (HE1.out.trans hE2)
    clear hE2
    go_wp2
    go_ret
    exact ⟨rfl, HE2.out⟩
  | true =>
  rintro e w2 ⟨rfl, hE2⟩
  have HE2 := Lib.hid (HE1.out.trans hE2)
  have HfM := Lib.hid (fair_of hfm)
  clear hfm hE2 HE1 HE0
  go_wp2_with fail
  go_loopw [31] (fun i wr => ∃ j : Nat, j ≤ LN ∧ i = .int .i64 j ∧ Hid (Ext w wr)) (fun i _ => LN - (intOf i).toNat)
  case atStart => exact ⟨0, by omega, rfl, HE2⟩
  case round =>
    clear HE2
    obtain ⟨j, hj, rfl, HE⟩ := hrel
    by_cases hlt : j < LN
    case neg =>
      go_wp2_with (refine wpList_appF (w0 := wr) (l := []) rfl _ _ rfl rfl (ShF.made (Ext.refl wr)) ((Ext.refl wr).alloc _) rfl (srcI_row (HL.out.ext HE.out) ((Ext.refl wr).alloc _)) (by rw [HLn.out]; simp; omega) ?_)
      intro v3 w3 hS3 hE3 _
      obtain ⟨A3, C3, rfl⟩ : ∃ A C, v3 = .slice A LN C := by
        obtain ⟨ds, -, h2, -⟩ := hS3
        rw [HLn.out] at h2
        exact ownsRow_sl h2
      have HS3 := Lib.hid hS3
      have HE3 := Lib.hid hE3
      clear hS3 hE3
      go_wp2_with (refine wpList_appF (w0 := wr) (l := L) rfl _ _ rfl rfl HS3.out HE3.out rfl (srcI_row (HM.out.ext HE.out) HE3.out) (by rw [HLn.out, HMn.out]; omega) ?_)
      intro v4 w4 hS4 hE4 _
      obtain ⟨A4, C4, rfl⟩ : ∃ A C, v4 = .slice A (LN + MN) C := by
        obtain ⟨ds, -, h2, -⟩ := hS4
        rw [List.length_append, HLn.out, HMn.out] at h2
        exact ownsRow_sl h2
      have HR4 := Lib.hid (hS4.row hE4)
      have HE4 := Lib.hid (HE.out.trans hE4)
      clear hS4 hE4 HS3 HE3
      obtain ⟨TL, hTL⟩ : ∃ TL, TL = totalF L := ⟨_, rfl⟩
      obtain ⟨TM, hTM⟩ : ∃ TM, TM = totalF M := ⟨_, rfl⟩
      have hbL : 0 ≤ TL ∧ TL ≤ 40000000000000 := by
        have := total_fair HfL.out L.length (Nat.le_refl _)
        rw [List.take_length, ← hTL, HLn.out] at this
        omega
      have hbM : 0 ≤ TM ∧ TM ≤ 40000000000000 := by
        have := total_fair HfM.out M.length (Nat.le_refl _)
        rw [List.take_length, ← hTM, HMn.out] at this
        omega
      have HT1 := Lib.hid (fun X v (h : itE.Row X (L ++ M) v) => (show Calls Tryd.prog 11 #[v] X fun e w' => e = .returned (.int .i64 (TL + TM)) ∧ Ext X w' by
        rw [hTL, hTM, ← total_app]
        exact ctotal_any (L ++ M) (fun x hx => (List.mem_append.1 hx).elim (HfL.out x) (HfM.out x)) (by rw [List.length_append, HLn.out, HMn.out]; omega) X v h))
      have HT2 := Lib.hid (fun X v (h : itE.Row X L v) => (show Calls Tryd.prog 11 #[v] X fun e w' => e = .returned (.int .i64 TL) ∧ Ext X w' by
        rw [hTL]
        exact ctotal_any L HfL.out (by rw [HLn.out]; omega) X v h))
      have HT3 := Lib.hid (fun X v (h : itE.Row X M v) => (show Calls Tryd.prog 11 #[v] X fun e w' => e = .returned (.int .i64 TM) ∧ Ext X w' by
        rw [hTM]
        exact ctotal_any M HfM.out (by rw [HMn.out]; omega) X v h))
      clear hTL hTM
      go_wp2_with fail
      refine (HT1.out w4 _ HR4.out).mono ?_
      rintro e w5 ⟨rfl, hE5⟩
      have HE5 := Lib.hid (HE4.out.trans hE5)
      clear hE5
      go_wp2_with fail
      refine (HT2.out w5 _ (HL.out.ext HE5.out)).mono ?_
      rintro e w6 ⟨rfl, hE6⟩
      have HE6 := Lib.hid (HE5.out.trans hE6)
      clear hE6
      go_wp2_with fail
      refine (HT3.out w6 _ (HM.out.ext HE6.out)).mono ?_
      rintro e w7 ⟨rfl, hE7⟩
      have HE7 := Lib.hid (HE6.out.trans hE7)
      clear hE7
      go_wp2_with fail
      refine (ctotal_any [] (fun x hx => by cases hx) (by decide) w7 _ (Elem.Row.void _ _ _)).mono ?_
      rw [total_nil]
      rintro e w8 ⟨rfl, hE8⟩
      have HE8 := Lib.hid (HE7.out.trans hE8)
      clear hE8
      go_wp2_with fail
      refine (awake20_any w8).mono ?_
      rintro e w9 ⟨rfl, hE9⟩
      have HE9 := Lib.hid (HE8.out.trans hE9)
      clear hE9
      go_wp2
      go_ret
      exact ⟨rfl, HE9.out⟩
    have hjL : j < L.length := by rw [HLn.out]; exact hlt
    obtain ⟨b, off, rfl, hb, aa, ma, ca, x0, x1, x2, x3, x4, x5, hit⟩ := it_at HL.out HE.out j hjL
    have hj0 : (0 : Int) ≤ (j : Int) := by omega
    have hj1 : (j : Int) < (LN : Int) := by omega
    obtain ⟨x, hx⟩ : ∃ x, x = L[j] := ⟨_, rfl⟩
    have hfx := HfL.out x (by rw [hx]; exact List.getElem_mem hjL)
    have hbx := List.all_eq_true.1 HbL.out x (by rw [hx]; exact List.getElem_mem hjL)
    rw [← hx] at x0 x1 x3 x4 x5 hit
    have HX := Lib.hid hit
    have HFx := Lib.hid hfx
    have HCx := Lib.hid (cost_low hbx).1
    clear hx hit hfx hbx
    go_upto_region 7 with (fail)
    have hB1 := BoxL.new wr [.string (str x.name), .int .u8 (x.kind.toNat : Int), .slice aa ma ca, .string (str x.over), .int .i64 x.width, .int .i64 x.quota] 27
    have hE1 := (Ext.refl wr).alloc (.cells #[.string (str x.name), .int .u8 (x.kind.toNat : Int), .slice aa ma ca, .string (str x.over), .int .i64 x.width, .int .i64 x.quota] 27)
    have HX1 := Lib.hid (fun X (hX : Ext wr X) => HX.out.ext (HE.out.trans hX))
    clear x0 x1 x2 x3 x4 x5 HX
    generalize wr.alloc (.cells #[.string (str x.name), .int .u8 (x.kind.toNat : Int), .slice aa ma ca, .string (str x.over), .int .i64 x.width, .int .i64 x.quota] 27) = W1 at *
    generalize wr.heap.size = XB at *
    obtain ⟨y0, y1, y2, y3, y4, y5⟩ := hB1.six
    obtain ⟨QT, hQT⟩ : ∃ QT, QT = x.quota := ⟨_, rfl⟩
    rw [← hQT] at y5
    have HQT := Lib.hid hQT
    clear hQT
    have hE2 := (Ext.refl W1).alloc (.cells #[.string { data := #[116] }, .int .u8 0, .slice none 0 0, .string { data := #[] }, .int .i64 0, .int .i64 QT] 27)
    have hB2 := BoxL.new W1 [.string { data := #[116] }, .int .u8 0, .slice none 0 0, .string { data := #[] }, .int .i64 0, .int .i64 QT] 27
    go_upto_region 8 with (fail)
    have HBx := Lib.hid (hB1.ext hE2)
    have HE12 := Lib.hid (hE1.trans hE2)
    clear y0 y1 y2 y3 y4 y5 hB1 hE1 hE2
    generalize W1.alloc (.cells #[.string { data := #[116] }, .int .u8 0, .slice none 0 0, .string { data := #[] }, .int .i64 0, .int .i64 QT] 27) = W2 at *
    generalize W1.heap.size = TB at *
    have HBt := Lib.hid hB2
    clear hB2
    have hq2 : 0 ≤ QT ∧ QT ≤ 1000000 := by rw [HQT.out]; exact HFx.out.2
    have hw2 : 0 ≤ x.width ∧ x.width ≤ 1000000 := HFx.out.1
    have HTk := Lib.hid (fun X => (show Calls Tryd.prog 10 #[.agg #[.string { data := #[116] }, .int .u8 0, .slice none 0 0, .string { data := #[] }, .int .i64 0, .int .i64 QT]] X fun e w' => e = .returned (.int .i64 (1 + QT)) ∧ Ext X w' from
      ccost_any ⟨[116], 0, [], [], 0, QT⟩ ⟨⟨by show (0 : Int) ≤ 0; omega, by show (0 : Int) ≤ 1000000; omega⟩, hq2.1, hq2.2⟩ X _ ⟨none, 0, 0, rfl, Elem.Row.void _ _ _, by show [116].length ≤ _; decide, by show [].length ≤ _; decide, by show isI64 0; unfold isI64; omega, by show isI64 QT; unfold isI64; omega⟩))
    have HCo0 := Lib.hid (fun X (hX : Ext wr X) => ccost_any x HFx.out X _ (HX1.out X hX))
    obtain ⟨c0, c1, c2, c3, c4, c5⟩ := HBt.out.six
    go_wp2_with fail
    refine (HTk.out W2).mono ?_
    rintro e w3 ⟨rfl, hE3⟩
    have HE3 := Lib.hid (HE12.out.trans hE3)
    have HBx3 := Lib.hid (HBx.out.ext hE3)
    have HBt3 := Lib.hid (HBt.out.ext hE3)
    clear c0 c1 c2 c3 c4 c5 hE3 HBx HBt HE12
    have y1 := HBx3.out.cell 1 _ rfl
    have y4 := HBx3.out.cell 4 _ rfl
    have hk := u8_oneC (k := x.kind) 1
    rw [show (((1 : UInt8).toNat : Nat) : Int) = 1 from rfl] at hk
    obtain ⟨K, hK⟩ : ∃ K, K = (x.kind.toNat : Int) := ⟨_, rfl⟩
    rw [← hK] at y1 hk
    have HK := Lib.hid hK
    obtain ⟨WD, hWD⟩ : ∃ WD, WD = x.width := ⟨_, rfl⟩
    rw [← hWD] at y4 hw2
    have HWD := Lib.hid hWD
    clear hK hWD
    have HCo := Lib.hid (show ∀ X, Ext wr X → Calls Tryd.prog 10 #[.agg #[.string (str x.name), .int .u8 (x.kind.toNat : Int), .slice aa ma ca, .string (str x.over), .int .i64 WD, .int .i64 QT]] X fun e w' => e = .returned (.int .i64 (costF x)) ∧ Ext X w' by rw [HQT.out, HWD.out]; exact HCo0.out)
    by_cases h1 : x.kind = 1
    · have t1 : (K == 1) = true := by rw [hk]; simpa using h1
      have HCf := Lib.hid (show costF x = 1 + WD * (1 + QT) by rw [costF_map h1, HWD.out, HQT.out])
      obtain ⟨WN, rfl⟩ : ∃ WN : Nat, WD = (WN : Int) := ⟨WD.toNat, by omega⟩
      clear hk h1
      go_wp2_with fail
      obtain ⟨wo, rfl⟩ : ∃ wo : World, wo = wr := ⟨_, rfl⟩
      go_loopw [8, 45] (fun s i wz => ∃ (k : Nat) (S : Int), k ≤ WN ∧ i = .int .i64 k ∧ s = .int .i64 S ∧ 0 ≤ S ∧ S ≤ 2000000000000 ∧ Hid (S = 1 + (k : Int) * (1 + QT)) ∧ Hid (Ext wo wz) ∧ Hid (BoxL wz XB [.string (str x.name), .int .u8 (x.kind.toNat : Int), .slice aa ma ca, .string (str x.over), .int .i64 WN, .int .i64 QT]) ∧ Hid (BoxL wz TB [.string { data := #[116] }, .int .u8 0, .slice none 0 0, .string { data := #[] }, .int .i64 0, .int .i64 QT])) (fun _ i _ => WN - (intOf i).toNat)
      case atStart => exact ⟨0, 1, by omega, rfl, rfl, by omega, by omega, Lib.hid (by simp), HE3, Lib.hid (by rw [HWD.out, HQT.out]; exact HBx3.out), HBt3⟩
      case round =>
        clear HE3 HBx3 HBt3 y1 y4
        obtain ⟨k, S, hk, rfl, rfl, hS0, hS1, HS, HE3, HBx3, HBt3⟩ := hrel
        have hkw : (k : Int) * (1 + QT) ≤ 1000000 * 1000001 := Int.mul_le_mul (by omega) (by omega) (by omega) (by omega)
        have HKw := Lib.hid hkw
        clear hkw
        by_cases hkl : k < WN
        case neg =>
          have HSC := Lib.hid (show S = costF x by rw [HCf.out, HS.out, show k = WN by omega])
          have z := HBx3.out.six
          obtain ⟨z0, z1, z2, z3, z4, z5⟩ := z
          go_wp2_with fail
          refine (HCo.out _ HE3.out).mono ?_
          rw [← HSC.out]
          rintro e w5 ⟨rfl, hE5⟩
          have HE5 := Lib.hid (HE.out.trans (HE3.out.trans hE5))
          have hs1 : ((S != S) = false) := by simp
          have hs2 : 1 ≤ S := by rw [HSC.out]; exact HCx.out
          clear hE5 z0 z1 z2 z3 z4 z5
          go_wp2_with fail
          go_roundw
          case rel => exact ⟨j + 1, by omega, by go_num, HE5⟩
          case measure => simp [intOf]; omega
        have HS2 := Lib.hid (show S + (1 + QT) = 1 + ((k + 1 : Nat) : Int) * (1 + QT) by rw [HS.out]; simp only [Int.natCast_add, Int.add_mul]; omega)
        have hs3 : S + (1 + QT) ≤ 2000000000000 := by have := HS.out; have := HKw.out; omega
        have hk0 : (0 : Int) ≤ (k : Int) := by omega
        have hk1 : (k : Int) < (WN : Int) := by omega
        obtain ⟨c0, c1, c2, c3, c4, c5⟩ := HBt3.out.six
        go_wp2_with fail
        refine (HTk.out _).mono ?_
        rintro e w4 ⟨rfl, hE4⟩
        have HE4 := Lib.hid (HE3.out.trans hE4)
        have HBx4 := Lib.hid (HBx3.out.ext hE4)
        have HBt4 := Lib.hid (HBt3.out.ext hE4)
        clear hE4 c0 c1 c2 c3 c4 c5 HE3 HBx3 HBt3
        go_wp2_with fail
        go_roundw
        case rel => exact ⟨k + 1, S + (1 + QT), by omega, by go_num, rfl, by omega, by omega, HS2, HE4, HBx4, HBt4⟩
        case measure => simp [intOf]; omega
    · have t1 : (K == 1) = false := by rw [hk]; simpa using h1
      obtain ⟨S, hS⟩ : ∃ S, S = 1 + QT := ⟨_, rfl⟩
      have HSC := Lib.hid (show S = costF x by rw [costF_task h1, ← HQT.out, hS])
      clear hk h1 y4
      go_upto_region 15 with (fail)
      rw [← hS]
      have HBx3 := Lib.hid (show BoxL w3 XB [.string (str x.name), .int .u8 (x.kind.toNat : Int), .slice aa ma ca, .string (str x.over), .int .i64 WD, .int .i64 QT] by rw [HQT.out, HWD.out]; exact HBx3.out)
      clear hS y1
      have z := HBx3.out.six
      obtain ⟨z0, z1, z2, z3, z4, z5⟩ := z
      go_wp2_with fail
      refine (HCo.out _ HE3.out).mono ?_
      rw [← HSC.out]
      rintro e w5 ⟨rfl, hE5⟩
      have HE5 := Lib.hid (HE.out.trans (HE3.out.trans hE5))
      have hs1 : ((S != S) = false) := by simp
      have hs2 : 1 ≤ S := by rw [HSC.out]; exact HCx.out
      clear hE5 z0 z1 z2 z3 z4 z5
      go_wp2_with fail
      go_roundw
      case rel => exact ⟨j + 1, by omega, by go_num, HE5⟩
      case measure => simp [intOf]; omega
end Go.Proofs.YtgclfmdpapadnaaDoor
