/- Walks: awake of law 09. -/
import Derived.Test.YtgclfmdpapadnaaDoorPlQ
import Derived.Deep.MidRow
import Derived.Test.YtgclfmdpapadnaaDoorVaA
import Derived.Deep.RegionHeld3
import Derived.Great.BuildSlice
import Derived.Test.YtgclfmdpapadnaaDoorProg
import Derived.Deep.RegionLaw
import Derived.Test.YtgclfmdpapadnaaDoorCc
import Derived.BigRegion
import Derived.WalkLawsBesides
import Derived.Deep.RegionWith
import Derived.Deep.Cut
namespace Fm
open Go
open Go.RowKit

theorem flat16_all : ∀ (cs : List (List Value)), (∀ C, C ∈ cs → C.length = 16) → cs.flatten.length = cs.length * 16
  | [], _ => rfl
  | C :: cs, h => by
    have h1 := h C (List.mem_cons_self ..)
    have h2 := flat16_all cs (fun D hD => h D (List.mem_cons_of_mem _ hD))
    rw [List.flatten_cons, List.length_append, h1, h2, List.length_cons]; omega
theorem flat16_set : ∀ (cs : List (List Value)) (i j : Nat) (u : Value) (hi : i < cs.length), (∀ C, C ∈ cs → C.length = 16) → j < 16 → cs.flatten.set (i * 16 + j) u = (cs.set i (cs[i].set j u)).flatten
  | [], i, _, _, hi, _, _ => by simp at hi
  | C :: cs, 0, j, u, _, h, hj => by
    have := h C (List.mem_cons_self ..)
    simp only [List.flatten_cons, List.set_cons_zero, List.getElem_cons_zero, Nat.zero_mul, Nat.zero_add]
    rw [List.set_append_left _ _ (by omega)]
  | C :: cs, i + 1, j, u, hi, h, hj => by
    have hC := h C (List.mem_cons_self ..)
    have ih := flat16_set cs i j u (by simpa using hi) (fun D hD => h D (List.mem_cons_of_mem _ hD)) hj
    simp only [List.flatten_cons, List.set_cons_succ, List.getElem_cons_succ]
    rw [List.set_append_right _ _ (by omega), ← ih]
    congr 2
    omega
/-- A node whose slices are not its own. -/
def ShNd (w : World) (n : Nd) (C : List Value) : Prop :=
  ∃ (a : Option Addr) (m c : Nat) (k N s d : Value), C = ndCells n (.slice a m c) k N s d ∧ NdV w n (.agg C.toArray) ∧ (∀ u, u ∈ C → u.oneCell' = true)
theorem ShNd.cells {w : World} {n : Nd} {C : List Value} (h : ShNd w n C) : C.length = 16 := by
  obtain ⟨a, m, c, k, N, s, d, rfl, -⟩ := h; rfl
/-- Nodes whose row is of its own. -/
def ShN (eN : TypeId) (w0 : World) (base : Nat) (w : World) (v : Value) (l : List Nd) : Prop :=
  ∃ cs : List (List Value), cs.length = l.length ∧ w.ownsRow base eN 16 v l.length cs.flatten ∧ ∀ (i : Nat) (hi : i < l.length) (hc : i < cs.length), ShNd w0 l[i] cs[i]
/-- A node whose slices lie from p on, ahead of q. -/
def NdW (eI eV : TypeId) (p q : Nat) (w : World) (n : Nd) (C : List Value) : Prop :=
  ∃ (a : Option Addr) (m c : Nat) (k N S d : Value) (F : Nat → Prop), C = ndCells n (.slice a m c) k N S d ∧ OwnN eI p w (.slice a m c) n.after ∧ (∀ b, (Value.slice a m c).ownBlock = some b → b < q ∧ ¬ F b) ∧
    Owns eV w p n.val (.agg #[k, N, S, d]) F ∧ (∀ b, F b → b < q) ∧ ndWf n
theorem NdW.cells {eI eV : TypeId} {p q : Nat} {w : World} {n : Nd} {C : List Value} (h : NdW eI eV p q w n C) : C.length = 16 := by
  obtain ⟨a, m, c, k, N, s, d, F, rfl, -⟩ := h; rfl
theorem NdW.far {eI eV : TypeId} {p q : Nat} {w w' : World} {n : Nd} {C : List Value} (h : NdW eI eV p q w n C) (hk : ∀ b, p ≤ b → b < q → w'.heap[b]? = w.heap[b]?) : NdW eI eV p q w' n C := by
  obtain ⟨a, m, c, k, N, S, d, F, rfl, h1, h2, h3, h4, h5⟩ := h
  exact ⟨a, m, c, k, N, S, d, F, rfl, ownsRow_block h1 (fun b hb => hk b (World.ownsRow.lt h1 b hb).1 (h2 b hb).1), h2, h3.kept (fun b hb => hk b (h3.bounds b hb).1 (h4 b hb)), h4, h5⟩
theorem NdW.v {eI eV : TypeId} {p q : Nat} {w : World} {n : Nd} {C : List Value} (h : NdW eI eV p q w n C) : NdV w n (.agg C.toArray) := by
  obtain ⟨a, m, c, k, N, S, d, F, rfl, h1, -, h2, -, h3⟩ := h
  obtain ⟨w1, w2, w3, w4, w5, w6, w7, w8, w9, w10, w11⟩ := h3
  exact ⟨a, m, c, k, N, S, d, rfl, h1.row w11, h2.lies, w1, w2, w3, w4, w5, w6, w7, w8, w9⟩
/-- A copy of nodes, the row ahead of lo 0, node i's slices from lo i on, ahead of lo (i + 1). -/
def CopyN (eN eI eV : TypeId) (base : Nat) (w : World) (v : Value) (l : List Nd) : Prop :=
  ∃ (cs : List (List Value)) (lo : Nat → Nat), cs.length = l.length ∧ w.ownsRow base eN 16 v l.length cs.flatten ∧ (∀ b, v.ownBlock = some b → b < lo 0) ∧ base ≤ lo 0 ∧ (∀ i, i < l.length → lo i ≤ lo (i + 1)) ∧ lo l.length ≤ w.heap.size ∧
    ∀ (i : Nat) (hi : i < l.length) (hc : i < cs.length), NdW eI eV (lo i) (lo (i + 1)) w l[i] cs[i]
/-- The first j nodes are copied. -/
def HalfN (eN eI eV : TypeId) (w0 : World) (base : Nat) (w : World) (v : Value) (l : List Nd) (j : Nat) : Prop :=
  ∃ (cs : List (List Value)) (lo : Nat → Nat), cs.length = l.length ∧ w.ownsRow base eN 16 v l.length cs.flatten ∧ (∀ b, v.ownBlock = some b → b < lo 0) ∧ base ≤ lo 0 ∧ (∀ i, i < j → lo i ≤ lo (i + 1)) ∧ lo j ≤ w.heap.size ∧
    (∀ (i : Nat) (hi : i < l.length) (hc : i < cs.length), j ≤ i → ShNd w0 l[i] cs[i]) ∧ ∀ (i : Nat) (hi : i < l.length) (hc : i < cs.length), i < j → NdW eI eV (lo i) (lo (i + 1)) w l[i] cs[i]
theorem HalfN.ext {eN eI eV : TypeId} {w0 w w' : World} {base : Nat} {v : Value} {l : List Nd} {j : Nat} (h : HalfN eN eI eV w0 base w v l j) (hE : Ext w w') : HalfN eN eI eV w0 base w' v l j := by
  obtain ⟨cs, lo, h1, h2, h3, h4, h5, h6, h7, h8⟩ := h
  have hmon : ∀ k, k ≤ j → ∀ i, i ≤ k → lo i ≤ lo k := fun k => by
    induction k with
    | zero => intro _ i hi; have : i = 0 := by omega
              subst this; exact Nat.le_refl _
    | succ k ih =>
      intro hk i hi
      rcases Nat.lt_or_ge i (k + 1) with h | h
      · exact Nat.le_trans (ih (by omega) i (by omega)) (h5 k (by omega))
      · have : i = k + 1 := by omega
        subst this; exact Nat.le_refl _
  exact ⟨cs, lo, h1, hE.own h2, h3, h4, h5, Nat.le_trans h6 hE.size, h7, fun i hi hc hij => (h8 i hi hc hij).far (fun b _ hb => hE.block b (by have := hmon j (Nat.le_refl _) (i + 1) (by omega); omega))⟩
theorem set5 {n : Nd} {e k N s d e' k' N' s' d' : Value} : (((((ndCells n e k N s d).set 6 e').set 12 k').set 13 N').set 14 s').set 15 d' = ndCells n e' k' N' s' d' := rfl
theorem set5_flat {cs : List (List Value)} {j : Nat} (hj : j < cs.length) (h16 : ∀ C, C ∈ cs → C.length = 16) (e k N s d : Value) :
    ((((cs.flatten.set (j * 16 + 6) e).set (j * 16 + 12) k).set (j * 16 + 13) N).set (j * 16 + 14) s).set (j * 16 + 15) d = (cs.set j (((((cs[j].set 6 e).set 12 k).set 13 N).set 14 s).set 15 d)).flatten := by
  have step : ∀ (ds : List (List Value)) (hl : j < ds.length), (∀ C, C ∈ ds → C.length = 16) → ∀ (i : Nat) (u : Value), i < 16 → ds.flatten.set (j * 16 + i) u = (ds.set j (ds[j].set i u)).flatten := fun ds hl h i u hi => flat16_set ds j i u hl h hi
  have keep : ∀ (ds : List (List Value)) (hl : j < ds.length) (i : Nat) (u : Value), (∀ C, C ∈ ds → C.length = 16) → ∀ C, C ∈ ds.set j (ds[j].set i u) → C.length = 16 := fun ds hl i u h C hC => by
    rcases List.mem_or_eq_of_mem_set hC with h1 | h1
    · exact h C h1
    · rw [h1, List.length_set]; exact h _ (List.getElem_mem hl)
  have k1 := keep cs hj 6 e h16
  rw [step cs hj h16 6 e (by omega)]
  have l1 : j < (cs.set j (cs[j].set 6 e)).length := by simpa using hj
  have k2 := keep _ l1 12 k k1
  rw [step _ l1 k1 12 k (by omega)]
  have l2 : j < ((cs.set j (cs[j].set 6 e)).set j ((cs.set j (cs[j].set 6 e))[j].set 12 k)).length := by simpa using hj
  have k3 := keep _ l2 13 N k2
  rw [step _ l2 k2 13 N (by omega)]
  have l3 := l2
  rw [← List.length_set (i := j) (a := (((cs.set j (cs[j].set 6 e)).set j ((cs.set j (cs[j].set 6 e))[j].set 12 k))[j].set 13 N))] at l3
  have k4 := keep _ l3 14 s k3
  rw [step _ l3 k3 14 s (by omega)]
  rw [step _ (by simpa using hj) k4 15 d (by omega)]
  simp
theorem HalfN.step {eN eI eV : TypeId} {w0 wr w W : World} {base : Nat} {l : List Nd} {j g cap : Nat} (h : HalfN eN eI eV w0 base wr (.slice (some ⟨g, 0, none⟩) l.length cap) l j) (hj : j < l.length) (hE : Ext wr w) {a : Option Addr} {m c : Nat} {k N s d : Value} {F : Nat → Prop}
    (hA : OwnN eI wr.heap.size w (.slice a m c) l[j].after) (hF : ∀ b, (Value.slice a m c).ownBlock = some b → ¬ F b) (hV : Owns eV w wr.heap.size l[j].val (.agg #[k, N, s, d]) F)
    (hW : ∀ xs, w.ownsRow base eN 16 (.slice (some ⟨g, 0, none⟩) l.length cap) l.length xs → W.ownsRow base eN 16 (.slice (some ⟨g, 0, none⟩) l.length cap) l.length (((((xs.set (j * 16 + 6) (.slice a m c)).set (j * 16 + 12) k).set (j * 16 + 13) N).set (j * 16 + 14) s).set (j * 16 + 15) d))
    (hg : w.grownBy W (some g)) : HalfN eN eI eV w0 base W (.slice (some ⟨g, 0, none⟩) l.length cap) l (j + 1) := by
  obtain ⟨cs, lo, h1, h2, h3, h4, h5, h6, h7, h8⟩ := h
  have hmon : ∀ k, k ≤ j → ∀ i, i ≤ k → lo i ≤ lo k := fun k => by
    induction k with
    | zero => intro _ i hi; have : i = 0 := by omega
              subst this; exact Nat.le_refl _
    | succ k ih =>
      intro hk i hi
      rcases Nat.lt_or_ge i (k + 1) with h | h
      · exact Nat.le_trans (ih (by omega) i (by omega)) (h5 k (by omega))
      · have : i = k + 1 := by omega
        subst this; exact Nat.le_refl _
  have hgl : g < lo 0 := h3 g rfl
  have hjc : j < cs.length := by omega
  have h16 : ∀ C, C ∈ cs → C.length = 16 := fun C hC => by
    obtain ⟨i, hi, rfl⟩ := List.getElem_of_mem hC
    rcases Nat.lt_or_ge i j with h | h
    · exact (h8 i (by omega) hi h).cells
    · exact (h7 i (by omega) hi h).cells
  obtain ⟨a0, m0, c0, k0, N0, s0, d0, eC, hC, -⟩ := h7 j hj hjc (Nat.le_refl _)
  have hw := hW _ (hE.own h2)
  rw [set5_flat hjc h16, eC, set5] at hw
  have hlj := hmon j (Nat.le_refl _) 0 (by omega)
  refine ⟨cs.set j (ndCells l[j] (.slice a m c) k N s d), fun i => if i ≤ j then lo i else W.heap.size, by simp [h1], hw, ?_, ?_, fun i hi => ?_, ?_, fun i hi hc hji => ?_, fun i hi hc hij => ?_⟩
  · intro b hb; simpa using h3 b hb
  · simpa using h4
  · dsimp only
    rw [if_pos (by omega)]
    by_cases e : i + 1 ≤ j
    · rw [if_pos e]; exact h5 i (by omega)
    · rw [if_neg e]
      have : i = j := by omega
      subst this
      exact Nat.le_trans h6 (Nat.le_trans hE.size hg.size)
  · dsimp only; rw [if_neg (by omega)]; exact Nat.le_refl _
  · have hic : i < cs.length := by simpa using hc
    rw [List.getElem_set_ne (by omega)]
    exact h7 i hi hic (by omega)
  · have hic : i < cs.length := by simpa using hc
    dsimp only
    rw [if_pos (by omega)]
    by_cases e : i = j
    · subst e
      rw [if_neg (by omega), List.getElem_set_self]
      have hn : ndWf l[i] := hC.wf
      refine ⟨a, m, c, k, N, s, d, F, rfl, ?_, fun b hb => ⟨?_, hF b hb⟩, ?_, fun b hb => ?_, hn⟩
      · refine ownsRow_mono (ownsRow_block hA (fun b hb => hg.block b (World.ownsRow.lt hA b hb).2 (fun e => ?_))) h6
        have := (World.ownsRow.lt hA b hb).1
        injection e with e
        omega
      · exact Nat.lt_of_lt_of_le (World.ownsRow.lt hA b hb).2 hg.size
      · refine (hV.kept (fun b hb => hg.block b (hV.bounds b hb).2 (fun e => ?_))).mono h6
        have := (hV.bounds b hb).1
        injection e with e
        omega
      · exact Nat.lt_of_lt_of_le (hV.bounds b hb).2 hg.size
    · rw [if_pos (by omega), List.getElem_set_ne (fun h => e h.symm)]
      refine (h8 i hi hic (by omega)).far (fun b hb1 hb2 => ?_)
      have hb3 : b < lo j := Nat.lt_of_lt_of_le hb2 (hmon j (Nat.le_refl _) (i + 1) (by omega))
      have hb4 : g < b := Nat.lt_of_lt_of_le hgl (Nat.le_trans (hmon i (by omega) 0 (by omega)) hb1)
      rw [hg.block b (by have := hE.size; omega) (fun e => by injection e with e; omega)]
      exact hE.block b (by omega)
/-- The same in a world where a block ahead of the copy has changed. -/
theorem HalfN.set {eN eI eV : TypeId} {w0 w : World} {base : Nat} {v : Value} {l : List Nd} {j b : Nat} (h : HalfN eN eI eV w0 base w v l j) (hb : b < base) (o : Nat) (u : Value) : HalfN eN eI eV w0 base (w.setCell ⟨b, o, none⟩ u) v l j := by
  obtain ⟨cs, lo, h1, h2, h3, h4, h5, h6, h7, h8⟩ := h
  have hg := setOne_grown w b o u
  have hmon : ∀ i, i ≤ j → base ≤ lo i := fun i => by
    induction i with
    | zero => exact fun _ => h4
    | succ i ih => exact fun hi => Nat.le_trans (ih (by omega)) (h5 i (by omega))
  refine ⟨cs, lo, h1, ownsRow_block h2 (fun k hk => hg.block k (h2.lt k hk).2 (fun e => ?_)), h3, h4, h5, Nat.le_trans h6 hg.size, h7, fun i hi hc hij => ?_⟩
  · injection e with e
    have := (h2.lt k hk).1
    omega
  · have q := h8 i hi hc hij
    obtain ⟨a, m, c, k, N, S, d, F, rfl', k1, k2, k3, k4, k5⟩ := q
    have hbi := hmon i (by omega)
    refine ⟨a, m, c, k, N, S, d, F, rfl', ownsRow_block k1 (fun x hx => hg.block x (World.ownsRow.lt k1 x hx).2 (fun e => ?_)), k2, k3.kept (fun x hx => hg.block x (k3.bounds x hx).2 (fun e => ?_)), k4, k5⟩
    · injection e with e
      have := (World.ownsRow.lt k1 x hx).1
      omega
    · injection e with e
      have := (k3.bounds x hx).1
      omega
/-- A node that is still to be copied. -/
theorem HalfN.at {eN eI eV : TypeId} {w0 w : World} {base g cap : Nat} {l : List Nd} {j : Nat} (h : HalfN eN eI eV w0 base w (.slice (some ⟨g, 0, none⟩) l.length cap) l j) (hj : j < l.length) :
    ∃ (a : Option Addr) (m c : Nat) (k N s d : Value), NdV w0 l[j] (.agg (ndCells l[j] (.slice a m c) k N s d).toArray) ∧ (∀ i u, (ndCells l[j] (.slice a m c) k N s d)[i]? = some u → w.cell? ⟨g, j * 16 + i, none⟩ = some u) ∧ (∀ i, w.frozen? ⟨g, i, none⟩ = false) ∧ base ≤ g ∧ g < w.heap.size := by
  obtain ⟨cs, lo, h1, h2, h3, h4, h5, h6, h7, h8⟩ := h
  have hjc : j < cs.length := by omega
  have h16 : ∀ C, C ∈ cs → C.length = 16 := fun C hC => by
    obtain ⟨i, hi, rfl⟩ := List.getElem_of_mem hC
    rcases Nat.lt_or_ge i j with h | h
    · exact (h8 i (by omega) hi h).cells
    · exact (h7 i (by omega) hi h).cells
  obtain ⟨a, m, c, k, N, s, d, eC, hC, -⟩ := h7 j hj hjc (Nat.le_refl _)
  rw [eC] at hC
  refine ⟨a, m, c, k, N, s, d, hC, fun i u hu => ?_, fun i => h2.frozenAt _, (h2.lt g rfl).1, (h2.lt g rfl).2⟩
  have hi : i < 16 := (List.getElem?_eq_some_iff.1 hu).1
  have hfl := flat16_all cs h16
  rw [h2.cellAt _ (by omega), flat16 cs j i hjc h16 hi, eC]
  exact hu
theorem CopyN.mono {eN eI eV : TypeId} {base base' : Nat} {w : World} {v : Value} {l : List Nd} (h : CopyN eN eI eV base w v l) (hb : base' ≤ base) : CopyN eN eI eV base' w v l := by
  obtain ⟨cs, lo, h1, h2, h3, h4, h5⟩ := h
  exact ⟨cs, lo, h1, ownsRow_mono h2 hb, h3, Nat.le_trans hb h4, h5⟩
theorem CopyN.slice {eN eI eV : TypeId} {base : Nat} {w : World} {v : Value} {l : List Nd} (h : CopyN eN eI eV base w v l) : ∃ a c, v = .slice a l.length c := by
  obtain ⟨cs, lo, h1, h2, _⟩ := h
  rcases h2.2 with ⟨e, e2⟩ | ⟨g, cap, cur, e, _⟩
  · exact ⟨none, 0, by rw [e, e2]⟩
  · exact ⟨_, _, e⟩
theorem ShN.slice {eN : TypeId} {w0 w : World} {base : Nat} {v : Value} {l : List Nd} (h : ShN eN w0 base w v l) : (l = [] ∧ v = .slice none 0 0) ∨ ∃ g c, v = .slice (some ⟨g, 0, none⟩) l.length c ∧ l.length ≤ c := by
  obtain ⟨cs, h1, h2, _⟩ := h
  rcases h2.2 with ⟨e, e2⟩ | ⟨g, cap, cur, e, hb, hg, hl, _⟩
  · exact .inl ⟨List.eq_nil_of_length_eq_zero e2, e⟩
  · exact .inr ⟨g, cap, e, hl⟩
end Fm

/- Nodes in blocks that are open, changed and written over: plain facts. No program is imported. -/
namespace Fm
open Go Go.RowKit

/-- What lies outside the open blocks stays. -/
structure Keep (O : Nat → Prop) (w w' : World) : Prop where
  os : w'.os = w.os
  tape : w'.tape = w.tape
  output : w'.output = w.output
  size : w.heap.size ≤ w'.heap.size
  block : ∀ b, b < w.heap.size → ¬ O b → w'.heap[b]? = w.heap[b]?
theorem Keep.refl (O : Nat → Prop) (w : World) : Keep O w w := ⟨rfl, rfl, rfl, Nat.le_refl _, fun _ _ _ => rfl⟩
theorem Keep.trans {O : Nat → Prop} {a b c : World} (h : Keep O a b) (k : Keep O b c) : Keep O a c :=
  ⟨k.os.trans h.os, k.tape.trans h.tape, k.output.trans h.output, Nat.le_trans h.size k.size, fun x hx ho => (k.block x (Nat.lt_of_lt_of_le hx h.size) ho).trans (h.block x hx ho)⟩
theorem Keep.grown {O : Nat → Prop} {a b c : World} {row : Option Nat} (h : Keep O a b) (hg : b.grownBy c row) (hr : ∀ k, row = some k → O k) : Keep O a c :=
  h.trans ⟨hg.os, hg.tape, hg.output, hg.size, fun x hx ho => hg.block x hx (fun e => ho (hr x e.symm))⟩
theorem Keep.ext {O : Nat → Prop} {a b c : World} (h : Keep O a b) (hE : Ext b c) : Keep O a c := h.grown (row := none) hE.grownBy (fun k hk => by cases hk)
theorem Keep.mono {O O' : Nat → Prop} {w w' : World} (h : Keep O w w') (hO : ∀ b, O b → O' b) : Keep O' w w' := ⟨h.os, h.tape, h.output, h.size, fun b hb ho => h.block b hb (fun q => ho (hO b q))⟩
/-- Cells that are there, and may be written. -/
def Has (w : World) (b n : Nat) : Prop := b < w.heap.size ∧ ∀ j, j < n → (∃ u, w.cell? ⟨b, j, none⟩ = some u) ∧ w.frozen? ⟨b, j, none⟩ = false
theorem Has.set {w : World} {b n : Nat} (h : Has w b n) (b' j' : Nat) (u : Value) : Has (w.setCell ⟨b', j', none⟩ u) b n := by
  refine ⟨by simp [h.1], fun j hj => ?_⟩
  obtain ⟨⟨x, hx⟩, hf⟩ := h.2 j hj
  refine ⟨?_, by rw [World.frozen?_setCell]; exact hf⟩
  by_cases e : (⟨b, j, none⟩ : Addr) = ⟨b', j', none⟩
  · rw [← e]; exact ⟨u, World.cell?_setCell_same _ _ _ hx⟩
  · exact ⟨x, (World.cell?_setCell_other w _ _ u (fun h => e h.symm)).trans hx⟩
theorem Has.block {w w' : World} {b n : Nat} (h : Has w b n) (hb : w'.heap[b]? = w.heap[b]?) (hs : w.heap.size ≤ w'.heap.size) : Has w' b n := by
  refine ⟨Nat.lt_of_lt_of_le h.1 hs, fun j hj => ?_⟩
  obtain ⟨⟨x, hx⟩, hf⟩ := h.2 j hj
  exact ⟨⟨x, (World.cell?_of_block (a := ⟨b, j, none⟩) hb).trans hx⟩, (World.frozen?_of_block (a := ⟨b, j, none⟩) hb).trans hf⟩
theorem Has.ext {w w' : World} {b n : Nat} (h : Has w b n) (hE : Ext w w') : Has w' b n := h.block (hE.block b h.1) hE.size
/-- A slice whose cells may be written, in an open block, none of two others. -/
def OpenSl (O : Nat → Prop) (w : World) (g p sz : Nat) (v : Value) : Prop :=
  ∃ a m c, v = .slice a m c ∧ m ≤ 9223372036854775807 ∧ (0 < m → ∃ b, a = some ⟨b, 0, none⟩ ∧ O b ∧ b ≠ g ∧ b ≠ p ∧ Has w b (m * sz))
theorem OpenSl.set {O : Nat → Prop} {w : World} {g p sz : Nat} {v : Value} (h : OpenSl O w g p sz v) (b' j' : Nat) (u : Value) : OpenSl O (w.setCell ⟨b', j', none⟩ u) g p sz v := by
  obtain ⟨a, m, c, h1, h2, h3⟩ := h
  refine ⟨a, m, c, h1, h2, fun hm => ?_⟩
  obtain ⟨b, k1, k2, k3, k4, k5⟩ := h3 hm
  exact ⟨b, k1, k2, k3, k4, k5.set _ _ _⟩
theorem OpenSl.ext {O : Nat → Prop} {w w' : World} {g p sz : Nat} {v : Value} (h : OpenSl O w g p sz v) (hE : Ext w w') : OpenSl O w' g p sz v := by
  obtain ⟨a, m, c, h1, h2, h3⟩ := h
  refine ⟨a, m, c, h1, h2, fun hm => ?_⟩
  obtain ⟨b, k1, k2, k3, k4, k5⟩ := h3 hm
  exact ⟨b, k1, k2, k3, k4, k5.ext hE⟩
theorem OpenSl.own {O : Nat → Prop} {w : World} {g p sz base e n : Nat} {v : Value} {xs : List Value} (h : w.ownsRow base e sz v n xs) (hO : ∀ b, v.ownBlock = some b → O b ∧ b ≠ g ∧ b ≠ p) : OpenSl O w g p sz v := by
  have hx := h.1
  rcases h.2 with ⟨e1, e2⟩ | ⟨b, cap, cur, e1, h1, h2, h3, h4, h5, h6⟩
  · exact ⟨none, 0, 0, e1, by omega, fun h => by omega⟩
  · subst e1
    obtain ⟨k1, k2, k3⟩ := hO b rfl
    refine ⟨_, _, _, rfl, by unfold maxLen at h4; omega, fun hm => ⟨b, rfl, k1, k2, k3, (h.lt b rfl).2, fun j hj => ⟨⟨_, (h.cellAt j (by omega)).trans (List.getElem?_eq_getElem (by omega))⟩, h.frozenAt j⟩⟩⟩
/-- Nodes from their cells. -/
theorem ndRow_parts {eN : TypeId} {base : Nat} {w : World} {v : Value} {l : List Nd} {cs : List (List Value)} (h1 : cs.length = l.length) (h2 : w.ownsRow base eN 16 v l.length cs.flatten)
    (h3 : ∀ (i : Nat) (hi : i < l.length) (hc : i < cs.length), cs[i].length = 16 ∧ NdV w l[i] (.agg cs[i].toArray)) : ndE.Row w l v := by
  have hc := fun g => World.ownsRow.cells h2 (g := g)
  have h16 : ∀ C, C ∈ cs → C.length = 16 := fun C hC => by
    obtain ⟨i, hi, rfl⟩ := List.getElem_of_mem hC
    exact (h3 i (by omega) hi).1
  rcases h2.2 with ⟨rfl, h0⟩ | ⟨g, cap, cur, rfl, hb, hg, hl, hm, h5, h6⟩
  · have : l = [] := List.eq_nil_of_length_eq_zero h0
    subst this
    exact Elem.Row.void ndE w none
  · refine Elem.Row.mk rfl hl hm (Array.getElem?_eq_some_iff.1 hg).1 (fun i hi => ?_)
    have hd : i < cs.length := by omega
    obtain ⟨hlen, hn⟩ := h3 i hi hd
    refine ⟨fun j => cs[i].getD j .nilFunc, ?_, fun j hj => ?_⟩
    · obtain ⟨a, m, c, k, N, S, x, e, k1, k2, k3⟩ := hn
      injection e with e
      have e := congrArg Array.toList e
      simp only at e
      rw [e]
      exact ⟨⟨rfl, rfl, rfl, rfl, rfl, rfl⟩, k1, ⟨rfl, rfl, rfl, rfl, rfl⟩, k2, k3⟩
    · have hj16 : j < 16 := hj
      have := hc g rfl (i * 16 + j) (cs[i].getD j .nilFunc) (by
        rw [flat16 cs i j hd h16 hj16, List.getD_eq_getElem?_getD, List.getElem?_eq_getElem (by omega)]; rfl)
      rw [Addr.add_lit] at this
      exact this
/-- Nodes that may be written over: their row in an open block, and what they are after and their lists too. -/
def RigN (eN : TypeId) (O : Nat → Prop) (p : Nat) (w : World) (v : Value) (l : List Nd) : Prop :=
  ∃ cs : List (List Value), cs.length = l.length ∧ w.ownsRow 0 eN 16 v l.length cs.flatten ∧ (∀ g, v.ownBlock = some g → O g ∧ g ≠ p) ∧
    ∀ (i : Nat) (hi : i < l.length) (hc : i < cs.length), cs[i].length = 16 ∧ NdV w l[i] (.agg cs[i].toArray) ∧
      ∀ g, v.ownBlock = some g → OpenSl O w g p 1 (cs[i].getD 6 .nilFunc) ∧ OpenSl O w g p 4 (cs[i].getD 15 .nilFunc)
theorem RigN.row {eN : TypeId} {O : Nat → Prop} {p : Nat} {w : World} {v : Value} {l : List Nd} (h : RigN eN O p w v l) : ndE.Row w l v := by
  obtain ⟨cs, h1, h2, h3, h4⟩ := h
  exact ndRow_parts h1 h2 (fun i hi hc => ⟨(h4 i hi hc).1, (h4 i hi hc).2.1⟩)
theorem RigN.ext {eN : TypeId} {O : Nat → Prop} {p : Nat} {w w' : World} {v : Value} {l : List Nd} (h : RigN eN O p w v l) (hE : Ext w w') : RigN eN O p w' v l := by
  obtain ⟨cs, h1, h2, h3, h4⟩ := h
  exact ⟨cs, h1, hE.own h2, h3, fun i hi hc => ⟨(h4 i hi hc).1, (h4 i hi hc).2.1.ext hE, fun g hg => ⟨((h4 i hi hc).2.2 g hg).1.ext hE, ((h4 i hi hc).2.2 g hg).2.ext hE⟩⟩⟩
/-- A copy of nodes, all its blocks from base on, ahead of top. -/
def CopyT (eN eI eV : TypeId) (base top : Nat) (w : World) (v : Value) (l : List Nd) : Prop :=
  ∃ (cs : List (List Value)) (lo : Nat → Nat), cs.length = l.length ∧ w.ownsRow base eN 16 v l.length cs.flatten ∧ (∀ b, v.ownBlock = some b → b < lo 0) ∧ base ≤ lo 0 ∧ (∀ i, i < l.length → lo i ≤ lo (i + 1)) ∧ lo l.length ≤ top ∧ top ≤ w.heap.size ∧
    ∀ (i : Nat) (hi : i < l.length) (hc : i < cs.length), NdW eI eV (lo i) (lo (i + 1)) w l[i] cs[i]
theorem CopyN.top {eN eI eV : TypeId} {base : Nat} {w : World} {v : Value} {l : List Nd} (h : CopyN eN eI eV base w v l) : CopyT eN eI eV base w.heap.size w v l := by
  obtain ⟨cs, lo, h1, h2, h3, h4, h5, h6, h7⟩ := h
  exact ⟨cs, lo, h1, h2, h3, h4, h5, h6, Nat.le_refl _, h7⟩
theorem lo_mono {lo : Nat → Nat} {n : Nat} (h5 : ∀ i, i < n → lo i ≤ lo (i + 1)) : ∀ k, k ≤ n → ∀ i, i ≤ k → lo i ≤ lo k := fun k => by
  induction k with
  | zero => intro _ i hi; have : i = 0 := by omega
            subst this; exact Nat.le_refl _
  | succ k ih =>
    intro hk i hi
    rcases Nat.lt_or_ge i (k + 1) with h | h
    · exact Nat.le_trans (ih (by omega) i (by omega)) (h5 k (by omega))
    · have : i = k + 1 := by omega
      subst this; exact Nat.le_refl _
/-- What is not within the copy's blocks may change. -/
theorem CopyT.far {eN eI eV : TypeId} {base top : Nat} {w w' : World} {v : Value} {l : List Nd} (h : CopyT eN eI eV base top w v l) (hk : ∀ b, base ≤ b → b < top → w'.heap[b]? = w.heap[b]?) (hs : w.heap.size ≤ w'.heap.size) : CopyT eN eI eV base top w' v l := by
  obtain ⟨cs, lo, h1, h2, h3, h4, h5, h6, h7, h8⟩ := h
  have hm := lo_mono h5
  refine ⟨cs, lo, h1, ownsRow_block h2 (fun b hb => hk b (h2.lt b hb).1 ?_), h3, h4, h5, h6, Nat.le_trans h7 hs, fun i hi hc => (h8 i hi hc).far (fun b hb1 hb2 => hk b ?_ ?_)⟩
  · have := h3 b hb; have := hm l.length (Nat.le_refl _) 0 (by omega); omega
  · have := hm i (by omega) 0 (by omega); omega
  · have := hm l.length (Nat.le_refl _) (i + 1) (by omega); omega
theorem CopyT.ext {eN eI eV : TypeId} {base top : Nat} {w w' : World} {v : Value} {l : List Nd} (h : CopyT eN eI eV base top w v l) (hE : Ext w w') : CopyT eN eI eV base top w' v l := by
  have ht : top ≤ w.heap.size := by obtain ⟨_, _, _, _, _, _, _, _, h7, _⟩ := h; exact h7
  exact h.far (fun b _ hb => hE.block b (by omega)) hE.size
theorem CopyT.row {eN eI eV : TypeId} {base top : Nat} {w : World} {v : Value} {l : List Nd} (h : CopyT eN eI eV base top w v l) : ndE.Row w l v := by
  obtain ⟨cs, lo, h1, h2, h3, h4, h5, h6, h7, h8⟩ := h
  exact ndRow_parts h1 h2 (fun i hi hc => ⟨(h8 i hi hc).cells, (h8 i hi hc).v⟩)
theorem CopyT.slice {eN eI eV : TypeId} {base top : Nat} {w : World} {v : Value} {l : List Nd} (h : CopyT eN eI eV base top w v l) : (l = [] ∧ v = .slice none 0 0) ∨ ∃ g c, v = .slice (some ⟨g, 0, none⟩) l.length c ∧ l.length ≤ c ∧ base ≤ g ∧ g < top := by
  obtain ⟨cs, lo, h1, h2, h3, h4, h5, h6, h7, h8⟩ := h
  rcases h2.2 with ⟨e, e2⟩ | ⟨g, cap, cur, e, hb, hg, hl, _⟩
  · exact .inl ⟨List.eq_nil_of_length_eq_zero e2, e⟩
  · subst e
    exact .inr ⟨g, cap, rfl, hl, (h2.lt g rfl).1, by have := h3 g rfl; have := lo_mono h5 l.length (Nat.le_refl _) 0 (by omega); omega⟩
/-- The slices of a node within a window. -/
theorem NdW.open {eI eV : TypeId} {p q : Nat} {w : World} {n : Nd} {C : List Value} (h : NdW eI eV p q w n C) {O : Nat → Prop} {g P : Nat} (hO : ∀ b, p ≤ b → b < q → O b ∧ b ≠ g ∧ b ≠ P) : OpenSl O w g P 1 (C.getD 6 .nilFunc) ∧ OpenSl O w g P 4 (C.getD 15 .nilFunc) := by
  obtain ⟨a, m, c, k, N, S, d, F, rfl, h1, h2, h3, h4, h5⟩ := h
  refine ⟨OpenSl.own (show w.ownsRow p eI 1 (.slice a m c) n.after.length (n.after.map (Value.int .i64)) from h1) (fun b hb => hO b (World.ownsRow.lt h1 b hb).1 (h2 b hb).1), ?_⟩
  obtain ⟨kk, nn, ss, ll, hv⟩ : ∃ kk nn ss ll, n.val = .node kk nn ss ll := by cases h : n.val with | node k n s l => exact ⟨k, n, s, l, rfl⟩
  rw [hv] at h3
  obtain ⟨d', e, -, -, C, G, hrow, hch, hF, -⟩ := h3.parts
  injection e with e
  injection e with e
  simp only [List.cons.injEq, and_true] at e
  obtain ⟨-, -, -, rfl⟩ := e
  exact OpenSl.own hrow (fun b hb => hO b (hrow.lt b hb).1 (h4 b ((hF b).2 (.inl hb))))
/-- One cell of a node of a copy is written. -/
theorem CopyT.put {eN eI eV : TypeId} {base top g cap i : Nat} {w : World} {l : List Nd} (h : CopyT eN eI eV base top w (.slice (some ⟨g, 0, none⟩) l.length cap) l) (hi : i < l.length) (j : Nat) (hj : j < 16) (u : Value) (n' : Nd)
    (hN : ∀ p q C, NdW eI eV p q w l[i] C → NdW eI eV p q w n' (C.set j u)) : CopyT eN eI eV base top (w.setCell ⟨g, i * 16 + j, none⟩ u) (.slice (some ⟨g, 0, none⟩) l.length cap) (l.set i n') ∧ w.grownBy (w.setCell ⟨g, i * 16 + j, none⟩ u) (some g) := by
  obtain ⟨cs, lo, h1, h2, h3, h4, h5, h6, h7, h8⟩ := h
  have hm := lo_mono h5
  have h16 : ∀ C, C ∈ cs → C.length = 16 := fun C hC => by
    obtain ⟨k, hk, rfl⟩ := List.getElem_of_mem hC
    exact (h8 k (by omega) hk).cells
  have hic : i < cs.length := by omega
  have st := h2.stored (i * 16 + j) u
  have hg0 := h3 g rfl
  rw [flat16_set cs i j u hic h16 hj] at st
  refine ⟨⟨cs.set i (cs[i].set j u), lo, by simp [h1], by rw [List.length_set]; exact st.1, h3, h4, by rw [List.length_set]; exact h5, by rw [List.length_set]; exact h6, Nat.le_trans h7 st.2.size, fun k hk hkc => ?_⟩, st.2⟩
  have hkl : k < l.length := by simpa using hk
  have hkc' : k < cs.length := by simpa using hkc
  have key : NdW eI eV (lo k) (lo (k + 1)) w (l.set i n')[k] (cs.set i (cs[i].set j u))[k] := by
    by_cases e : i = k
    · subst e
      rw [List.getElem_set_self, List.getElem_set_self]
      exact hN _ _ _ (h8 i hi hic)
    · rw [List.getElem_set_ne e, List.getElem_set_ne e]
      exact h8 k hkl hkc'
  refine key.far (fun b hb1 hb2 => st.2.block b ?_ (fun e => ?_))
  · have := hm l.length (Nat.le_refl _) (k + 1) (by omega); omega
  · injection e with e
    have := hm k (by omega) 0 (by omega)
    omega
/-- The node's cells. -/
theorem CopyT.at {eN eI eV : TypeId} {base top g cap i : Nat} {w : World} {l : List Nd} (h : CopyT eN eI eV base top w (.slice (some ⟨g, 0, none⟩) l.length cap) l) (hi : i < l.length) :
    ∃ (a : Option Addr) (m c : Nat) (k N s d : Value), NdV w l[i] (.agg (ndCells l[i] (.slice a m c) k N s d).toArray) ∧ (∀ j u, (ndCells l[i] (.slice a m c) k N s d)[j]? = some u → w.cell? ⟨g, i * 16 + j, none⟩ = some u) ∧ (∀ j, w.frozen? ⟨g, j, none⟩ = false) ∧ base ≤ g ∧ g < top ∧ g < w.heap.size ∧
      OwnN eI base w (.slice a m c) l[i].after ∧ (∀ b, (Value.slice a m c).ownBlock = some b → b < top ∧ b ≠ g) ∧
      ∀ (O : Nat → Prop) (p : Nat) (w2 : World) (v' : Value) (n' : Nd), (∀ b, base ≤ b → b < top → O b ∧ b ≠ p) → w.grownBy w2 (Value.slice a m c).ownBlock → OwnN eI base w2 v' n'.after → (∀ b, v'.ownBlock = some b → O b ∧ b ≠ g ∧ b ≠ p) →
        ndCells n' v' k N s d = (ndCells l[i] (.slice a m c) k N s d).set 6 v' → n'.val = l[i].val → ndWf n' → (∃ a' m' c', v' = .slice a' m' c') →
        w2.cell? ⟨g, i * 16 + 6, none⟩ = some (.slice a m c) ∧ w2.frozen? ⟨g, i * 16 + 6, none⟩ = false ∧ RigN eN O p (w2.setCell ⟨g, i * 16 + 6, none⟩ v') (.slice (some ⟨g, 0, none⟩) l.length cap) (l.set i n') ∧ w2.grownBy (w2.setCell ⟨g, i * 16 + 6, none⟩ v') (some g) := by
  obtain ⟨cs, lo, h1, h2, h3, h4, h5, h6, h7, h8⟩ := h
  have hm := lo_mono h5
  have h16 : ∀ C, C ∈ cs → C.length = 16 := fun C hC => by
    obtain ⟨k, hk, rfl⟩ := List.getElem_of_mem hC
    exact (h8 k (by omega) hk).cells
  have hic : i < cs.length := by omega
  have hg0 := h3 g rfl
  have hgt : g < top := by have := hm l.length (Nat.le_refl _) 0 (by omega); omega
  have hv := (h8 i hi hic).v
  obtain ⟨a, m, c, k, N, S, d, F, eC, k1, k2, k3, k4, k5⟩ := h8 i hi hic
  have hfl := flat16_all cs h16
  have l1 := hm i (by omega) 0 (by omega)
  have l2 := hm l.length (Nat.le_refl _) (i + 1) (by omega)
  have hblk : ∀ b, (Value.slice a m c).ownBlock = some b → lo i ≤ b ∧ b < lo (i + 1) := fun b hb => ⟨(World.ownsRow.lt k1 b hb).1, (k2 b hb).1⟩
  have hcell : ∀ w2 : World, w2.ownsRow base eN 16 (.slice (some ⟨g, 0, none⟩) l.length cap) l.length cs.flatten → ∀ j u, (ndCells l[i] (.slice a m c) k N S d)[j]? = some u → w2.cell? ⟨g, i * 16 + j, none⟩ = some u := fun w2 hr j u hu => by
    have hj : j < 16 := (List.getElem?_eq_some_iff.1 hu).1
    rw [hr.cellAt _ (by omega), flat16 cs i j hic h16 hj, eC]
    exact hu
  rw [eC] at hv
  refine ⟨a, m, c, k, N, S, d, hv, hcell w h2, fun j => h2.frozenAt _, (h2.lt g rfl).1, hgt, (h2.lt g rfl).2, ownsRow_mono k1 (by omega), fun b hb => ⟨by have := hblk b hb; omega, by have := hblk b hb; omega⟩, ?_⟩
  intro O p w2 v' n' hO hg hown hv' hcs hval hwf hsl
  have r2 : w2.ownsRow base eN 16 (.slice (some ⟨g, 0, none⟩) l.length cap) l.length cs.flatten := by
    refine ownsRow_block h2 (fun b hb => hg.block b (h2.lt b hb).2 (fun e => ?_))
    have := hblk b e.symm
    have := h3 b hb
    omega
  have st := r2.stored (i * 16 + 6) v'
  rw [flat16_set cs i 6 v' hic h16 (by omega)] at st
  refine ⟨hcell w2 r2 6 _ rfl, r2.frozenAt _, ⟨cs.set i (cs[i].set 6 v'), by simp [h1], ownsRow_mono (by rw [List.length_set]; exact st.1) (Nat.zero_le _), fun b hb => ?_, fun x hx hxc => ?_⟩, st.2⟩
  · obtain rfl : g = b := by injection hb
    exact hO g (h2.lt g rfl).1 hgt
  have hxl : x < l.length := by simpa using hx
  have hxc' : x < cs.length := by simpa using hxc
  by_cases e : i = x
  · subst e
    rw [List.getElem_set_self, List.getElem_set_self, eC, ← hcs]
    obtain ⟨w1, w3, w4, w5, w6, w7, w8, w9, w10, w11, w12⟩ := hwf
    obtain ⟨a', m', c', rfl⟩ := hsl
    have o2 : OwnN eI base (w2.setCell ⟨g, i * 16 + 6, none⟩ (.slice a' m' c')) (.slice a' m' c') n'.after := ownsRow_block hown (fun b hb => st.2.block b (World.ownsRow.lt hown b hb).2 (fun e => by injection e with e; exact (hv' b hb).2.1 e))
    have v2 : Owns eV (w2.setCell ⟨g, i * 16 + 6, none⟩ (.slice a' m' c')) (lo i) l[i].val (.agg #[k, N, S, d]) F := (k3.kept (fun b hb => hg.block b (k3.bounds b hb).2 (fun e => (k2 b e.symm).2 hb))).kept (fun b hb => st.2.block b (Nat.lt_of_lt_of_le (k3.bounds b hb).2 hg.size) (fun e => by injection e with e; have := (k3.bounds b hb).1; omega))
    refine ⟨rfl, ⟨a', m', c', k, N, S, d, rfl, o2.row w12, by rw [hval]; exact v2.lies, w1, w3, w4, w5, w6, w7, w8, w9, w10⟩, fun b hb => ?_⟩
    obtain rfl : g = b := by injection hb
    refine ⟨OpenSl.own (show World.ownsRow _ base eI 1 (.slice a' m' c') n'.after.length (n'.after.map (Value.int .i64)) from o2) hv', ?_⟩
    have nw : NdW eI eV (lo i) (lo (i + 1)) (w2.setCell ⟨g, i * 16 + 6, none⟩ (.slice a' m' c')) ⟨l[i].id, l[i].name, l[i].kind, l[i].flow, l[i].owner, l[i].place, [], l[i].width, l[i].quota, l[i].stand, l[i].fails, l[i].tok, l[i].val⟩ (ndCells l[i] (.slice none 0 0) k N S d) := by
      obtain ⟨y1, y2, y3, y4, y5, y6, y7, y8, y9, y10, y11⟩ := k5
      exact ⟨none, 0, 0, k, N, S, d, F, rfl, OwnN.nil _ _ _, fun b hb => by simp [Value.ownBlock] at hb, v2, k4, y1, y2, y3, y4, y5, y6, y7, y8, y9, y10, fun z hz => by cases hz⟩
    exact (nw.open (fun b hb1 hb2 => by
      obtain ⟨o1, o2⟩ := hO b (by omega) (by omega)
      exact ⟨o1, by omega, o2⟩)).2
  · rw [List.getElem_set_ne e, List.getElem_set_ne e]
    have m1 := hm x (by omega) 0 (by omega)
    have m2 := hm l.length (Nat.le_refl _) (x + 1) (by omega)
    have nw : NdW eI eV (lo x) (lo (x + 1)) (w2.setCell ⟨g, i * 16 + 6, none⟩ v') l[x] cs[x] := by
      refine ((h8 x hxl hxc').far (w' := w2) (fun b hb1 hb2 => hg.block b (by omega) (fun e2 => ?_))).far (fun b hb1 hb2 => st.2.block b (Nat.lt_of_lt_of_le (show b < w.heap.size by omega) hg.size) (fun e2 => ?_))
      · have := hblk b e2.symm
        rcases Nat.lt_or_ge i x with q | q
        · have := hm x (by omega) (i + 1) (by omega); omega
        · have := hm i (by omega) (x + 1) (by omega); omega
      · injection e2 with e2; omega
    refine ⟨nw.cells, nw.v, fun b hb => ?_⟩
    obtain rfl : g = b := by injection hb
    exact nw.open (fun b hb1 hb2 => by
      obtain ⟨o1, o2⟩ := hO b (by omega) (by omega)
      exact ⟨o1, by omega, o2⟩)
theorem CopyT.n {eN eI eV : TypeId} {base top : Nat} {w : World} {v : Value} {l : List Nd} (h : CopyT eN eI eV base top w v l) : CopyN eN eI eV base w v l := by
  obtain ⟨cs, lo, h1, h2, h3, h4, h5, h6, h7, h8⟩ := h
  exact ⟨cs, lo, h1, h2, h3, h4, h5, Nat.le_trans h6 h7, h8⟩
theorem CopyN.kept {eN eI eV : TypeId} {base : Nat} {w w' : World} {v : Value} {l : List Nd} {row : Option Nat} (h : CopyN eN eI eV base w v l) (hg : w.grownBy w' row) (hr : ∀ b, row = some b → b < base) : CopyN eN eI eV base w' v l :=
  (h.top.far (fun b hb1 hb2 => hg.block b hb2 (fun e => by have := hr b e.symm; omega)) hg.size).n
theorem CopyT.size {eN eI eV : TypeId} {base top : Nat} {w : World} {v : Value} {l : List Nd} (h : CopyT eN eI eV base top w v l) : top ≤ w.heap.size := by
  obtain ⟨_, _, _, _, _, _, _, _, h7, _⟩ := h; exact h7
theorem CopyT.block {eN eI eV : TypeId} {base top : Nat} {w : World} {v : Value} {l : List Nd} (h : CopyT eN eI eV base top w v l) (b : Nat) (hb : v.ownBlock = some b) : base ≤ b ∧ b < top := by
  obtain ⟨cs, lo, h1, h2, h3, h4, h5, h6, h7, h8⟩ := h
  have := lo_mono h5 l.length (Nat.le_refl _) 0 (by omega)
  have := h3 b hb
  exact ⟨(h2.lt b hb).1, by omega⟩
end Fm

/- Two copies of a state, and what is written over: plain facts. No program is imported. -/
namespace Fm
open Go Go.RowKit

/-- Two copies, each in blocks of its own, and their boxes. -/
structure Two (eN eI eV : TypeId) (w0 w : World) (u1 u2 : List Value) (l : List Nd) (b1 b2 : Nat) (v1 v2 : Value) (p1 q1 p2 q2 : Nat) : Prop where
  e : Ext w0 w
  x1 : BoxL w b1 u1
  x2 : BoxL w b2 u2
  c1 : CopyT eN eI eV p1 q1 w v1 l
  c2 : CopyT eN eI eV p2 q2 w v2 l
  n1 : w0.heap.size ≤ b1
  n2 : w0.heap.size ≤ b2
  ne : b1 ≠ b2
  lo : w0.heap.size ≤ p1
  mid : q1 ≤ p2
  f11 : b1 < p1 ∨ q1 ≤ b1
  f12 : b1 < p2 ∨ q2 ≤ b1
  f21 : b2 < p1 ∨ q1 ≤ b2
  f22 : b2 < p2 ∨ q2 ≤ b2
theorem Two.ext {eN eI eV : TypeId} {w0 w w' : World} {u1 u2 : List Value} {l : List Nd} {b1 b2 : Nat} {v1 v2 : Value} {p1 q1 p2 q2 : Nat} (h : Two eN eI eV w0 w u1 u2 l b1 b2 v1 v2 p1 q1 p2 q2) (hE : Ext w w') : Two eN eI eV w0 w' u1 u2 l b1 b2 v1 v2 p1 q1 p2 q2 :=
  ⟨h.e.trans hE, h.x1.ext hE, h.x2.ext hE, h.c1.ext hE, h.c2.ext hE, h.n1, h.n2, h.ne, h.lo, h.mid, h.f11, h.f12, h.f21, h.f22⟩
/-- What is open when the first of the two is changed: all that is new, but the second, and the boxes. -/
def OpT (w0 : World) (b1 b2 p2 q2 : Nat) (b : Nat) : Prop := w0.heap.size ≤ b ∧ (b < p2 ∨ q2 ≤ b) ∧ b ≠ b1 ∧ b ≠ b2
/-- Behind the first one's change: the second stands, and what is old. -/
structure Aft (eN eI eV : TypeId) (w0 w : World) (u2 : List Value) (l : List Nd) (b1 b2 : Nat) (v2 : Value) (p2 q2 : Nat) : Prop where
  e : Ext w0 w
  x2 : BoxL w b2 u2
  c2 : CopyT eN eI eV p2 q2 w v2 l
  n1 : w0.heap.size ≤ b1
  n2 : w0.heap.size ≤ b2
  ne : b1 ≠ b2
  f12 : b1 < p2 ∨ q2 ≤ b1
  lo : w0.heap.size ≤ p2
theorem Aft.ext {eN eI eV : TypeId} {w0 w w' : World} {u2 : List Value} {l : List Nd} {b1 b2 : Nat} {v2 : Value} {p2 q2 : Nat} (h : Aft eN eI eV w0 w u2 l b1 b2 v2 p2 q2) (hE : Ext w w') : Aft eN eI eV w0 w' u2 l b1 b2 v2 p2 q2 :=
  ⟨h.e.trans hE, h.x2.ext hE, h.c2.ext hE, h.n1, h.n2, h.ne, h.f12, h.lo⟩
theorem Aft.keep {eN eI eV : TypeId} {w0 w w' : World} {u2 : List Value} {l : List Nd} {b1 b2 : Nat} {v2 : Value} {p2 q2 : Nat} (h : Aft eN eI eV w0 w u2 l b1 b2 v2 p2 q2) {k j : Nat} {u : Value} (ho : OpT w0 b1 b2 p2 q2 k) (hw : w' = w.setCell ⟨k, j, none⟩ u) : Aft eN eI eV w0 w' u2 l b1 b2 v2 p2 q2 := by
  subst hw
  have hg := setOne_grown w k j u
  unfold OpT at ho
  have s2 := h.c2.size
  exact ⟨h.e.grown hg (fun x hx => by injection hx with hx; omega), h.x2.kept hg (fun e => by injection e with e; omega), h.c2.far (fun b q1 q2 => hg.block b (by omega) (fun e => by injection e with e; omega)) hg.size, h.n1, h.n2, h.ne, h.f12, h.lo⟩
/-- While the first one is written over. -/
structure Lp (eN eI eV : TypeId) (w0 w : World) (u1 u2 : List Value) (l : List Nd) (b1 b2 : Nat) (v2 : Value) (p2 q2 g cap : Nat) (cs : List (List Value)) : Prop where
  a : Aft eN eI eV w0 w u2 l b1 b2 v2 p2 q2
  x1 : BoxL w b1 u1
  r : w.ownsRow 0 eN 16 (.slice (some ⟨g, 0, none⟩) cs.length cap) cs.length cs.flatten
  s : ∀ (i : Nat) (hi : i < cs.length), cs[i].length = 16 ∧ OpenSl (OpT w0 b1 b2 p2 q2) w g b1 1 (cs[i].getD 6 .nilFunc) ∧ OpenSl (OpT w0 b1 b2 p2 q2) w g b1 4 (cs[i].getD 15 .nilFunc)
theorem Lp.set {eN eI eV : TypeId} {w0 w : World} {u1 u2 : List Value} {l : List Nd} {b1 b2 : Nat} {v2 : Value} {p2 q2 g cap : Nat} {cs : List (List Value)} (h : Lp eN eI eV w0 w u1 u2 l b1 b2 v2 p2 q2 g cap cs) {k : Nat} (ho : OpT w0 b1 b2 p2 q2 k) (hg : k ≠ g) (j : Nat) (u : Value) :
    Lp eN eI eV w0 (w.setCell ⟨k, j, none⟩ u) u1 u2 l b1 b2 v2 p2 q2 g cap cs := by
  have hgr := setOne_grown w k j u
  refine ⟨h.a.keep ho rfl, h.x1.kept hgr (fun e => by injection e with e; exact ho.2.2.1 e), ownsRow_block h.r (fun b hb => hgr.block b (h.r.lt b hb).2 (fun e => ?_)), fun i hi => ⟨(h.s i hi).1, (h.s i hi).2.1.set _ _ _, (h.s i hi).2.2.set _ _ _⟩⟩
  injection e with e
  have hb : g = b := by injection hb
  omega
theorem Lp.at {eN eI eV : TypeId} {w0 w : World} {u1 u2 : List Value} {l : List Nd} {b1 b2 : Nat} {v2 : Value} {p2 q2 g cap : Nat} {cs : List (List Value)} (h : Lp eN eI eV w0 w u1 u2 l b1 b2 v2 p2 q2 g cap cs) (i : Nat) (hi : i < cs.length) :
    w.cell? ⟨g, i * 16 + 6, none⟩ = some (cs[i].getD 6 .nilFunc) ∧ w.cell? ⟨g, i * 16 + 12 + 3, none⟩ = some (cs[i].getD 15 .nilFunc) := by
  have h16 : ∀ C, C ∈ cs → C.length = 16 := fun C hC => by
    obtain ⟨k, hk, rfl⟩ := List.getElem_of_mem hC
    exact (h.s k hk).1
  have hfl := flat16_all cs h16
  have hl := (h.s i hi).1
  refine ⟨?_, ?_⟩
  · rw [h.r.cellAt (i * 16 + 6) (by omega), flat16 cs i 6 hi h16 (by omega), List.getD_eq_getElem?_getD, List.getElem?_eq_getElem (by omega)]; rfl
  · show w.cell? ⟨g, i * 16 + 15, none⟩ = _
    rw [h.r.cellAt (i * 16 + 15) (by omega), flat16 cs i 15 hi h16 (by omega), List.getD_eq_getElem?_getD, List.getElem?_eq_getElem (by omega)]; rfl
end Fm

namespace Fm
open Go Go.RowKit

def setL : List Value → Nat → List Value → List Value
  | xs, _, [] => xs
  | xs, o, v :: vs => setL (xs.set o v) (o + 1) vs
theorem setL_get : ∀ (vs xs : List Value) (o p : Nat), o + vs.length ≤ xs.length → (setL xs o vs)[p]? = if o ≤ p ∧ p < o + vs.length then vs[p - o]? else xs[p]?
  | [], xs, o, p, _ => by rw [setL, if_neg (by rw [List.length_nil]; omega)]
  | v :: vs, xs, o, p, h => by
    rw [List.length_cons] at h
    rw [setL, setL_get vs (xs.set o v) (o + 1) p (by simp; omega)]
    by_cases h1 : p = o
    · subst h1
      rw [if_neg (by omega), if_pos (by simp), List.getElem?_set_self (by omega)]; simp
    · by_cases h2 : o + 1 ≤ p ∧ p < o + 1 + vs.length
      · rw [if_pos h2, if_pos (by simp; omega), show p - o = (p - (o + 1)) + 1 by omega, List.getElem?_cons_succ]
      · rw [if_neg h2, if_neg (by simp; omega), List.getElem?_set_ne (by omega)]
theorem setL_flat {cs : List (List Value)} {j : Nat} {C : List Value} (hj : j < cs.length) (h16 : ∀ D, D ∈ cs → D.length = 16) (hC : C.length = 16) : setL cs.flatten (j * 16) C = (cs.set j C).flatten := by
  have hl := flat16_all cs h16
  have h16' : ∀ D, D ∈ cs.set j C → D.length = 16 := fun D hD => by
    rcases List.mem_or_eq_of_mem_set hD with h | h
    · exact h16 D h
    · rw [h]; exact hC
  apply List.ext_getElem?
  intro p
  rw [setL_get C cs.flatten (j * 16) p (by rw [hl, hC]; omega), hC]
  by_cases hp : p < cs.length * 16
  · obtain ⟨i, k, hk, rfl⟩ : ∃ i k, k < 16 ∧ p = i * 16 + k := ⟨p / 16, p % 16, Nat.mod_lt _ (by omega), by omega⟩
    have hi : i < cs.length := by omega
    rw [flat16 (cs.set j C) i k (by simpa using hi) h16' hk]
    by_cases e : i = j
    · subst e
      rw [if_pos (by omega), List.getElem_set_self, show i * 16 + k - i * 16 = k by omega]
    · rw [if_neg (by omega), List.getElem_set_ne (fun h => e h.symm), flat16 cs i k hi h16 hk]
  · rw [if_neg (by omega), List.getElem?_eq_none (by rw [hl]; omega), List.getElem?_eq_none (by rw [flat16_all _ h16']; simp; omega)]
theorem ownsRow_setCells {base e size n g cap : Nat} : ∀ (vs : List Value) (o : Nat) (w : World) (xs : List Value), w.ownsRow base e size (.slice (some ⟨g, 0, none⟩) n cap) n xs →
    (w.setCells g o vs).ownsRow base e size (.slice (some ⟨g, 0, none⟩) n cap) n (setL xs o vs)
  | [], _, _, _, h => h
  | v :: vs, o, _, _, h => ownsRow_setCells vs (o + 1) _ _ (h.stored o v).1
/-- The first j nodes of a row of n are made, node i's slices from lo i on. -/
def MadeN (eN eI eV : TypeId) (base : Nat) (w : World) (v : Value) (n : Nat) (f : Nat → Nd) (j : Nat) : Prop :=
  ∃ (cs : List (List Value)) (lo : Nat → Nat), cs.length = n ∧ w.ownsRow base eN 16 v n cs.flatten ∧ (∀ b, v.ownBlock = some b → b < lo 0) ∧ base ≤ lo 0 ∧ (∀ i, i < j → lo i ≤ lo (i + 1)) ∧ lo j ≤ w.heap.size ∧
    (∀ C, C ∈ cs → C.length = 16) ∧ ∀ (i : Nat) (_ : i < n) (hc : i < cs.length), i < j → NdW eI eV (lo i) (lo (i + 1)) w (f i) cs[i]
theorem MadeN.ext {eN eI eV : TypeId} {base : Nat} {w w' : World} {v : Value} {n j : Nat} {f : Nat → Nd} (h : MadeN eN eI eV base w v n f j) (hE : Ext w w') : MadeN eN eI eV base w' v n f j := by
  obtain ⟨cs, lo, h1, h2, h3, h4, h5, h6, h7, h8⟩ := h
  have hmon := lo_mono h5
  refine ⟨cs, lo, h1, hE.own h2, h3, h4, h5, Nat.le_trans h6 hE.size, h7, fun i hi hc hij => (h8 i hi hc hij).far (fun b _ hb => ?_)⟩
  have := hmon j (Nat.le_refl _) (i + 1) (by omega)
  exact (hE.grownBy).block b (by omega) (by simp)
theorem MadeN.lt {eN eI eV : TypeId} {base : Nat} {w : World} {n j g cap : Nat} {f : Nat → Nd} (h : MadeN eN eI eV base w (.slice (some ⟨g, 0, none⟩) n cap) n f j) : base ≤ g ∧ g < w.heap.size := by
  obtain ⟨cs, lo, h1, h2, -⟩ := h
  exact World.ownsRow.lt h2 g rfl
theorem MadeN.there {eN eI eV : TypeId} {base : Nat} {w : World} {n j g cap : Nat} {f : Nat → Nd} (h : MadeN eN eI eV base w (.slice (some ⟨g, 0, none⟩) n cap) n f j) {k : Nat} (hk : k < n) : w.there g (k * 16) 16 := by
  obtain ⟨cs, lo, h1, h2, -⟩ := h
  intro i hi
  have hl : cs.flatten.length = n * 16 := h2.1
  have hlt : k * 16 + i < cs.flatten.length := by omega
  refine ⟨?_, World.ownsRow.frozenAt h2 _⟩
  rw [World.ownsRow.cellAt h2 _ (by omega), List.getElem?_eq_getElem hlt]
  rfl
theorem MadeN.step {eN eI eV : TypeId} {wr w : World} {base : Nat} {n j g cap : Nat} {f : Nat → Nd} (h : MadeN eN eI eV base wr (.slice (some ⟨g, 0, none⟩) n cap) n f j) (hj : j < n) (hE : Ext wr w) {a : Option Addr} {m c : Nat} {k N s d : Value} {F : Nat → Prop}
    (hA : OwnN eI wr.heap.size w (.slice a m c) (f j).after) (hF : ∀ b, (Value.slice a m c).ownBlock = some b → ¬ F b) (hV : Owns eV w wr.heap.size (f j).val (.agg #[k, N, s, d]) F) (hwf : ndWf (f j)) :
    MadeN eN eI eV base (w.setCells g (j * 16) (ndCells (f j) (.slice a m c) k N s d)) (.slice (some ⟨g, 0, none⟩) n cap) n f (j + 1) := by
  have hg := setCells_grown g (ndCells (f j) (.slice a m c) k N s d) (j * 16) w
  obtain ⟨cs, lo, h1, h2, h3, h4, h5, h6, h7, h8⟩ := h
  have hmon := lo_mono h5
  have hgl : g < lo 0 := h3 g rfl
  have hjc : j < cs.length := by omega
  have hw := ownsRow_setCells (ndCells (f j) (.slice a m c) k N s d) (j * 16) w _ (hE.own h2)
  rw [setL_flat hjc h7 rfl] at hw
  have hlj := hmon j (Nat.le_refl _) 0 (by omega)
  generalize hW : w.setCells g (j * 16) (ndCells (f j) (.slice a m c) k N s d) = W at *
  refine ⟨cs.set j (ndCells (f j) (.slice a m c) k N s d), fun i => if i ≤ j then lo i else W.heap.size, by simp [h1], hw, ?_, ?_, fun i hi => ?_, ?_, fun C hC => ?_, fun i hi hc hij => ?_⟩
  · intro b hb; simpa using h3 b hb
  · simpa using h4
  · dsimp only
    rw [if_pos (by omega)]
    by_cases e : i + 1 ≤ j
    · rw [if_pos e]; exact h5 i (by omega)
    · rw [if_neg e]
      have : i = j := by omega
      subst this
      exact Nat.le_trans h6 (Nat.le_trans hE.size hg.size)
  · dsimp only; rw [if_neg (by omega)]; exact Nat.le_refl _
  · rcases List.mem_or_eq_of_mem_set hC with h | h
    · exact h7 C h
    · rw [h]; rfl
  · have hic : i < cs.length := by simpa using hc
    dsimp only
    rw [if_pos (by omega)]
    by_cases e : i = j
    · subst e
      rw [if_neg (by omega), List.getElem_set_self]
      refine ⟨a, m, c, k, N, s, d, F, rfl, ?_, fun b hb => ⟨?_, hF b hb⟩, ?_, fun b hb => ?_, hwf⟩
      · refine ownsRow_mono (ownsRow_block hA (fun b hb => hg.block b (World.ownsRow.lt hA b hb).2 (fun e => ?_))) h6
        have := (World.ownsRow.lt hA b hb).1
        injection e with e
        have := hE.size
        omega
      · exact Nat.lt_of_lt_of_le (World.ownsRow.lt hA b hb).2 hg.size
      · refine (hV.kept (fun b hb => hg.block b (hV.bounds b hb).2 (fun e => ?_))).mono h6
        have := (hV.bounds b hb).1
        injection e with e
        omega
      · exact Nat.lt_of_lt_of_le (hV.bounds b hb).2 hg.size
    · rw [if_pos (by omega), List.getElem_set_ne (fun h => e h.symm)]
      refine (h8 i hi hic (by omega)).far (fun b hb1 hb2 => ?_)
      have h9 := hmon j (Nat.le_refl _) (i + 1) (by omega)
      have h10 := hmon i (by omega) 0 (by omega)
      rw [hg.block b (by have := hE.size; omega) (fun e => by injection e with e; omega)]
      exact (hE.grownBy).block b (by omega) (by simp)
end Fm

namespace Fm
open Go Go.RowKit

theorem grown_row {a b c : World} {r r' : Option Nat} (h : a.grownBy b r) (k : b.grownBy c r') (hr : r' = r ∨ ∃ g, r' = some g ∧ a.heap.size ≤ g) : a.grownBy c r := by
  rcases hr with rfl | ⟨g, rfl, hg⟩
  · exact grown_trans h k
  · exact ⟨k.os.trans h.os, k.tape.trans h.tape, k.output.trans h.output, Nat.le_trans h.size k.size, fun b hb hne => (k.block b (Nat.lt_of_lt_of_le hb h.size) (fun e => by injection e with e; omega)).trans (h.block b hb hne)⟩
/-- A node's cells, whatever becomes of that block. -/
def FarNd (w : World) (row : Option Nat) (n : Nd) (C : List Value) : Prop := C.length = 16 ∧ (∀ u, u ∈ C → u.oneCell' = true) ∧ ∀ w', w.grownBy w' row → NdV w' n (.agg C.toArray)
theorem FarNd.then {w w' : World} {row row' : Option Nat} {n : Nd} {C : List Value} (h : FarNd w row n C) (hg : w.grownBy w' row) (hr : row' = row ∨ ∃ g, row' = some g ∧ w.heap.size ≤ g) : FarNd w' row' n C :=
  ⟨h.1, h.2.1, fun w'' hg' => h.2.2 w'' (grown_row hg hg' hr)⟩
theorem ndV_one {w : World} {n : Nd} {C : List Value} (h : NdV w n (.agg C.toArray)) : C.length = 16 ∧ ∀ u, u ∈ C → u.oneCell' = true := by
  obtain ⟨a, m, c, k, N, s, l, e, h1, h2, -⟩ := h
  injection e with e
  injection e with e
  subst e
  obtain ⟨t, ht⟩ : ∃ t, t = n.val := ⟨_, rfl⟩
  rw [← ht] at h2
  obtain ⟨kk, nn, ss, ls⟩ := t
  obtain ⟨d, hd, -, -, hls⟩ := h2.parts
  obtain ⟨av, capv, rfl, -⟩ := hls
  injection hd with hd
  injection hd with hd
  simp only [List.cons.injEq, and_true] at hd
  obtain ⟨rfl, rfl, rfl, rfl⟩ := hd
  refine ⟨rfl, fun u hu => ?_⟩
  simp only [ndCells, List.mem_cons, List.not_mem_nil, or_false] at hu
  rcases hu with rfl | rfl | rfl | rfl | rfl | rfl | rfl | rfl | rfl | rfl | rfl | rfl | rfl | rfl | rfl | rfl <;> rfl
theorem farNd_of {w : World} {row : Option Nat} {n : Nd} {C : List Value} (h : ∀ w', w.grownBy w' row → NdV w' n (.agg C.toArray)) : FarNd w row n C :=
  ⟨(ndV_one (h w (grown_ext (Ext.refl w) row))).1, (ndV_one (h w (grown_ext (Ext.refl w) row))).2, h⟩
/-- Nodes in a row of one's own. -/
def HeldN (eN : TypeId) (base : Nat) (w : World) (v : Value) (l : List Nd) : Prop :=
  ∃ cs : List (List Value), cs.length = l.length ∧ w.ownsRow base eN 16 v l.length cs.flatten ∧ ∀ (i : Nat) (hi : i < l.length) (hc : i < cs.length), FarNd w v.ownBlock l[i] cs[i]
theorem HeldN.row {eN : TypeId} {base : Nat} {w : World} {v : Value} {l : List Nd} (h : HeldN eN base w v l) : ndE.Row w l v := by
  obtain ⟨cs, h1, h2, h3⟩ := h
  exact ndRow_parts h1 h2 (fun i hi hc => ⟨(h3 i hi hc).1, (h3 i hi hc).2.2 w (grown_ext (Ext.refl w) _)⟩)
theorem HeldN.ext {eN : TypeId} {base : Nat} {w w' : World} {v : Value} {l : List Nd} (h : HeldN eN base w v l) (hE : Ext w w') : HeldN eN base w' v l := by
  obtain ⟨cs, h1, h2, h3⟩ := h
  exact ⟨cs, h1, hE.own h2, fun i hi hc => (h3 i hi hc).then (grown_ext hE _) (.inl rfl)⟩
theorem HeldN.mono {eN : TypeId} {base base' : Nat} {w : World} {v : Value} {l : List Nd} (h : HeldN eN base w v l) (hb : base' ≤ base) : HeldN eN base' w v l := by
  obtain ⟨cs, h1, h2, h3⟩ := h
  exact ⟨cs, h1, ownsRow_mono h2 hb, h3⟩
theorem HeldN.slice {eN : TypeId} {base : Nat} {w : World} {v : Value} {l : List Nd} (h : HeldN eN base w v l) : ∃ a c, v = .slice a l.length c := by
  obtain ⟨cs, h1, h2, h3⟩ := h
  rcases h2.2 with ⟨e1, e2⟩ | ⟨g, cap, cur, e1, _⟩
  · exact ⟨none, 0, by rw [e1, e2]⟩
  · exact ⟨_, _, e1⟩
theorem HeldN.form {eN : TypeId} {base : Nat} {w : World} {v : Value} {l : List Nd} (h : HeldN eN base w v l) (hl : 0 < l.length) : ∃ g c, v = .slice (some ⟨g, 0, none⟩) l.length c ∧ base ≤ g ∧ g < w.heap.size := by
  obtain ⟨cs, h1, h2, h3⟩ := h
  exact World.ownsRow.form h2 hl
theorem HeldN.lt {eN : TypeId} {base : Nat} {w : World} {v : Value} {l : List Nd} (h : HeldN eN base w v l) : ∀ k, v.ownBlock = some k → base ≤ k ∧ k < w.heap.size := by
  obtain ⟨cs, h1, h2, h3⟩ := h
  exact World.ownsRow.lt h2
theorem HeldN.nil (eN : TypeId) (base : Nat) (w : World) : HeldN eN base w (.slice none 0 0) [] := ⟨[], rfl, World.ownsRow_nil _ _ _ _, fun i hi => (by cases hi)⟩
/-- The cells of one node. -/
theorem HeldN.at {eN : TypeId} {base : Nat} {w : World} {g cap : Nat} {l : List Nd} (h : HeldN eN base w (.slice (some ⟨g, 0, none⟩) l.length cap) l) {i : Nat} (hi : i < l.length) :
    ∃ C : List Value, FarNd w (some g) l[i] C ∧ w.rangeAt g (i * 16) C ∧ w.there g (i * 16) 16 := by
  obtain ⟨cs, h1, h2, h3⟩ := h
  have hc : i < cs.length := by omega
  have h16 : ∀ D, D ∈ cs → D.length = 16 := fun D hD => by
    obtain ⟨j, hj, rfl⟩ := List.getElem_of_mem hD
    exact (h3 j (by omega) hj).1
  have hl : cs.flatten.length = l.length * 16 := h2.1
  have hcell : ∀ j, j < 16 → w.cell? ⟨g, i * 16 + j, none⟩ = cs[i][j]? := fun j hj => by
    rw [World.ownsRow.cellAt h2 _ (by omega), flat16 cs i j hc h16 hj]
  refine ⟨cs[i], h3 i hi hc, fun j v hv => ?_, fun j hj => ⟨?_, World.ownsRow.frozenAt h2 _⟩⟩
  · have hj : j < 16 := by
      have := (List.getElem?_eq_some_iff.1 hv).1
      have := (h3 i hi hc).1
      omega
    rw [hcell j hj]; exact hv
  · rw [hcell j hj, List.getElem?_eq_getElem (by have := (h3 i hi hc).1; omega)]; rfl
theorem HeldN.spot {eN : TypeId} {base : Nat} {w : World} {g cap : Nat} {l : List Nd} (h : HeldN eN base w (.slice (some ⟨g, 0, none⟩) l.length cap) l) {i : Nat} (hi : i < l.length) (j : Nat) (hj : j < 16) : (∃ u, w.cell? ⟨g, i * 16 + j, none⟩ = some u) ∧ w.frozen? ⟨g, i * 16 + j, none⟩ = false := by
  obtain ⟨C, -, -, h3⟩ := h.at hi
  obtain ⟨h4, h5⟩ := h3 j hj
  exact ⟨Option.isSome_iff_exists.1 h4, h5⟩
/-- One node is another one now. -/
theorem HeldN.upd {eN : TypeId} {base : Nat} {w W : World} {g cap : Nat} {l : List Nd} (h : HeldN eN base w (.slice (some ⟨g, 0, none⟩) l.length cap) l) {i : Nat} (hi : i < l.length) (n' : Nd) (f : List Value → List Value)
    (hW : ∀ cs : List (List Value), cs.length = l.length → (∀ D, D ∈ cs → D.length = 16) → ∀ hc : i < cs.length, w.ownsRow base eN 16 (.slice (some ⟨g, 0, none⟩) l.length cap) l.length cs.flatten → W.ownsRow base eN 16 (.slice (some ⟨g, 0, none⟩) l.length cap) l.length (cs.set i (f cs[i])).flatten)
    (hg : w.grownBy W (some g)) (hN : ∀ C, FarNd w (some g) l[i] C → FarNd W (some g) n' (f C)) : HeldN eN base W (.slice (some ⟨g, 0, none⟩) l.length cap) (l.set i n') := by
  obtain ⟨cs, h1, h2, h3⟩ := h
  have hc : i < cs.length := by omega
  have h16 : ∀ D, D ∈ cs → D.length = 16 := fun D hD => by
    obtain ⟨j, hj, rfl⟩ := List.getElem_of_mem hD
    exact (h3 j (by omega) hj).1
  refine ⟨cs.set i (f cs[i]), by simp [h1], by rw [List.length_set]; exact hW cs h1 h16 hc h2, fun j hj hd => ?_⟩
  have hj' : j < l.length := by simpa using hj
  have hd' : j < cs.length := by simpa using hd
  by_cases e : i = j
  · subst e
    rw [List.getElem_set_self, List.getElem_set_self]
    exact hN _ (h3 i hi hc)
  · rw [List.getElem_set_ne e, List.getElem_set_ne e]
    exact (h3 j hj' hd').then hg (.inl rfl)
theorem flat16_set1 {cs : List (List Value)} {i j : Nat} {u : Value} (hi : i < cs.length) (h16 : ∀ C, C ∈ cs → C.length = 16) (hj : j < 16) : cs.flatten.set (i * 16 + j) u = (cs.set i (cs[i].set j u)).flatten := flat16_set cs i j u hi h16 hj
/-- One cell of one node is written. -/
theorem HeldN.put {eN : TypeId} {base : Nat} {w : World} {g cap : Nat} {l : List Nd} (h : HeldN eN base w (.slice (some ⟨g, 0, none⟩) l.length cap) l) {i : Nat} (hi : i < l.length) (j : Nat) (hj : j < 16) (u : Value) (n' : Nd)
    (hN : ∀ (w' : World) (C : List Value), NdV w' (l[i]'hi) (.agg C.toArray) → NdV w' n' (.agg (C.set j u).toArray)) : HeldN eN base (w.setCell ⟨g, i * 16 + j, none⟩ u) (.slice (some ⟨g, 0, none⟩) l.length cap) (l.set i n') ∧ w.grownBy (w.setCell ⟨g, i * 16 + j, none⟩ u) (some g) := by
  have hg := setOne_grown w g (i * 16 + j) u
  refine ⟨h.upd hi n' (fun C => C.set j u) (fun cs _ h16 hc ho => ?_) hg (fun C hC => farNd_of (fun w' hw' => hN w' C (hC.2.2 w' (grown_trans hg hw')))), hg⟩
  rw [← flat16_set1 hc h16 hj]
  exact (ho.stored (i * 16 + j) u).1
/-- Nodes are appended. -/
theorem HeldN.app {eN : TypeId} {base : Nat} {w w' : World} {v v' : Value} {l m : List Nd} {cs ds : List (List Value)} (h1 : cs.length = l.length) (h3 : ∀ (i : Nat) (hi : i < l.length) (hc : i < cs.length), FarNd w v.ownBlock l[i] cs[i])
    (g1 : ds.length = m.length) (g3 : ∀ (i : Nat) (hi : i < m.length) (hc : i < ds.length), FarNd w v.ownBlock m[i] ds[i])
    (hrow : w'.ownsRow base eN 16 v' (l.length + m.length) (cs.flatten ++ ds.flatten)) (hg : w.grownBy w' v.ownBlock) (hat : v'.ownBlock = v.ownBlock ∨ v'.ownBlock = some w.heap.size) : HeldN eN base w' v' (l ++ m) := by
  have hr : v'.ownBlock = v.ownBlock ∨ ∃ g, v'.ownBlock = some g ∧ w.heap.size ≤ g := by
    rcases hat with h | h
    · exact .inl h
    · exact .inr ⟨_, h, Nat.le_refl _⟩
  refine ⟨cs ++ ds, by simp [h1, g1], by rw [List.length_append, List.flatten_append]; exact hrow, fun i hi hc => ?_⟩
  by_cases hil : i < l.length
  · have hic : i < cs.length := by omega
    rw [List.getElem_append_left hil, List.getElem_append_left hic]
    exact (h3 i hil hic).then hg hr
  · have hi' : i - l.length < m.length := by rw [List.length_append] at hi; omega
    have e1 : (l ++ m)[i] = m[i - l.length] := List.getElem_append_right (by omega)
    have e2 : (cs ++ ds)[i] = ds[i - l.length]'(by omega) := by rw [List.getElem_append_right (by omega)]; simp [h1]
    rw [e1, e2]
    exact (g3 _ hi' (by omega)).then hg hr
/-- The cells that a copy's nodes have. -/
theorem CopyN.far {eN eI eV : TypeId} {base : Nat} {w : World} {v : Value} {l : List Nd} (h : CopyN eN eI eV base w v l) {row : Option Nat} (hr : ∀ b, row = some b → b < base) :
    ∃ ds : List (List Value), ds.length = l.length ∧ w.ownsRow base eN 16 v l.length ds.flatten ∧ ∀ (i : Nat) (hi : i < l.length) (hc : i < ds.length), FarNd w row l[i] ds[i] := by
  obtain ⟨cs, lo, h1, h2, h3, h4, h5, h6, h7⟩ := h
  have hmon := lo_mono h5
  refine ⟨cs, h1, h2, fun i hi hc => farNd_of (fun w' hw' => ((h7 i hi hc).far (fun b hb1 hb2 => hw'.block b ?_ (fun e => ?_))).v)⟩
  · have := hmon l.length (Nat.le_refl _) (i + 1) (by omega)
    omega
  · have := hr b e.symm
    have := hmon i (by omega) 0 (by omega)
    omega
/-- A row of nodes of one's own as what is appended. -/
theorem _root_.Go.Src.nodes {P : Program} {tx e' : TypeId} (hk : P.underlying tx = some (.slice e')) {w : World} {base n : Nat} {eN : TypeId} {v : Value} {ds : List (List Value)} (h : w.ownsRow base eN 16 v n ds.flatten) (h1 : ∀ D, D ∈ ds → ∀ u, u ∈ D → u.oneCell' = true) : Src P 16 tx v n ds.flatten w := by
  have hone : ∀ u, u ∈ ds.flatten → u.oneCell' = true := fun u hu => by
    obtain ⟨D, hD, hu⟩ := List.mem_flatten.1 hu
    exact h1 D hD u hu
  have hc := fun g => World.ownsRow.cells h (g := g)
  have hl := h.1
  rcases h.2 with ⟨rfl, rfl⟩ | ⟨g, cap, cur, rfl, -⟩
  · have : ds.flatten = [] := List.eq_nil_of_length_eq_zero (by omega)
    rw [this]
    exact Src.ofNil w hk 0
  · exact Src.ofSlice w hk _ _ _ _ hl (fun j u hu => hc g rfl j u hu) hone
/-! ### one field of a node -/
theorem ndV_width {w : World} {n : Nd} {C : List Value} (h : NdV w n (.agg C.toArray)) {x : Int} (hx : isI64 x) : NdV w { n with width := x } (.agg (C.set 7 (.int .i64 x)).toArray) := by
  obtain ⟨a, m, c, k, N, S, d, e, h1, h2, h3, h4, h5, h6, h7, h8, h9, h10, h11⟩ := h
  injection e with e
  injection e with e
  subst e
  exact ⟨a, m, c, k, N, S, d, rfl, h1, h2, h3, h4, h5, h6, h7, hx, h9, h10, h11⟩
theorem ndV_kind {w : World} {n : Nd} {C : List Value} (h : NdV w n (.agg C.toArray)) (x : UInt8) : NdV w { n with kind := x } (.agg (C.set 2 (.int .u8 (x.toNat : Int))).toArray) := by
  obtain ⟨a, m, c, k, N, S, d, e, h1, h2, h3⟩ := h
  injection e with e
  injection e with e
  subst e
  exact ⟨a, m, c, k, N, S, d, rfl, h1, h2, h3⟩
end Fm

namespace Fm
open Go Go.RowKit

/-- Nodes in a row of one's own, what they hold was there ahead. -/
def OldN (eN : TypeId) (w0 : World) (base : Nat) (w : World) (v : Value) (l : List Nd) : Prop :=
  ∃ cs : List (List Value), cs.length = l.length ∧ w.ownsRow base eN 16 v l.length cs.flatten ∧ ∀ (i : Nat) (hi : i < l.length) (hc : i < cs.length), ∀ W, Ext w0 W → NdV W l[i] (.agg cs[i].toArray)
theorem OldN.nil (eN : TypeId) (w0 : World) (base : Nat) (w : World) : OldN eN w0 base w (.slice none 0 0) [] := ⟨[], rfl, World.ownsRow_nil _ _ _ _, fun i hi => (by cases hi)⟩
theorem OldN.kept {eN : TypeId} {w0 w w' : World} {base : Nat} {v : Value} {l : List Nd} {row : Option Nat} (h : OldN eN w0 base w v l) (hg : w.grownBy w' row) (hr : ∀ b, v.ownBlock = some b → row ≠ some b) : OldN eN w0 base w' v l := by
  obtain ⟨cs, h1, h2, h3⟩ := h
  refine ⟨cs, h1, h2.kept hg ?_, h3⟩
  cases e : v.ownBlock with
  | none => exact .inl rfl
  | some b => exact .inr (fun h => hr b e h.symm)
theorem OldN.ext {eN : TypeId} {w0 w w' : World} {base : Nat} {v : Value} {l : List Nd} (h : OldN eN w0 base w v l) (hE : Ext w w') : OldN eN w0 base w' v l := h.kept hE.grownBy (fun b _ e => by cases e)
theorem OldN.held {eN : TypeId} {w0 w : World} {base : Nat} {v : Value} {l : List Nd} (h : OldN eN w0 base w v l) (hE : Ext w0 w) (hb : w0.heap.size ≤ base) : HeldN eN base w v l := by
  obtain ⟨cs, h1, h2, h3⟩ := h
  exact ⟨cs, h1, h2, fun i hi hc => farNd_of (fun w' hw' => h3 i hi hc w' (hE.grown hw' (fun k hk => by have := (World.ownsRow.lt h2 k hk).1; omega)))⟩
theorem OldN.rowOf {eN : TypeId} {w0 w : World} {base : Nat} {v : Value} {l : List Nd} (h : OldN eN w0 base w v l) : ∃ xs, w.ownsRow base eN 16 v l.length xs ∧ ∀ (w' : World) (v' : Value) (n : Nd) (C : List Value), C.length = 16 → w'.ownsRow base eN 16 v' (l.length + 1) (xs ++ C) → (∀ W, Ext w0 W → NdV W n (.agg C.toArray)) → OldN eN w0 base w' v' (l ++ [n]) := by
  obtain ⟨cs, h1, h2, h3⟩ := h
  refine ⟨_, h2, fun w' v' n C hC hrow hn => ⟨cs ++ [C], by simp [h1], by rw [List.length_append, List.flatten_append]; simpa using hrow, fun i hi hc => ?_⟩⟩
  by_cases hil : i < l.length
  · have hic : i < cs.length := by omega
    rw [List.getElem_append_left hil, List.getElem_append_left hic]
    exact h3 i hil hic
  · have hi' : i = l.length := by rw [List.length_append, List.length_singleton] at hi; omega
    subst hi'
    rw [List.getElem_append_right (by omega)]
    have e2 : (cs ++ [C])[l.length] = C := by rw [List.getElem_append_right (by omega)]; simp [h1]
    rw [e2]
    simpa using hn
/-- One node more that is held. -/
theorem HeldN.rowOf {eN : TypeId} {base : Nat} {w : World} {v : Value} {l : List Nd} (h : HeldN eN base w v l) : ∃ xs, w.ownsRow base eN 16 v l.length xs ∧
    (∀ (w' : World) (v' : Value) (m : List Nd) (ds : List (List Value)), ds.length = m.length → (∀ (i : Nat) (hi : i < m.length) (hc : i < ds.length), FarNd w v.ownBlock m[i] ds[i]) → w'.ownsRow base eN 16 v' (l.length + m.length) (xs ++ ds.flatten) → w.grownBy w' v.ownBlock → (v'.ownBlock = v.ownBlock ∨ v'.ownBlock = some w.heap.size) → HeldN eN base w' v' (l ++ m)) := by
  obtain ⟨cs, h1, h2, h3⟩ := h
  exact ⟨_, h2, fun w' v' m ds g1 g3 hrow hg hat => HeldN.app h1 h3 g1 g3 hrow hg hat⟩
end Fm
namespace Fm
open Go Go.RowKit
/-- The nodes of a copy from the k-th on. -/
def TailN (eN eI eV : TypeId) (base : Nat) (w : World) (v : Value) (n : Nat) (f : Nat → Nd) (k : Nat) : Prop :=
  ∃ (cs : List (List Value)) (lo : Nat → Nat), cs.length = n ∧ w.ownsRow base eN 16 v n cs.flatten ∧ (∀ b, v.ownBlock = some b → b < lo k) ∧ base ≤ lo k ∧ (∀ i, k ≤ i → i < n → lo i ≤ lo (i + 1)) ∧ lo n ≤ w.heap.size ∧ (∀ C, C ∈ cs → C.length = 16) ∧
    ∀ (i : Nat) (_ : i < n) (hc : i < cs.length), k ≤ i → NdW eI eV (lo i) (lo (i + 1)) w (f i) cs[i]
theorem CopyN.tail {eN eI eV : TypeId} {base : Nat} {w : World} {v : Value} {n : Nat} {f : Nat → Nd} (h : CopyN eN eI eV base w v ((List.range n).map f)) : TailN eN eI eV base w v n f 0 := by
  obtain ⟨cs, lo, h1, h2, h3, h4, h5, h6, h7⟩ := h
  rw [List.length_map, List.length_range] at h1 h2 h5 h6
  have h8 : ∀ (i : Nat) (_ : i < n) (hc : i < cs.length), NdW eI eV (lo i) (lo (i + 1)) w (f i) cs[i] := fun i hi hc => by
    have := h7 i (by simpa using hi) hc
    simpa using this
  exact ⟨cs, lo, h1, h2, h3, h4, fun i _ hi => h5 i hi, h6, fun C hC => by
    obtain ⟨i, hi, rfl⟩ := List.getElem_of_mem hC
    exact (h8 i (by omega) hi).cells, fun i hi hc _ => h8 i hi hc⟩
theorem lo_le {n k : Nat} {lo : Nat → Nat} (h5 : ∀ i, k ≤ i → i < n → lo i ≤ lo (i + 1)) : ∀ j, k ≤ j → j ≤ n → lo j ≤ lo n ∧ lo k ≤ lo j := by
  have up : ∀ d j, j + d ≤ n → k ≤ j → lo j ≤ lo (j + d) := fun d => by
    induction d with
    | zero => intro j _ _; exact Nat.le_refl _
    | succ d ih => intro j h1 h2; exact Nat.le_trans (ih j (by omega) h2) (h5 (j + d) (by omega) (by omega))
  intro j h1 h2
  have a := up (n - j) j (by omega) h1
  have b := up (j - k) k (by omega) (Nat.le_refl _)
  rw [show j + (n - j) = n by omega] at a
  rw [show k + (j - k) = j by omega] at b
  exact ⟨a, b⟩
theorem TailN.ext {eN eI eV : TypeId} {base : Nat} {w w' : World} {v : Value} {n k : Nat} {f : Nat → Nd} (h : TailN eN eI eV base w v n f k) (hE : Ext w w') : TailN eN eI eV base w' v n f k := by
  obtain ⟨cs, lo, h1, h2, h3, h4, h5, h6, h7, h8⟩ := h
  refine ⟨cs, lo, h1, hE.own h2, h3, h4, h5, Nat.le_trans h6 hE.size, h7, fun i hi hc hk => (h8 i hi hc hk).far (fun b _ hb => ?_)⟩
  have := (lo_le h5 (i + 1) (by omega) (by omega)).1
  exact hE.grownBy.block b (by omega) (by simp)
theorem TailN.at {eN eI eV : TypeId} {base : Nat} {w : World} {g cap n k : Nat} {f : Nat → Nd} (h : TailN eN eI eV base w (.slice (some ⟨g, 0, none⟩) n cap) n f k) (hk : k < n) :
    ∃ (C : List Value) (p q : Nat), NdW eI eV p q w (f k) C ∧ w.rangeAt g (k * 16) C ∧ base ≤ p ∧ p ≤ q ∧ q ≤ w.heap.size ∧ g < p ∧ base ≤ g ∧
      ∀ w', w.heap.size ≤ w'.heap.size → (∀ b, b < w.heap.size → ¬ (p ≤ b ∧ b < q) → w'.heap[b]? = w.heap[b]?) → TailN eN eI eV base w' (.slice (some ⟨g, 0, none⟩) n cap) n f (k + 1) := by
  obtain ⟨cs, lo, h1, h2, h3, h4, h5, h6, h7, h8⟩ := h
  have hle := lo_le h5
  have hc : k < cs.length := by omega
  have hg := h3 g rfl
  have hl : cs.flatten.length = n * 16 := h2.1
  have q1 := hle (k + 1) (by omega) (by omega)
  refine ⟨cs[k], lo k, lo (k + 1), h8 k hk hc (Nat.le_refl _), fun j v hv => ?_, h4, h5 k (Nat.le_refl _) hk, by omega, hg, (World.ownsRow.lt h2 g rfl).1, fun w' hs hw' => ?_⟩
  · have hj : j < 16 := by
      have := (List.getElem?_eq_some_iff.1 hv).1
      have := h7 cs[k] (List.getElem_mem hc)
      omega
    rw [World.ownsRow.cellAt h2 _ (by omega), flat16 cs k j hc h7 hj]; exact hv
  · have hgw := (World.ownsRow.lt h2 g rfl).2
    refine ⟨cs, lo, h1, ownsRow_block h2 (fun b hb => hw' b (World.ownsRow.lt h2 b hb).2 (fun hh => ?_)), fun b hb => ?_, by omega, fun i hi hin => h5 i (by omega) hin, by omega, h7, fun i hi hci hki => (h8 i hi hci (by omega)).far (fun b hb1 hb2 => hw' b ?_ (fun hh => ?_))⟩
    · have : b = g := by simpa [Value.ownBlock] using hb.symm
      omega
    · have : b = g := by simpa [Value.ownBlock] using hb.symm
      have := h5 k (Nat.le_refl _) hk
      omega
    · have := (hle (i + 1) (by omega) (by omega)).1
      omega
    · have q2 := lo_le (k := k + 1) (n := n) (lo := lo) (fun i hi hin => h5 i (by omega) hin) i (by omega) (by omega)
      omega
end Fm

namespace Fm
open Go Go.RowKit

/-- The bits of a number, as the walk has them. -/
theorem bits_and_mod (n : Int) (k : Nat) (hk : k ≤ 62) : bits BinOp.and IntKind.i64 n ((2 ^ k - 1 : Nat) : Int) = n % (2 ^ k : Nat) := by
  have h2 : 2 ^ k ≤ 2 ^ 62 := Nat.pow_le_pow_right (by decide) hk
  have h3 : 0 < 2 ^ k := Nat.two_pow_pos k
  have e : (BitVec.ofInt 64 n &&& BitVec.ofInt 64 ((2 ^ k - 1 : Nat) : Int)).toNat = (n % (2 ^ k : Nat)).toNat := by
    rw [BitVec.toNat_and]
    have e2 : (BitVec.ofInt 64 ((2 ^ k - 1 : Nat) : Int)).toNat = 2 ^ k - 1 := by
      rw [BitVec.ofInt_natCast, BitVec.toNat_ofNat]
      exact Nat.mod_eq_of_lt (by omega)
    rw [e2, Nat.and_two_pow_sub_one_eq_mod, BitVec.toNat_ofInt]
    have hd : (2 ^ k : Nat) ∣ 2 ^ 64 := Nat.pow_dvd_pow 2 (by omega)
    have h5 : 0 ≤ n % ((2 ^ 64 : Nat) : Int) := Int.emod_nonneg _ (by decide)
    have h6 : (((n % ((2 ^ 64 : Nat) : Int)).toNat % 2 ^ k : Nat) : Int) = n % ((2 ^ k : Nat) : Int) := by
      rw [Int.natCast_emod, Int.toNat_of_nonneg h5, Int.emod_emod_of_dvd n (Int.natCast_dvd_natCast.2 hd)]
    have h7 : 0 ≤ n % ((2 ^ k : Nat) : Int) := Int.emod_nonneg _ (by omega)
    omega
  show IntKind.i64.wrap ((BitVec.ofInt 64 n &&& BitVec.ofInt 64 ((2 ^ k - 1 : Nat) : Int)).toNat : Int) = _
  have h7 : 0 ≤ n % ((2 ^ k : Nat) : Int) := Int.emod_nonneg _ (by omega)
  have h8 : n % ((2 ^ k : Nat) : Int) < ((2 ^ k : Nat) : Int) := Int.emod_lt_of_pos _ (by omega)
  rw [e, IntKind.wrap_i64]
  omega
theorem and1 (n : Int) : bits BinOp.and IntKind.i64 n 1 = n % 2 := bits_and_mod n 1 (by decide)
theorem and3 (n : Int) : bits BinOp.and IntKind.i64 n 3 = n % 4 := bits_and_mod n 2 (by decide)
theorem and7 (n : Int) : bits BinOp.and IntKind.i64 n 7 = n % 8 := bits_and_mod n 3 (by decide)
theorem and255 (n : Int) : bits BinOp.and IntKind.i64 n 255 = n % 256 := bits_and_mod n 8 (by decide)
/-- One node more. -/
def ndFl (f o : Int) : Nd := ⟨[], [], 0, f, o, 0, [], 0, 0, 0, 0, 0, zT⟩
def forestN (acc : List Nd) (x : Int) : Nd :=
  if x % 256 % ((acc.length : Int) + 3) < acc.length then ndFl (nthF acc (x % 256 % ((acc.length : Int) + 3))).flow (x % 256 % ((acc.length : Int) + 3)) else ndFl (x / 256 % 2) (-1)
def forestTo (l : List Int) : Nat → List Nd
  | 0 => []
  | k + 1 => forestTo l k ++ [forestN (forestTo l k) (l.getD k 0)]
def forestF (l : List Int) : List Nd := forestTo l (min l.length 60)
theorem forestTo_len (l : List Int) : ∀ k, (forestTo l k).length = k
  | 0 => rfl
  | k + 1 => by rw [forestTo, List.length_append, forestTo_len l k]; rfl
theorem forestF_len (l : List Int) : (forestF l).length = min l.length 60 := forestTo_len _ _
theorem rightO_snoc {l : List Nd} {n : Nd} (h : RightO l) (h1 : -1 ≤ n.owner) (h2 : n.owner < (l.length : Int)) (h3 : ∀ j : Nat, n.owner = (j : Int) → ∀ hj : j < l.length, l[j].flow = n.flow) : RightO (l ++ [n]) := by
  intro i hi
  by_cases hil : i < l.length
  · rw [List.getElem_append_left hil]
    obtain ⟨a, b, c⟩ := h i hil
    refine ⟨a, b, fun j hj hjl => ?_⟩
    have : j < l.length := by omega
    rw [List.getElem_append_left this]
    exact c j hj this
  · have hie : i = l.length := by rw [List.length_append, List.length_singleton] at hi; omega
    subst hie
    have e : (l ++ [n])[l.length] = n := by simp
    rw [e]
    refine ⟨h1, h2, fun j hj hjl => ?_⟩
    have : j < l.length := by omega
    rw [List.getElem_append_left this]
    exact h3 j hj this
theorem forestTo_right (l : List Int) : ∀ k, RightO (forestTo l k)
  | 0 => fun i hi => by cases hi
  | k + 1 => by
    rw [forestTo]
    unfold forestN
    split
    · rename_i hlt
      have h0 : 0 ≤ l.getD k 0 % 256 % (((forestTo l k).length : Int) + 3) := Int.emod_nonneg _ (by omega)
      obtain ⟨j, hj⟩ : ∃ j : Nat, l.getD k 0 % 256 % (((forestTo l k).length : Int) + 3) = (j : Int) := ⟨_, (Int.toNat_of_nonneg h0).symm⟩
      rw [hj] at hlt ⊢
      refine rightO_snoc (forestTo_right l k) (by show (-1 : Int) ≤ (j : Int); omega) hlt (fun i hi hil => ?_)
      have hi' : (j : Int) = (i : Int) := hi
      obtain rfl : j = i := by omega
      rw [nthF_at hil]
      rfl
    · refine rightO_snoc (forestTo_right l k) (by show (-1 : Int) ≤ -1; omega) (by show (-1 : Int) < _; omega) (fun i hi _ => ?_)
      have hi' : (-1 : Int) = (i : Int) := hi
      omega
/-! ### one after the other is turned -/
def chgTo (g : Nat → Nd → Nd) (l : List Nd) (j : Nat) : List Nd := l.mapIdx (fun i n => if i < j then g i n else n)
def chgF (g : Nat → Nd → Nd) (l : List Nd) : List Nd := l.mapIdx g
theorem chgTo_len (g : Nat → Nd → Nd) (l : List Nd) (j : Nat) : (chgTo g l j).length = l.length := List.length_mapIdx
theorem chgF_len (g : Nat → Nd → Nd) (l : List Nd) : (chgF g l).length = l.length := List.length_mapIdx
theorem chgTo_zero (g : Nat → Nd → Nd) (l : List Nd) : chgTo g l 0 = l := by
  unfold chgTo
  refine List.ext_getElem (by simp) fun i h1 h2 => ?_
  simp
theorem chgTo_all (g : Nat → Nd → Nd) (l : List Nd) : chgTo g l l.length = chgF g l := by
  unfold chgTo chgF
  refine List.ext_getElem (by simp) fun i h1 h2 => ?_
  simp only [List.getElem_mapIdx]
  rw [if_pos (by simpa using h2)]
theorem chgTo_at (g : Nat → Nd → Nd) (l : List Nd) (j : Nat) (hj : j < (chgTo g l j).length) (hl : j < l.length) : (chgTo g l j)[j] = l[j] :=
  (List.getElem_mapIdx (h := hj)).trans (if_neg (Nat.lt_irrefl _))
theorem chgTo_succ (g : Nat → Nd → Nd) (l : List Nd) (j : Nat) (hl : j < l.length) : chgTo g l (j + 1) = (chgTo g l j).set j (g j l[j]) := by
  unfold chgTo
  refine List.ext_getElem (by simp) fun i h1 h2 => ?_
  rw [List.getElem_set]
  simp only [List.getElem_mapIdx]
  by_cases e : j = i
  · subst e; simp
  · rw [if_neg e]
    by_cases h : i < j
    · rw [if_pos h, if_pos (by omega)]
    · rw [if_neg h, if_neg (by omega)]
theorem chgTo_same (g : Nat → Nd → Nd) (l : List Nd) (j : Nat) (hl : j < l.length) (h : g j l[j] = l[j]) : chgTo g l (j + 1) = chgTo g l j := by
  rw [chgTo_succ g l j hl, h, ← chgTo_at g l j (by rw [chgTo_len]; exact hl) hl]
  exact List.set_getElem_self _
theorem chgF_at (g : Nat → Nd → Nd) (l : List Nd) (i : Nat) (hi : i < (chgF g l).length) (hl : i < l.length) : (chgF g l)[i] = g i l[i] := List.getElem_mapIdx (h := hi)
/-- What turns no owner keeps owners right. -/
theorem chgF_right {g : Nat → Nd → Nd} {l : List Nd} (h : RightO l) (hg : ∀ i n, (g i n).owner = n.owner ∧ (g i n).flow = n.flow) : RightO (chgF g l) := by
  intro i hi
  have hil : i < l.length := by rw [chgF_len] at hi; exact hi
  obtain ⟨a, b, c⟩ := h i hil
  rw [chgF_at g l i hi hil, (hg _ _).1, (hg _ _).2]
  refine ⟨a, b, fun j hj hjl => ?_⟩
  have hjl' : j < l.length := by rw [chgF_len] at hjl; exact hjl
  rw [chgF_at g l j hjl hjl', (hg _ _).2]
  exact c j hj hjl'
/-- Names, kinds, widths. -/
def nameG (l : List Int) (i : Nat) (n : Nd) : Nd := if l.getD i 0 / 512 % 8 < 7 then { n with name := [UInt8.ofNat (97 + (l.getD i 0 / 512 % 8 % 5).toNat)] } else n
def namedF (l : List Int) : List Nd := chgF (nameG l) (forestF l)
def ownedG (l : List Int) (i : Nat) (n : Nd) : Nd := if l.getD i 0 / 32 % 4 = 0 then { n with kind := 1, width := l.getD i 0 / 128 % 8 } else n
def ownedF (l : List Int) : List Nd := chgF (ownedG l) (namedF l)
def ownerF (l : List Int) (at' : Int) : Int := at' % 18446744073709551616 % ((min l.length 60 : Nat) + 1 : Int) - 1
theorem namedF_len (l : List Int) : (namedF l).length = min l.length 60 := by unfold namedF; rw [chgF_len, forestF_len]
theorem ownedF_len (l : List Int) : (ownedF l).length = min l.length 60 := by unfold ownedF; rw [chgF_len, namedF_len]
theorem namedF_right (l : List Int) : RightO (namedF l) := chgF_right (forestTo_right l _) (fun i n => by unfold nameG; split <;> exact ⟨rfl, rfl⟩)
theorem ownedF_right (l : List Int) : RightO (ownedF l) := chgF_right (namedF_right l) (fun i n => by unfold ownedG; split <;> exact ⟨rfl, rfl⟩)
end Fm

namespace Fm
open Go Go.RowKit

/-- Nodes in a row of one's own, that hold whatever the memory holds. -/
def FreeN (eN : TypeId) (base : Nat) (w : World) (v : Value) (l : List Nd) : Prop :=
  ∃ cs : List (List Value), cs.length = l.length ∧ w.ownsRow base eN 16 v l.length cs.flatten ∧ ∀ (i : Nat) (hi : i < l.length) (hc : i < cs.length), ∀ W, NdV W l[i] (.agg cs[i].toArray)
theorem FreeN.held {eN : TypeId} {base : Nat} {w : World} {v : Value} {l : List Nd} (h : FreeN eN base w v l) : HeldN eN base w v l := by
  obtain ⟨cs, h1, h2, h3⟩ := h
  exact ⟨cs, h1, h2, fun i hi hc => farNd_of (fun w' _ => h3 i hi hc w')⟩
theorem FreeN.row {eN : TypeId} {base : Nat} {w : World} {v : Value} {l : List Nd} (h : FreeN eN base w v l) : ndE.Row w l v := h.held.row
theorem FreeN.kept {eN : TypeId} {base : Nat} {w w' : World} {v : Value} {l : List Nd} {row : Option Nat} (h : FreeN eN base w v l) (hg : w.grownBy w' row) (hr : ∀ b, v.ownBlock = some b → row ≠ some b) : FreeN eN base w' v l := by
  obtain ⟨cs, h1, h2, h3⟩ := h
  refine ⟨cs, h1, h2.kept hg ?_, h3⟩
  cases e : v.ownBlock with
  | none => exact .inl rfl
  | some b => exact .inr (fun h => hr b e h.symm)
theorem FreeN.ext {eN : TypeId} {base : Nat} {w w' : World} {v : Value} {l : List Nd} (h : FreeN eN base w v l) (hE : Ext w w') : FreeN eN base w' v l := h.kept hE.grownBy (fun b _ e => by cases e)
theorem FreeN.mono {eN : TypeId} {base base' : Nat} {w : World} {v : Value} {l : List Nd} (h : FreeN eN base w v l) (hb : base' ≤ base) : FreeN eN base' w v l := by
  obtain ⟨cs, h1, h2, h3⟩ := h
  exact ⟨cs, h1, ownsRow_mono h2 hb, h3⟩
theorem FreeN.slice {eN : TypeId} {base : Nat} {w : World} {v : Value} {l : List Nd} (h : FreeN eN base w v l) : ∃ a c, v = .slice a l.length c := h.held.slice
theorem FreeN.form {eN : TypeId} {base : Nat} {w : World} {v : Value} {l : List Nd} (h : FreeN eN base w v l) (hl : 0 < l.length) : ∃ g c, v = .slice (some ⟨g, 0, none⟩) l.length c ∧ base ≤ g ∧ g < w.heap.size := h.held.form hl
theorem FreeN.lt {eN : TypeId} {base : Nat} {w : World} {v : Value} {l : List Nd} (h : FreeN eN base w v l) : ∀ k, v.ownBlock = some k → base ≤ k ∧ k < w.heap.size := h.held.lt
theorem FreeN.nil (eN : TypeId) (base : Nat) (w : World) : FreeN eN base w (.slice none 0 0) [] := ⟨[], rfl, World.ownsRow_nil _ _ _ _, fun i hi => (by cases hi)⟩
theorem FreeN.spot {eN : TypeId} {base : Nat} {w : World} {g cap : Nat} {l : List Nd} (h : FreeN eN base w (.slice (some ⟨g, 0, none⟩) l.length cap) l) {i : Nat} (hi : i < l.length) (j : Nat) (hj : j < 16) : (∃ u, w.cell? ⟨g, i * 16 + j, none⟩ = some u) ∧ w.frozen? ⟨g, i * 16 + j, none⟩ = false := h.held.spot hi j hj
theorem FreeN.relen {eN : TypeId} {base n m cap : Nat} {w : World} {a : Option Addr} {l : List Nd} (h : FreeN eN base w (.slice a n cap) l) (e : n = m) : FreeN eN base w (.slice a m cap) l := by subst e; exact h
/-- One cell of one node is written. -/
theorem FreeN.put {eN : TypeId} {base : Nat} {w : World} {g cap : Nat} {l : List Nd} (h : FreeN eN base w (.slice (some ⟨g, 0, none⟩) l.length cap) l) {i : Nat} (hi : i < l.length) (j : Nat) (hj : j < 16) (u : Value) (n' : Nd)
    (hN : ∀ (w' : World) (C : List Value), NdV w' (l[i]'hi) (.agg C.toArray) → NdV w' n' (.agg (C.set j u).toArray)) : FreeN eN base (w.setCell ⟨g, i * 16 + j, none⟩ u) (.slice (some ⟨g, 0, none⟩) l.length cap) (l.set i n') ∧ w.grownBy (w.setCell ⟨g, i * 16 + j, none⟩ u) (some g) := by
  refine ⟨?_, setOne_grown w g (i * 16 + j) u⟩
  obtain ⟨cs, h1, h2, h3⟩ := h
  have hc : i < cs.length := by omega
  have h16 : ∀ D, D ∈ cs → D.length = 16 := fun D hD => by
    obtain ⟨k, hk, rfl⟩ := List.getElem_of_mem hD
    exact (ndV_one (h3 k (by omega) hk w)).1
  refine ⟨cs.set i (cs[i].set j u), by simp [h1], ?_, fun k hk hd W => ?_⟩
  · rw [List.length_set, ← flat16_set1 hc h16 hj]
    exact (h2.stored (i * 16 + j) u).1
  · have hk' : k < l.length := by simpa using hk
    have hd' : k < cs.length := by simpa using hd
    by_cases e : i = k
    · subst e
      rw [List.getElem_set_self, List.getElem_set_self]
      exact hN W _ (h3 i hi hc W)
    · rw [List.getElem_set_ne e, List.getElem_set_ne e]
      exact h3 k hk' hd' W
/-- One node more. -/
theorem FreeN.rowOf {eN : TypeId} {base : Nat} {w : World} {v : Value} {l : List Nd} (h : FreeN eN base w v l) : ∃ xs, w.ownsRow base eN 16 v l.length xs ∧
    (∀ (w' : World) (v' : Value) (n : Nd) (C : List Value), C.length = 16 → w'.ownsRow base eN 16 v' (l.length + 1) (xs ++ C) → (∀ W, NdV W n (.agg C.toArray)) → FreeN eN base w' v' (l ++ [n])) := by
  obtain ⟨cs, h1, h2, h3⟩ := h
  refine ⟨_, h2, fun w' v' n C hC hrow hn => ⟨cs ++ [C], by simp [h1], by rw [List.length_append, List.flatten_append]; simpa using hrow, fun i hi hc W => ?_⟩⟩
  by_cases hil : i < l.length
  · have hic : i < cs.length := by omega
    rw [List.getElem_append_left hil, List.getElem_append_left hic]
    exact h3 i hil hic W
  · have hi' : i = l.length := by rw [List.length_append, List.length_singleton] at hi; omega
    subst hi'
    rw [List.getElem_append_right (by omega)]
    have e2 : (cs ++ [C])[l.length] = C := by rw [List.getElem_append_right (by omega)]; simp [h1]
    rw [e2]
    simpa using hn W
end Fm

open Go.RowKit
namespace Fm
open Go Go.RowKit
/-- The law of an append, in a region that draws its order. -/
theorem step_appendS {P : Program} {w : World} {ops : Array Oper} {o : Oper} {a : Act} {K : Act → World → Prop} {Q : Exit → Act → World → Prop} {E : Prop} (hgd : o.guard = none) (s x : Operand) {t e : TypeId} {z : Value} {size bytes : Nat} (tx : TypeId)
    (ho : o.op = .call { callee := .builtin .append, args := #[s, x], argTypes := #[t, tx] }) (he : ElemOf P t e z size bytes) (base : Nat)
    (v : Value) (n : Nat) (xs : List Value) (hs : a.eval s = v) (hown : w.ownsRow base e size v n xs) (X : Value) (m : Nat) (news : List Value) (hx : a.eval x = X) (hsrc : Src P size tx X m news w)
    (b1 : n + m ≤ maxLen) (b2 : (n + m) * bytes ≤ 140737488355328) (b3 : base ≤ w.heap.size)
    (h : ∀ A C w', w'.ownsRow base e size (.slice A (n + m) C) (n + m) (xs ++ news) → w.grownBy w' v.ownBlock → ((Value.slice A (n + m) C).ownBlock = v.ownBlock ∨ (Value.slice A (n + m) C).ownBlock = some w.heap.size) → K (a.put o.dst (.slice A (n + m) C)) w') :
    if Region.wanted o (yielded ops a.tmps) = true then Oper.wp P o a w K Q else E := by
  have hw : Region.wanted o (yielded ops a.tmps) = true := by simp [Region.wanted, hgd]
  rw [if_pos hw]
  obtain ⟨v', w', hrun, r1, r2, r3⟩ := run_append_src_at w he tx o.type base v n xs hown X m news hsrc b1 b2 b3
  obtain ⟨A, C, rfl⟩ : ∃ A C, v' = .slice A (n + m) C := by
    rcases r1.2 with ⟨e1, e2⟩ | ⟨g, cap, cur, e1, _⟩
    · exact ⟨none, 0, by rw [e1, e2]⟩
    · exact ⟨_, _, e1⟩
  unfold Oper.wp
  simp [execOp, ho, resolve, invoke, builtin, hs, hx, hrun, Result.andThen]
  exact h A C w' r1 r2 r3
theorem list_of16 {C : List Value} (h : C.length = 16) : ∃ c0 c1 c2 c3 c4 c5 c6 c7 c8 c9 c10 c11 c12 c13 c14 c15, C = [c0, c1, c2, c3, c4, c5, c6, c7, c8, c9, c10, c11, c12, c13, c14, c15] := by
  match C, h with
  | [c0, c1, c2, c3, c4, c5, c6, c7, c8, c9, c10, c11, c12, c13, c14, c15], _ => exact ⟨_, _, _, _, _, _, _, _, _, _, _, _, _, _, _, _, rfl⟩
/-- One element more, that a block holds. -/
theorem wpList_appOneM {P : Program} {w : World} {ops : Array Oper} {rest : List Oper} {o : Oper} {a : Act} {Q : Exit → Act → World → Prop} {t e : TypeId} {z : Value} {size bytes : Nat} (he : ElemOf P t e z size bytes)
    (hg : Region.wanted o (yielded ops a.tmps) = true) (s x : Operand) (hop : o.op = Op.call { callee := Callee.builtin Builtin.append, args := #[s, x], argTypes := #[t, t] }) {base : Nat}
    {v : Value} {k : Nat} {xs : List Value} (hs : a.eval s = v) (hown : w.ownsRow base e size v k xs) {B cp : Nat} {news : List Value} (hx : a.eval x = .slice (some ⟨B, 0, none⟩) 1 cp)
    (hB : w.rangeAt B 0 news) (hn : news.length = size) (h1 : ∀ u ∈ news, u.oneCell' = true) (hb : k ≤ 100000) (hby : bytes ≤ 1000) (b3 : base ≤ w.heap.size)
    (hK : ∀ v' w', w'.ownsRow base e size v' (k + 1) (xs ++ news) → w.grownBy w' v.ownBlock → (v'.ownBlock = v.ownBlock ∨ v'.ownBlock = some w.heap.size) → wpList P ops Q rest (a.put o.dst v') w') :
    wpList P ops Q (o :: rest) a w := by
  have hm : (k + 1) * bytes ≤ 100001 * 1000 := Nat.mul_le_mul (by omega) hby
  refine wpList_appAt w he hg s x t hop base v k xs hs hown _ 1 news hx (Src.ofSlice _ he.1 _ _ _ _ (by rw [hn]; omega) ?_ h1) (by unfold maxLen; omega) (by omega) b3 hK
  intro j u hu
  rw [Addr.add_lit]
  exact hB j u hu
end Fm
namespace Go.Proofs.YtgclfmdpapadnaaDoor
open Go Go.Proofs Fm
theorem infoint_F : (Tryd.prog.info? 3).map (fun i => (i.zero, i.size, i.bytes)) = some (some (.int .i64 0), 1, 8) := by kernel_rfl
theorem elemint_F : ElemOf Tryd.prog 33 3 (.int .i64 0) 1 8 := ⟨Tryd.underlying33, infoint_F, rfl, by decide⟩
theorem infonode_F : (Tryd.prog.info? 50).map (fun i => (i.zero, i.size, i.bytes)) = some (some (.agg ndZ.toArray), 16, 184) := by kernel_rfl
theorem elemnode_F : ElemOf Tryd.prog 34 50 (.agg ndZ.toArray) 16 184 := ⟨Tryd.underlying34, infonode_F, rfl, by decide⟩
theorem sizenode_F : (Tryd.prog.info? 50).map (·.size) = some 16 := by kernel_rfl
end Go.Proofs.YtgclfmdpapadnaaDoor

namespace Fm
open Go Go.RowKit

/-- Numbers that stay, whatever becomes of that block. -/
def FarI (w : World) (row : Option Nat) (l : List Int) (v : Value) : Prop := ∀ w', w.grownBy w' row → intE.Row w' l v
theorem FarI.row {w : World} {row : Option Nat} {l : List Int} {v : Value} (h : FarI w row l v) : intE.Row w l v := h w (grown_ext (Ext.refl w) row)
theorem FarI.then {w w' : World} {row row' : Option Nat} {l : List Int} {v : Value} (h : FarI w row l v) (hg : w.grownBy w' row) (hr : row' = row ∨ ∃ g, row' = some g ∧ w.heap.size ≤ g) : FarI w' row' l v := fun w'' hg' => h w'' (grown_row hg hg' hr)
theorem FarI.ext {w w' : World} {row : Option Nat} {l : List Int} {v : Value} (h : FarI w row l v) (hE : Ext w w') : FarI w' row l v := h.then (grown_ext hE row) (.inl rfl)
end Fm
namespace Fm
open Go Go.RowKit
/-! ### instances done one by one -/
end Fm
namespace Fm
open Go Go.RowKit
end Fm

open Go.RowKit Go.Shelf
namespace Fm
open Go Go.RowKit
/-- Those of an owner, of the first j. -/
def ownB (l : List Nd) (f o : Int) (i : Nat) : Bool := decide ((nthF l (i : Int)).flow = f) && decide ((nthF l (i : Int)).owner = o)
def ownTo (l : List Nd) (f o : Int) (j : Nat) : List Nat := (List.range j).filter (ownB l f o)
def ownIx (l : List Nd) (f o : Int) : List Nat := ownTo l f o l.length
theorem ownTo_succ (l : List Nd) (f o : Int) (j : Nat) : ownTo l f o (j + 1) = ownTo l f o j ++ (if ownB l f o j then [j] else []) := by
  unfold ownTo
  rw [List.range_succ, List.filter_append, List.filter_cons, List.filter_nil]
theorem ownTo_len (l : List Nd) (f o : Int) (j : Nat) : (ownTo l f o j).length ≤ j := by
  unfold ownTo
  refine Nat.le_trans (List.length_filter_le _ _) ?_
  simp
theorem ownIx_lt {l : List Nd} {f o : Int} {i : Nat} (h : i ∈ ownIx l f o) : i < l.length := by
  unfold ownIx ownTo at h
  exact List.mem_range.1 (List.mem_filter.1 h).1
def scopeF (l : List Nd) (i : Int) : List Nat := if placeF l i then ownIx l (nthF l i).flow (nthF l i).owner else []
end Fm
namespace Go.Proofs.YtgclfmdpapadnaaDoor
open Go Go.Proofs Fm
attribute [local go_sem] Oper.semAt_some

theorem natsI_i64 {l : List Nat} {n : Nat} (h : ∀ i, i ∈ l → i < n) (hn : n ≤ 1000000) : ∀ x, x ∈ natsI l → isI64 x := by
  intro x hx
  obtain ⟨i, hi, rfl⟩ := List.mem_map.1 hx
  have := h i hi
  unfold isI64
  omega
end Go.Proofs.YtgclfmdpapadnaaDoor

open Go.RowKit Go.Shelf
namespace Fm
open Go Go.RowKit
def flC (f o : Int) : List Value := [.string { data := #[] }, .string { data := #[] }, .int .u8 0, .int .i64 f, .int .i64 o, .int .i64 0, .slice none 0 0, .int .i64 0, .int .i64 0, .int .u8 0, .int .i64 0, .int .i64 0, .int .u8 0, .int .i64 0, .string { data := #[] }, .slice none 0 0]
theorem zT_liesF (W : World) : Lies W zT (.agg #[.int .u8 0, .int .i64 0, .string { data := #[] }, .slice none 0 0]) := (OwnT.mk (e := 0) (base := 0) (n := 0) (k := 0) (s := []) (by unfold isI64; omega) (by simp) (OwnL.nil _ _ _)).lies
theorem ndFl_v {f o : Int} (hf : isI64 f) (ho : isI64 o) (W : World) : NdV W (ndFl f o) (.agg (flC f o).toArray) := by
  have z : isI64 0 := by unfold isI64; omega
  exact ⟨none, 0, 0, .int .u8 0, .int .i64 0, .string { data := #[] }, .slice none 0 0, rfl, Elem.Row.void _ _ _, zT_liesF W, by simp [ndFl], by simp [ndFl], hf, ho, z, z, z, z, z⟩
end Fm
namespace Go.Proofs.YtgclfmdpapadnaaDoor
open Go Go.Proofs Fm
attribute [local go_sem] Oper.semAt_some

theorem sizeof_intC : ∀ w, (sizeOf (Tryd.prog.elem 33)).run Tryd.prog w = .ok 1 w := fun _ => by kernel_rfl
theorem slice_int_to (a : Option Addr) (len cap k : Nat) (h1 : k ≤ cap) (w : World) :
    (Instr.slice 33 (.slice a len cap) none (some (.int .i64 (k : Int))) none).run Tryd.prog w = .ok (.slice a k cap) w := by
  rw [run_slice_h (ht := by kernel_rfl) (h0 := by omega) (h2 := by omega), sizeof_intC]
  cases a <;> simp [Result.andThen, sliced, Addr.add]
theorem fill_nodesC {C : List Value} (hC : C.length = 16) (n : Nat) (hn : n = 16) (z : Value) (hz : z = .agg ndZ.toArray) :
    Instr.fill (fun i => some (i * n, n)) ((Array.range (1 * n)).map (z.cells[· % z.cells.size]!)) [(0, .agg C.toArray)] = some C.toArray := by
  subst hn hz
  obtain ⟨c0, c1, c2, c3, c4, c5, c6, c7, c8, c9, c10, c11, c12, c13, c14, c15, rfl⟩ := list_of16 hC
  kernel_rfl
/-- A slice of one node, whatever its cells. -/
theorem wpList_nodesC {ops : Array Oper} {rest : List Oper} {o : Oper} {a : Act} {w : World} {Q : Exit → Act → World → Prop} {C : List Value} (hg : Region.wanted o (yielded ops a.tmps) = true) (s1 : Operand) (ho : o.op = .buildSlice 34 1 #[(0, s1)])
    (h1 : a.eval s1 = .agg C.toArray) (hC : C.length = 16)
    (h : wpList Tryd.prog ops Q rest (a.put o.dst (.slice (some ⟨w.heap.size, 0, none⟩) 1 1)) (w.alloc (.cells C.toArray 50))) : wpList Tryd.prog ops Q (o :: rest) a w := by
  obtain ⟨i, i1, i2, i3, i4⟩ := info_parts infonode_F
  unfold wpList
  rw [if_pos hg]
  left
  refine wp_buildSlice 34 50 1 _ ho C.toArray i (.agg ndZ.toArray) Tryd.underlying34 i1 i2 (by rw [i3]; decide) (by rw [i3]; decide) ?_ h
  have e : (#[(0, s1)].map fun (x : Nat × Operand) => (x.1, a.eval x.2)).toList = [(0, .agg C.toArray)] := by simp [h1]
  exact (congrArg _ e).trans (fill_nodesC hC i.size i3 _ rfl)
set_option maxRecDepth 100000 in
set_option maxHeartbeats 4000000 in
theorem forest_any (l : List Int) (w : World) (v : Value) (h : intE.Row w l v) :
    Calls Tryd.prog 52 #[v] w fun e w' => ∃ v', e = .returned v' ∧ FreeN 50 w.heap.size w' v' (forestF l) ∧ Ext w w' := by
  have HR := Lib.hid h
  obtain ⟨a, c, rfl, hc1, hc2⟩ := h.slice
  obtain ⟨LN, hLN⟩ : ∃ LN, LN = min l.length 60 := ⟨_, rfl⟩
  have hmin : min (l.length : Int) 60 = (LN : Int) := by omega
  have hs := slice_int_to a l.length c LN (by omega)
  have hL60 : LN ≤ 60 := by omega
  have HLl := Lib.hid (show LN ≤ l.length by omega)
  have HLN := Lib.hid hLN
  clear h hLN hc1
  go_enter Tryd.func52, Tryd.ntmps52
  go_upto_region 2 with (fail)
  go_wp2_with fail
  clear hmin hs
  go_loopw [3, 14] (fun o i wr => ∃ (j : Nat) (A : Option Addr) (C : Nat), j ≤ LN ∧ i = .int .i64 j ∧ o = .slice A j C ∧ Hid (Ext w wr) ∧ Hid (FreeN 50 w.heap.size wr (.slice A j C) (forestTo l j))) (fun _ i _ => LN - (intOf i).toNat)
  case atStart => exact ⟨0, none, 0, by omega, rfl, rfl, Lib.hid (Ext.refl w), Lib.hid (FreeN.nil _ _ _)⟩
  case round =>
    obtain ⟨j, A, C, hj, rfl, rfl, HE, HO⟩ := hrel
    by_cases hlt : j < LN
    case neg =>
      have HX := Lib.hid (show forestTo l j = forestF l by unfold forestF; rw [← HLN.out, show j = LN by omega])
      go_wp2
      go_ret
      exact ⟨_, rfl, by rw [← HX.out]; exact HO.out, HE.out⟩
    have hi' : j < l.length := by have := HLl.out; omega
    obtain ⟨b, off, rfl, hb, hcell, hi6⟩ := int_at HR.out HE.out j hi'
    have hj0 : (0 : Int) ≤ (j : Int) := by omega
    have hj1 : (j : Int) < (LN : Int) := by omega
    have HT := Lib.hid (show forestTo l (j + 1) = forestTo l j ++ [forestN (forestTo l j) l[j]] by rw [forestTo, List.getD_eq_getElem?_getD, List.getElem?_eq_getElem hi', Option.getD_some])
    obtain ⟨x, hx⟩ : ∃ x, x = l[j] := ⟨_, rfl⟩
    rw [← hx] at hcell hi6 HT
    clear hx
    obtain ⟨y, hy⟩ : ∃ y, y = x % 256 := ⟨_, rfl⟩
    have hb2 : bits BinOp.and IntKind.i64 x 255 = y := by rw [and255, hy]
    have hy0 : 0 ≤ y ∧ y ≤ 255 := by
      have h1 := Int.emod_nonneg x (show (256 : Int) ≠ 0 by decide)
      have h2 := Int.emod_lt_of_pos x (show (0 : Int) < 256 by decide)
      omega
    obtain ⟨o, ho⟩ : ∃ o : Nat, (o : Int) = y % ((j : Int) + 3) := ⟨(y % ((j : Int) + 3)).toNat, by have := Int.emod_nonneg y (show (j : Int) + 3 ≠ 0 by omega); omega⟩
    have hm1 : y % ((j : Int) + 3) = (o : Int) := ho.symm
    have hm2 : y.tmod ((j : Int) + 3) = (o : Int) := by rw [Int.tmod_eq_emod_of_nonneg hy0.1]; exact hm1
    obtain ⟨f1, hf1⟩ : ∃ f1, f1 = x / 256 % 2 := ⟨_, rfl⟩
    have hb1 : bits BinOp.and IntKind.i64 (x / 256) 1 = f1 := by rw [and1, hf1]
    have hf0 : 0 ≤ f1 ∧ f1 ≤ 1 := by
      have h1 := Int.emod_nonneg (x / 256) (show (2 : Int) ≠ 0 by decide)
      have h2 := Int.emod_lt_of_pos (x / 256) (show (0 : Int) < 2 by decide)
      omega
    have HFN := Lib.hid (show forestN (forestTo l j) x = if o < j then ndFl (nthF (forestTo l j) o).flow o else ndFl f1 (-1) by
      unfold forestN
      rw [forestTo_len, ← hy, ← ho, ← hf1]
      by_cases h : o < j
      · rw [if_pos h, if_pos (by omega)]
      · rw [if_neg h, if_neg (by omega)])
    have HY := Lib.hid hy0
    have HF := Lib.hid hf0
    clear hy ho hf1
    obtain ⟨Cm, hCm⟩ : ∃ Cm, Cm = flC f1 (-1) := ⟨_, rfl⟩
    have HMG : Hid ((Value.agg #[.string { data := #[] }, .string { data := #[] }, .int .u8 0, .int .i64 f1, .int .i64 (-1), .int .i64 0, .slice none 0 0, .int .i64 0, .int .i64 0, .int .u8 0, .int .i64 0, .int .i64 0, .int .u8 0, .int .i64 0, .string { data := #[] }, .slice none 0 0]) = .agg Cm.toArray) := Lib.hid (by rw [hCm]; rfl)
    have HCm := Lib.hid hCm
    have HL16 := Lib.hid (show Cm.length = 16 by rw [hCm]; rfl)
    have HN1 := Lib.hid (show ∀ u, u ∈ Cm → u.oneCell' = true by rw [hCm]; intro u hu; simp only [flC, List.mem_cons, List.not_mem_nil, or_false] at hu; rcases hu with rfl | rfl | rfl | rfl | rfl | rfl | rfl | rfl | rfl | rfl | rfl | rfl | rfl | rfl | rfl | rfl <;> rfl)
    clear hCm
    go_upto_region 6 with (refine wpList_storeBox rfl _ _ _ rfl _ _ _ _ rfl rfl rfl (by exact HMG.out) sizenode_F rfl HL16.out HN1.out ?_)
    have hB1 := BoxL.new wr Cm 50
    have hE1 := (Ext.refl wr).alloc (.cells Cm.toArray 50)
    have hO1 := HO.out.ext hE1
    have HE1 := Lib.hid (HE.out.trans hE1)
    have hNB : w.heap.size ≤ wr.heap.size := HE.out.size
    have hNB2 : wr.heap.size < (wr.alloc (.cells Cm.toArray 50)).heap.size := by simp
    have hgl2 := HO.out.lt
    have HE01 := Lib.hid hE1
    generalize wr.alloc (.cells Cm.toArray 50) = W1 at *
    obtain ⟨NB, hNBe⟩ : ∃ NB, NB = wr.heap.size := ⟨_, rfl⟩
    rw [← hNBe] at hB1 hNB hNB2 hgl2 ⊢
    have HNBe := Lib.hid hNBe
    clear hNBe
    rw [HCm.out] at hB1
    have HB1 := Lib.hid hB1
    have HO1 := Lib.hid hO1
    clear hB1 hE1 HMG HN1 hO1
    by_cases hoj : o < j
    case' pos =>
      obtain ⟨g, cap, hA, hg1, hg2⟩ := HO1.out.form (by rw [forestTo_len]; omega)
      rw [forestTo_len] at hA
      injection hA with hA1 hA2 hA3
      subst hA1 hA3
      have hgN : g < NB := (hgl2 g rfl).2
      obtain ⟨b', off', e', hb', aa, ma, ca, kk, N, s, d, ⟨-, -, -, x3, -⟩, hnv⟩ := nd_at16 HO1.out.row (Ext.refl W1) o (by rw [forestTo_len]; exact hoj)
      injection e' with e'
      injection e' with e1' e2'
      subst e1' e2'
      have hfw := hnv.wf.2.2.1
      have hol : o < (forestTo l j).length := by rw [forestTo_len]; exact hoj
      have HFN2 := Lib.hid (show forestN (forestTo l j) x = ndFl (forestTo l j)[o].flow o by rw [HFN.out, if_pos hoj, nthF_at])
      obtain ⟨f2, hf2⟩ : ∃ f2, f2 = (forestTo l j)[o].flow := ⟨_, rfl⟩
      rw [← hf2] at x3 hfw HFN2
      rw [Nat.zero_add] at x3
      have hne1 : g ≠ NB := by omega
      have hne2 : NB ≠ g := by omega
      have y3 := HB1.out.cell 3 _ rfl
      have y4 := HB1.out.cell 4 _ rfl
      have z3 := HB1.out.free 3
      have z4 := HB1.out.free 4
      have HFW := Lib.hid hfw
      clear hf2 hnv hfw hb'
      go_wp2_with fail
      go_region
      have hE2 : Ext wr (((W1.setCell ⟨NB, 4, none⟩ (.int .i64 (o : Int))).setCell ⟨NB, 3, none⟩ (.int .i64 f2)).drew) := ((HE01.out.setCell (p := ⟨NB, 4, none⟩) (by show wr.heap.size ≤ NB; have := HNBe.out; omega) _).setCell (p := ⟨NB, 3, none⟩) (by show wr.heap.size ≤ NB; have := HNBe.out; omega) _).drew
      have hB2 := ((HB1.out.set 4 (by simp [flC]) (.int .i64 (o : Int))).set 3 (by simp [flC]) (.int .i64 f2)).ext (Ext.refl _).drew
      generalize ((W1.setCell ⟨NB, 4, none⟩ (.int .i64 (o : Int))).setCell ⟨NB, 3, none⟩ (.int .i64 f2)).drew = W2 at *
      have HB2 := Lib.hid (show BoxL W2 NB (flC f2 (o : Int)) from hB2)
      have HV2 := Lib.hid (fun W => ndFl_v HFW.out (show isI64 (o : Int) by unfold isI64; omega) W)
      have HO2 := Lib.hid (HO.out.ext hE2)
      have HE2 := Lib.hid (HE.out.trans hE2)
      obtain ⟨A', hA'⟩ : ∃ A' : Option Addr, A' = some ⟨g, 0, none⟩ := ⟨_, rfl⟩
      obtain ⟨Cn, hCn⟩ : ∃ Cn, Cn = flC f2 (o : Int) := ⟨_, rfl⟩
      obtain ⟨nn, hnn⟩ : ∃ nn, nn = ndFl f2 (o : Int) := ⟨_, rfl⟩
      have hNN := HFN2.out.trans hnn.symm
      rw [← hCn] at HB2
      rw [← hCn, ← hnn] at HV2
      have hC16 : Cn.length = 16 := by rw [hCn]; rfl
      clear hB2 hE2 hCn hnn x3 y3 y4 z3 z4
    case' neg =>
      have hNN := HFN.out
      rw [if_neg hoj] at hNN
      have HV2 := Lib.hid (fun W => ndFl_v (show isI64 f1 by have := HF.out; unfold isI64; omega) (show isI64 (-1) by unfold isI64; omega) W)
      obtain ⟨W2, hW2⟩ : ∃ W2, W2 = W1 := ⟨_, rfl⟩
      have HO2 := Lib.hid (show FreeN 50 w.heap.size W2 (.slice A j C) (forestTo l j) by rw [hW2]; exact HO1.out)
      have HE2 := Lib.hid (show Ext w W2 by rw [hW2]; exact HE1.out)
      obtain ⟨Cn, hCn⟩ : ∃ Cn, Cn = flC f1 (-1) := ⟨_, rfl⟩
      have HB2 := Lib.hid (show BoxL W2 NB Cn by rw [hW2, hCn]; exact HB1.out)
      obtain ⟨nn, hnn⟩ : ∃ nn, nn = ndFl f1 (-1) := ⟨_, rfl⟩
      rw [← hnn] at hNN
      rw [← hCn, ← hnn] at HV2
      have hC16 : Cn.length = 16 := by rw [hCn]; rfl
      rw [← hW2]
      clear hCn hnn hW2
      go_upto_region 9 with (fail)
    all_goals
      have HNN := Lib.hid hNN
      have hN1 := (ndV_one (HV2.out W2)).2
      have HR2 : Hid (W2.rangeAt NB 0 Cn) := Lib.hid (fun p v hp => by rw [Nat.zero_add]; exact HB2.out.cell p v hp)
      have HLn' : Hid ((Tryd.prog.info? 50).map (·.size) = some Cn.length) := Lib.hid (by rw [hC16]; exact sizenode_F)
      have hEa := (Ext.refl W2).alloc (.cells Cn.toArray 50)
      obtain ⟨ts, hts, hmore⟩ := (HO2.out.ext hEa).rowOf
      rw [forestTo_len] at hts hmore
      have HTs := Lib.hid hts
      have HMore := Lib.hid hmore
      have HC16 := Lib.hid hC16
      have HC1 := Lib.hid hN1
      have HRb := Lib.hid (show (W2.alloc (.cells Cn.toArray 50)).rangeAt W2.heap.size 0 Cn from rangeAt_new W2 Cn 50)
      have HEb := Lib.hid (HE2.out.trans hEa)
      have HLt := Lib.hid (HO2.out.ext hEa).lt
      clear hNN hN1 hC16 hEa hts hmore HO2 HB2 HO1 HB1 HO HE HE01 HE1 HCm HFN hb1 hb2 hm1 hm2 hcell
      go_wp2_with (first | (refine wpList_load_mid rfl _ _ rfl _ _ rfl _ _ HR2.out Tryd.underlying50 rfl HLn'.out ?_) | (refine wpList_nodesC (C := Cn) (by rfl) (.tmp 41) rfl rfl HC16.out ?_) | (at_builtin; refine wpList_appOneM elemnode_F rfl _ _ rfl rfl HTs.out rfl HRb.out HC16.out HC1.out (by omega) (by omega) HEb.out.size ?_))
      intro v' w5 hown' hgrow _
      obtain ⟨g', cap', rfl⟩ := ownsRow_succ hown'
      have HO5 := Lib.hid (HMore.out w5 (.slice (some ⟨g', 0, none⟩) (j + 1) cap') nn Cn HC16.out (by simpa using hown') HV2.out)
      have HE5 := Lib.hid (HEb.out.grown hgrow (fun k e => (HLt.out k e).1))
      have HT5 := Lib.hid (show forestTo l (j + 1) = forestTo l j ++ [nn] by rw [HT.out, HNN.out])
      clear hown' hgrow
      go_wp2
      go_roundw
      case rel => exact ⟨j + 1, _, _, by omega, by go_num, rfl, HE5, Lib.hid (by rw [HT5.out]; exact HO5.out)⟩
      case measure => simp [intOf]; omega
end Go.Proofs.YtgclfmdpapadnaaDoor

open Go.RowKit Go.Shelf
namespace Fm
open Go Go.RowKit
theorem ndV_name {w : World} {n : Nd} {C : List Value} (h : NdV w n (.agg C.toArray)) {s : List UInt8} (hs : s.length ≤ 9223372036854775807) : NdV w { n with name := s } (.agg (C.set 1 (.string (str s))).toArray) := by
  obtain ⟨a, m, c, k, N, S, d, e, h1, h2, h3, h4, h5, h6, h7, h8, h9, h10, h11⟩ := h
  injection e with e
  injection e with e
  subst e
  exact ⟨a, m, c, k, N, S, d, rfl, h1, h2, h3, hs, h5, h6, h7, h8, h9, h10, h11⟩
end Fm
namespace Go.Proofs.YtgclfmdpapadnaaDoor
open Go Go.Proofs Fm
attribute [local go_sem] Oper.semAt_some

theorem nameStr {k : Nat} (h : k < 7) : Utf8.encode (97 + (k : Int) % 5) = str [UInt8.ofNat (97 + k % 5)] := by
  have : ∀ k : Fin 7, Utf8.encode (97 + ((k.val : Nat) : Int) % 5) = str [UInt8.ofNat (97 + k.val % 5)] := by decide
  exact this ⟨k, h⟩
set_option maxRecDepth 100000 in
set_option maxHeartbeats 4000000 in
theorem named_any (l : List Int) (w : World) (v : Value) (h : intE.Row w l v) :
    Calls Tryd.prog 28 #[v] w fun e w' => ∃ v', e = .returned v' ∧ FreeN 50 w.heap.size w' v' (namedF l) ∧ Ext w w' := by
  have HR := Lib.hid h
  have HC := Lib.hid (forest_any l w v h)
  obtain ⟨a, c, rfl, hc1, hc2⟩ := h.slice
  obtain ⟨LN, hLN⟩ : ∃ LN, LN = min l.length 60 := ⟨_, rfl⟩
  have hL60 : LN ≤ 60 := by omega
  have HLl := Lib.hid (show LN ≤ l.length by omega)
  have HLN := Lib.hid (show (forestF l).length = LN by rw [forestF_len, hLN])
  clear h hLN
  go_enter Tryd.func28, Tryd.ntmps28
  go_wp2_with fail
  refine HC.out.mono ?_
  rintro e w1 ⟨v1, rfl, hO, hE⟩
  obtain ⟨A, C, rfl⟩ := hO.slice
  rw [HLN.out] at hO ⊢
  have HO := Lib.hid hO
  have HE := Lib.hid hE
  clear HC hO hE
  go_wp2_with fail
  go_loopw [10] (fun i wr => ∃ j : Nat, j ≤ LN ∧ i = .int .i64 j ∧ Hid (Ext w wr) ∧ Hid (FreeN 50 w.heap.size wr (.slice A LN C) (chgTo (nameG l) (forestF l) j))) (fun i _ => LN - (intOf i).toNat)
  case atStart => exact ⟨0, by omega, rfl, HE, Lib.hid (by rw [chgTo_zero]; exact HO.out)⟩
  case round =>
    clear HO HE
    obtain ⟨j, hj, rfl, HE, HO⟩ := hrel
    by_cases hlt : j < LN
    case neg =>
      have HX := Lib.hid (show chgTo (nameG l) (forestF l) j = namedF l by unfold namedF; rw [show j = (forestF l).length by have := HLN.out; omega, chgTo_all])
      go_wp2
      go_ret
      exact ⟨_, rfl, by rw [← HX.out]; exact HO.out, HE.out⟩
    have hjl : j < l.length := by have := HLl.out; omega
    have hjf : j < (forestF l).length := by have := HLN.out; omega
    have hlen : (chgTo (nameG l) (forestF l) j).length = LN := by rw [chgTo_len, HLN.out]
    obtain ⟨g, cap, hA, hg1, hg2⟩ := HO.out.form (by omega)
    rw [hlen] at hA
    injection hA with hA1 hA2 hA3
    subst hA1 hA3
    have hO := HO.out.relen hlen.symm
    obtain ⟨⟨u, q1⟩, q2⟩ := hO.spot (show j < (chgTo (nameG l) (forestF l) j).length by omega) 1 (by omega)
    obtain ⟨b, off, rfl, hb, hcell, hi6⟩ := int_at HR.out HE.out j hjl
    have hj0 : (0 : Int) ≤ (j : Int) := by omega
    have hj1 : (j : Int) < (LN : Int) := by omega
    have hj2 : (j : Int) < (l.length : Int) := by omega
    obtain ⟨x, hx⟩ : ∃ x, x = l[j] := ⟨_, rfl⟩
    have hxd : l.getD j 0 = x := by rw [List.getD_eq_getElem?_getD, List.getElem?_eq_getElem hjl, Option.getD_some, hx]
    rw [← hx] at hcell hi6
    clear hx
    obtain ⟨k, hk⟩ : ∃ k : Nat, (k : Int) = x / 512 % 8 := ⟨(x / 512 % 8).toNat, by have := Int.emod_nonneg (x / 512) (show (8 : Int) ≠ 0 by decide); omega⟩
    have hb1 : bits BinOp.and IntKind.i64 (x / 512) 7 = (k : Int) := by rw [and7, hk]
    have hk8 : k < 8 := by have := Int.emod_lt_of_pos (x / 512) (show (0 : Int) < 8 by decide); omega
    have HOO := Lib.hid hO
    clear hO
    by_cases hk7 : k < 7
    · have hk7' : (k : Int) < 7 := by omega
      have HSt := Lib.hid (nameStr hk7)
      have HG := Lib.hid (show chgTo (nameG l) (forestF l) (j + 1) = (chgTo (nameG l) (forestF l) j).set j { (chgTo (nameG l) (forestF l) j)[j] with name := [UInt8.ofNat (97 + k % 5)] } by
        rw [chgTo_succ _ _ _ hjf, chgTo_at _ _ _ (by omega) hjf]
        unfold nameG
        rw [hxd, ← hk, if_pos hk7', show ((k : Int) % 5).toNat = k % 5 by omega])
      have HP := Lib.hid (HOO.out.put (show j < (chgTo (nameG l) (forestF l) j).length by omega) 1 (by omega) (.string (str [UInt8.ofNat (97 + k % 5)])) _ (fun w' C h => ndV_name h (s := [UInt8.ofNat (97 + k % 5)]) (by simp)))
      have HE5 := Lib.hid (HE.out.setCell (p := ⟨g, j * 16 + 1, none⟩) hg1 (.string (str [UInt8.ofNat (97 + k % 5)])))
      have HO5 := Lib.hid (show FreeN 50 w.heap.size (wr.setCell ⟨g, j * 16 + 1, none⟩ (.string (str [UInt8.ofNat (97 + k % 5)]))) (.slice (some ⟨g, 0, none⟩) LN C) (chgTo (nameG l) (forestF l) (j + 1)) by
        rw [HG.out]
        exact HP.out.1.relen hlen)
      rw [← HSt.out] at HE5 HO5
      clear hk hxd HP HG HSt
      go_wp2_with fail
      go_roundw
      case rel => exact ⟨j + 1, by omega, by go_num, HE5, HO5⟩
      case measure => simp [intOf]; omega
    · have HG := Lib.hid (show chgTo (nameG l) (forestF l) (j + 1) = chgTo (nameG l) (forestF l) j from chgTo_same _ _ _ hjf (by unfold nameG; rw [hxd, ← hk, if_neg (by omega)]))
      have hk7' : ¬ ((k : Int) < 7) := by omega
      clear q1 q2 hxd hk hk7
      go_wp2_with fail
      go_roundw
      case rel => exact ⟨j + 1, by omega, by go_num, HE, Lib.hid (by rw [HG.out]; exact HO.out)⟩
      case measure => simp [intOf]; omega
set_option maxRecDepth 100000 in
set_option maxHeartbeats 4000000 in
theorem owned_any (l : List Int) (q : Int) (w : World) (v : Value) (h : intE.Row w l v) :
    Calls Tryd.prog 12 #[v, .int .i64 q] w fun e w' => ∃ v', e = .returned (.tuple #[v', .int .i64 (ownerF l q)]) ∧ FreeN 50 w.heap.size w' v' (ownedF l) ∧ Ext w w' := by
  have HR := Lib.hid h
  have HC := Lib.hid (named_any l w v h)
  obtain ⟨a, c, rfl, hc1, hc2⟩ := h.slice
  obtain ⟨LN, hLN⟩ : ∃ LN, LN = min l.length 60 := ⟨_, rfl⟩
  have hL60 : LN ≤ 60 := by omega
  have HLl := Lib.hid (show LN ≤ l.length by omega)
  have HLN := Lib.hid (show (namedF l).length = LN by rw [namedF_len, hLN])
  have HQ := Lib.hid (show ownerF l q = q % 18446744073709551616 % ((LN : Int) + 1) - 1 by unfold ownerF; rw [← hLN])
  have HV := Lib.hid (show wrap64 (wrap64 ((IntKind.u64.wrap q).tmod ((LN : Int) + 1)) - 1) = ownerF l q by
    rw [HQ.out, IntKind.wrap_u64]
    have h0 : 0 ≤ q % 18446744073709551616 := Int.emod_nonneg _ (by decide)
    rw [Int.tmod_eq_emod_of_nonneg h0]
    have h1 := Int.emod_nonneg (q % 18446744073709551616) (show (LN : Int) + 1 ≠ 0 by omega)
    have h2 := Int.emod_lt_of_pos (q % 18446744073709551616) (show (0 : Int) < (LN : Int) + 1 by omega)
    rw [IntWalk.wrap64_in (q % 18446744073709551616 % ((LN : Int) + 1)) (by omega), IntWalk.wrap64_in _ (by omega)])
  clear h hLN
  go_enter Tryd.func12, Tryd.ntmps12
  go_wp2_with fail
  refine HC.out.mono ?_
  rintro e w1 ⟨v1, rfl, hO, hE⟩
  obtain ⟨A, C, rfl⟩ := hO.slice
  rw [HLN.out] at hO ⊢
  have HO := Lib.hid hO
  have HE := Lib.hid hE
  clear HC hO hE
  go_wp2_with fail
  go_loopw [13] (fun i wr => ∃ j : Nat, j ≤ LN ∧ i = .int .i64 j ∧ Hid (Ext w wr) ∧ Hid (FreeN 50 w.heap.size wr (.slice A LN C) (chgTo (ownedG l) (namedF l) j))) (fun i _ => LN - (intOf i).toNat)
  case atStart => exact ⟨0, by omega, rfl, HE, Lib.hid (by rw [chgTo_zero]; exact HO.out)⟩
  case round =>
    clear HO HE
    obtain ⟨j, hj, rfl, HE, HO⟩ := hrel
    by_cases hlt : j < LN
    case neg =>
      have HX := Lib.hid (show chgTo (ownedG l) (namedF l) j = ownedF l by unfold ownedF; rw [show j = (namedF l).length by have := HLN.out; omega, chgTo_all])
      go_wp2_with fail
      go_region
      go_wp2
      go_ret2
      exact ⟨.slice A LN C, by rw [HV.out]; rfl, by rw [← HX.out]; exact HO.out.ext (Ext.refl wr).drew, HE.out.drew⟩
    have hjl : j < l.length := by have := HLl.out; omega
    have hjf : j < (namedF l).length := by have := HLN.out; omega
    have hlen : (chgTo (ownedG l) (namedF l) j).length = LN := by rw [chgTo_len, HLN.out]
    obtain ⟨g, cap, hA, hg1, hg2⟩ := HO.out.form (by omega)
    rw [hlen] at hA
    injection hA with hA1 hA2 hA3
    subst hA1 hA3
    have hO := HO.out.relen hlen.symm
    obtain ⟨⟨u, q1⟩, q2⟩ := hO.spot (show j < (chgTo (ownedG l) (namedF l) j).length by omega) 2 (by omega)
    obtain ⟨⟨u', q3⟩, q4⟩ := hO.spot (show j < (chgTo (ownedG l) (namedF l) j).length by omega) 7 (by omega)
    obtain ⟨b, off, rfl, hb, hcell, hi6⟩ := int_at HR.out HE.out j hjl
    have hj0 : (0 : Int) ≤ (j : Int) := by omega
    have hj1 : (j : Int) < (LN : Int) := by omega
    have hj2 : (j : Int) < (l.length : Int) := by omega
    obtain ⟨x, hx⟩ : ∃ x, x = l[j] := ⟨_, rfl⟩
    have hxd : l.getD j 0 = x := by rw [List.getD_eq_getElem?_getD, List.getElem?_eq_getElem hjl, Option.getD_some, hx]
    rw [← hx] at hcell hi6
    clear hx
    have hb1 : bits BinOp.and IntKind.i64 (x / 32) 3 = x / 32 % 4 := and3 _
    obtain ⟨wd, hwd⟩ : ∃ wd, wd = x / 128 % 8 := ⟨_, rfl⟩
    have hb2 : bits BinOp.and IntKind.i64 (x / 128) 7 = wd := by rw [and7, hwd]
    have hwi : isI64 wd := by
      have h1 := Int.emod_nonneg (x / 128) (show (8 : Int) ≠ 0 by decide)
      have h2 := Int.emod_lt_of_pos (x / 128) (show (0 : Int) < 8 by decide)
      unfold isI64; omega
    have HOO := Lib.hid hO
    have HWI := Lib.hid hwi
    clear hO hwi
    obtain ⟨kk, hkk⟩ : ∃ kk, kk = x / 32 % 4 := ⟨_, rfl⟩
    rw [← hkk] at hb1
    by_cases hk0 : kk = 0
    · have t0 : (kk == 0) = true := by simp [hk0]
      have HG := Lib.hid (show chgTo (ownedG l) (namedF l) (j + 1) = (chgTo (ownedG l) (namedF l) j).set j { (chgTo (ownedG l) (namedF l) j)[j] with kind := 1, width := wd } by
        rw [chgTo_succ _ _ _ hjf, chgTo_at _ _ _ (by omega) hjf]
        unfold ownedG
        rw [hxd, ← hkk, if_pos hk0, ← hwd])
      have HP := Lib.hid (HOO.out.put (show j < (chgTo (ownedG l) (namedF l) j).length by omega) 2 (by omega) (.int .u8 1) _ (fun w' C h => ndV_kind h 1))
      have hlen2 : ((chgTo (ownedG l) (namedF l) j).set j { (chgTo (ownedG l) (namedF l) j)[j] with kind := 1 }).length = LN := by rw [List.length_set]; exact hlen
      have HP2 := Lib.hid ((HP.out.1.relen (hlen.trans hlen2.symm)).put (show j < ((chgTo (ownedG l) (namedF l) j).set j { (chgTo (ownedG l) (namedF l) j)[j] with kind := 1 }).length by omega) 7 (by omega) (.int .i64 wd) _ (fun w' C h => ndV_width h HWI.out))
      have HE5 := Lib.hid ((HE.out.setCell (p := ⟨g, j * 16 + 2, none⟩) hg1 (.int .u8 1)).setCell (p := ⟨g, j * 16 + 7, none⟩) hg1 (.int .i64 wd))
      have HO5 := Lib.hid (show FreeN 50 w.heap.size ((wr.setCell ⟨g, j * 16 + 2, none⟩ (.int .u8 1)).setCell ⟨g, j * 16 + 7, none⟩ (.int .i64 wd)) (.slice (some ⟨g, 0, none⟩) LN C) (chgTo (ownedG l) (namedF l) (j + 1)) by
        have h := HP2.out.1.relen hlen2
        rw [List.set_set, List.getElem_set_self] at h
        rw [HG.out]
        exact h)
      clear hkk hxd HP HP2 HG hk0 hwd
      go_wp2_with fail
      go_roundw
      case rel => exact ⟨j + 1, by omega, by go_num, HE5, HO5⟩
      case measure => simp [intOf]; omega
    · have t0 : (kk == 0) = false := by simp [hk0]
      have HG := Lib.hid (show chgTo (ownedG l) (namedF l) (j + 1) = chgTo (ownedG l) (namedF l) j from chgTo_same _ _ _ hjf (by unfold ownedG; rw [hxd, ← hkk, if_neg hk0]))
      clear q1 q2 q3 q4 hxd hkk hk0 hwd
      go_wp2_with fail
      go_roundw
      case rel => exact ⟨j + 1, by omega, by go_num, HE, Lib.hid (by rw [HG.out]; exact HO.out)⟩
      case measure => simp [intOf]; omega
end Go.Proofs.YtgclfmdpapadnaaDoor

open Go.RowKit Go.Shelf
namespace Go.Proofs.YtgclfmdpapadnaaDoor
open Go Go.Proofs Fm

end Go.Proofs.YtgclfmdpapadnaaDoor

/- Walks: Right, Bytes. -/
open Go.RowKit Go.Shelf
namespace Go.Proofs.YtgclfmdpapadnaaDoor
open Go Go.Proofs Fm

end Go.Proofs.YtgclfmdpapadnaaDoor

/- Walks: the reader's num and text. -/
open Go.RowKit Go.Shelf
namespace Go.Proofs.YtgclfmdpapadnaaDoor
open Go Go.Proofs Fm

/-- The reader in block R: what is left, and how much room. -/
structure RdAt (w0 w : World) (R : Nat) (v : Value) (xs : List UInt8) (m : Int) : Prop where
  ext : Ext w0 w
  old : w0.heap.size ≤ R
  lt : R < w.heap.size
  c0 : w.cell? ⟨R, 0, none⟩ = some v
  c1 : w.cell? ⟨R, 1, none⟩ = some (.int .i64 m)
  f0 : w.frozen? ⟨R, 0, none⟩ = false
  f1 : w.frozen? ⟨R, 1, none⟩ = false
  bytes : Bytes w0 v xs
theorem RdAt.kept {w0 w w' : World} {R : Nat} {v : Value} {xs : List UInt8} {m : Int} (h : RdAt w0 w R v xs m) {row : Option Nat} (hg : w.grownBy w' row) (hr : ∀ k, row = some k → w0.heap.size ≤ k ∧ k ≠ R) : RdAt w0 w' R v xs m := by
  have hne : some R ≠ row := fun e => (hr R e.symm).2 rfl
  exact ⟨h.ext.grown hg (fun k hk => (hr k hk).1), h.old, Nat.lt_of_lt_of_le h.lt hg.size, (hg.cell_far ⟨R, 0, none⟩ h.lt hne).trans h.c0, (hg.cell_far ⟨R, 1, none⟩ h.lt hne).trans h.c1,
    (hg.frozen_far ⟨R, 0, none⟩ h.lt hne).trans h.f0, (hg.frozen_far ⟨R, 1, none⟩ h.lt hne).trans h.f1, h.bytes⟩
theorem RdAt.then {w0 w w' : World} {R : Nat} {v : Value} {xs : List UInt8} {m : Int} (h : RdAt w0 w R v xs m) (hE : Ext w w') : RdAt w0 w' R v xs m := h.kept hE.grownBy (fun k hk => by cases hk)
end Go.Proofs.YtgclfmdpapadnaaDoor

/- Walks: the reader's value. -/
open Go.RowKit Go.Shelf
namespace Go.Proofs.YtgclfmdpapadnaaDoor
open Go Go.Proofs Fm

/-- A struct of four cells in a block of its own. -/
def Box4 (w : World) (b : Nat) (c0 c1 c2 c3 : Value) : Prop := w.heap[b]? = some (.cells #[c0, c1, c2, c3] 48 (0, 0))
theorem Box4.new (w : World) (c0 c1 c2 c3 : Value) : Box4 (w.alloc (.cells #[c0, c1, c2, c3] 48)) w.heap.size c0 c1 c2 c3 := heap_alloc_new w _
theorem Box4.lt {w : World} {b : Nat} {c0 c1 c2 c3 : Value} (h : Box4 w b c0 c1 c2 c3) : b < w.heap.size := (Array.getElem?_eq_some_iff.1 h).1
theorem Box4.kept {w w' : World} {b : Nat} {c0 c1 c2 c3 : Value} (h : Box4 w b c0 c1 c2 c3) {row : Option Nat} (hg : w.grownBy w' row) (hr : row ≠ some b) : Box4 w' b c0 c1 c2 c3 := (hg.block b h.lt (fun e => hr e.symm)).trans h
theorem Box4.ext {w w' : World} {b : Nat} {c0 c1 c2 c3 : Value} (h : Box4 w b c0 c1 c2 c3) (hE : Ext w w') : Box4 w' b c0 c1 c2 c3 := (hE.block b h.lt).trans h
theorem Box4.cells {w : World} {b : Nat} {c0 c1 c2 c3 : Value} (h : Box4 w b c0 c1 c2 c3) : w.cell? ⟨b, 0, none⟩ = some c0 ∧ w.cell? ⟨b, 1, none⟩ = some c1 ∧ w.cell? ⟨b, 2, none⟩ = some c2 ∧ w.cell? ⟨b, 3, none⟩ = some c3 := by
  unfold Box4 at h
  refine ⟨?_, ?_, ?_, ?_⟩ <;> simp [World.cell?, h]
theorem Box4.frozen {w : World} {b : Nat} {c0 c1 c2 c3 : Value} (h : Box4 w b c0 c1 c2 c3) : w.frozen? ⟨b, 0, none⟩ = false ∧ w.frozen? ⟨b, 1, none⟩ = false ∧ w.frozen? ⟨b, 2, none⟩ = false ∧ w.frozen? ⟨b, 3, none⟩ = false := by
  unfold Box4 at h
  refine ⟨?_, ?_, ?_, ?_⟩ <;> simp [World.frozen?, h]
end Go.Proofs.YtgclfmdpapadnaaDoor

open Go.RowKit Go.Shelf
namespace Go.Proofs.YtgclfmdpapadnaaDoor
open Go Go.Proofs Fm

theorem grown_row {a b c : World} {r1 row : Option Nat} (h : a.grownBy b r1) (k : b.grownBy c row) (hr : ∀ x, row = some x → a.heap.size ≤ x) : a.grownBy c r1 :=
  ⟨k.os.trans h.os, k.tape.trans h.tape, k.output.trans h.output, Nat.le_trans h.size k.size,
    fun i hi hne => (k.block i (Nat.lt_of_lt_of_le hi h.size) (fun e => by have := hr i e.symm; omega)).trans (h.block i hi hne)⟩
end Go.Proofs.YtgclfmdpapadnaaDoor

open Go.RowKit Go.Shelf
namespace Go.Proofs.YtgclfmdpapadnaaDoor
open Go Go.Proofs Fm

end Go.Proofs.YtgclfmdpapadnaaDoor

/- Walks: frag's reader: many texts. -/
open Go.RowKit Go.Shelf
namespace Go.Proofs.YtgclfmdpapadnaaDoor
open Go Go.Proofs Fm

end Go.Proofs.YtgclfmdpapadnaaDoor

/- Walks: frag's reader: an item. -/
open Go.RowKit Go.Shelf
namespace Go.Proofs.YtgclfmdpapadnaaDoor
open Go Go.Proofs Fm

theorem _root_.Fm.OwnS.far {e : TypeId} {base : Nat} {w : World} {v : Value} {l : List (List UInt8)} (h : OwnS e base w v l) {B : Nat} (hB : B < base) (j : Nat) (u : Value) : OwnS e base (w.setCell ⟨B, j, none⟩ u) v l :=
  h.kept (setOne_grown w B j u) (fun b hb e => by injection e with e; have := (h.block b hb).1; omega)
end Go.Proofs.YtgclfmdpapadnaaDoor

/- Walks: frag's reader: many items; Take, Parse. -/
open Go.RowKit Go.Shelf
namespace Go.Proofs.YtgclfmdpapadnaaDoor
open Go Go.Proofs Fm

end Go.Proofs.YtgclfmdpapadnaaDoor

open Go.RowKit Go.Shelf
namespace Go.Proofs.YtgclfmdpapadnaaDoor
open Go Go.Proofs Fm

theorem row_one_it (w : World) {x : It} {d : Value} {b : Nat} {e : TypeId} {fr : Nat × Nat} (hb : w.heap[b]? = some (.cells (itCells x d).toArray e fr)) (hd : strE.Row w x.after d) (hw : itWf x) : itE.Row w [x] (.slice (some ⟨b, 0, none⟩) 1 1) := by
  refine Elem.Row.mk rfl (by simp) (by simp [maxLen]) (Array.getElem?_eq_some_iff.1 hb).1 (fun i hi => ⟨fun j => (itCells x d).getD j .nilFunc, ?_, fun j hj => ?_⟩)
  · have : i = 0 := by simp at hi; omega
    subst this
    exact ⟨rfl, rfl, hd, rfl, rfl, rfl, hw⟩
  · have : i = 0 := by simp at hi; omega
    subst this
    have hj6 : j < 6 := hj
    simp only [World.cell?, hb]
    rw [Nat.zero_mul, Nat.zero_add, Nat.zero_add, List.getElem?_toArray, List.getD_eq_getElem?_getD, List.getElem?_eq_getElem (by simp [itCells]; omega)]
    rfl
theorem row_one_str (w : World) {s : List UInt8} {b : Nat} {e : TypeId} {fr : Nat × Nat} (hb : w.heap[b]? = some (.cells #[.string (str s)] e fr)) (hs : s.length ≤ 9223372036854775807) : strE.Row w [s] (.slice (some ⟨b, 0, none⟩) 1 1) := by
  refine Elem.Row.mk rfl (by simp) (by simp [maxLen]) (Array.getElem?_eq_some_iff.1 hb).1 (fun i hi => ⟨fun _ => .string (str s), ?_, fun j hj => ?_⟩)
  · have : i = 0 := by simp at hi; omega
    subst this
    exact ⟨rfl, hs⟩
  · have : i = 0 := by simp at hi; omega
    subst this
    have : j = 0 := by have hj1 : j < 1 := hj; omega
    subst this
    simp [World.cell?, hb]
end Go.Proofs.YtgclfmdpapadnaaDoor
