/- A region that draws its order, operation by operation: those that are wanted and those that are not. No program is imported. -/
import Derived.Test.YtbciamploeejiaaGreatPlQ
import Derived.Deep.MidRow
import Derived.Test.YtbciamploeejiaaGreatIdC
import Derived.WalkSmall
import Derived.Lib.SlicesCompact
import Derived.Deep.RegionHeld3
import Derived.Test.YtbciamploeejiaaGreatPlO
import Derived.Test.YtbciamploeejiaaGreatProg
import Derived.Deep.WholeRow
import Derived.Great.BuildSlice
namespace Fm
open Go
open Go.RowKit

theorem flat16_all : ∀ (cs : List (List Value)), (∀ C, C ∈ cs → C.length = 16) → cs.flatten.length = cs.length * 16
  | [], _ => rfl
  | C :: cs, h => by
    have h1 := h C (List.mem_cons_self ..)
    have h2 := flat16_all cs (fun D hD => h D (List.mem_cons_of_mem _ hD))
    rw [List.flatten_cons, List.length_append, h1, h2, List.length_cons]; omega
theorem flat16_set : ∀ (cs : List (List Value)) (i j : Nat) (u : Value) (hi : i < cs.length), (∀ C, C ∈ cs → C.length = 16) → j < 16 → cs.flatten.set (i * 16 + j) u = (cs.set i (cs[i].set j u)).flatten
  | [], i, _, _, hi, _, _ => by simp at hi
  | C :: cs, 0, j, u, _, h, hj => by
    have := h C (List.mem_cons_self ..)
    simp only [List.flatten_cons, List.set_cons_zero, List.getElem_cons_zero, Nat.zero_mul, Nat.zero_add]
    rw [List.set_append_left _ _ (by omega)]
  | C :: cs, i + 1, j, u, hi, h, hj => by
    have hC := h C (List.mem_cons_self ..)
    have ih := flat16_set cs i j u (by simpa using hi) (fun D hD => h D (List.mem_cons_of_mem _ hD)) hj
    simp only [List.flatten_cons, List.set_cons_succ, List.getElem_cons_succ]
    rw [List.set_append_right _ _ (by omega), ← ih]
    congr 2
    omega
/-- A node whose slices are not its own. -/
def ShNd (w : World) (n : Nd) (C : List Value) : Prop :=
  ∃ (a : Option Addr) (m c : Nat) (k N s d : Value), C = ndCells n (.slice a m c) k N s d ∧ NdV w n (.agg C.toArray) ∧ (∀ u, u ∈ C → u.oneCell' = true)
theorem ShNd.cells {w : World} {n : Nd} {C : List Value} (h : ShNd w n C) : C.length = 16 := by
  obtain ⟨a, m, c, k, N, s, d, rfl, -⟩ := h; rfl
/-- Nodes whose row is of its own. -/
def ShN (eN : TypeId) (w0 : World) (base : Nat) (w : World) (v : Value) (l : List Nd) : Prop :=
  ∃ cs : List (List Value), cs.length = l.length ∧ w.ownsRow base eN 16 v l.length cs.flatten ∧ ∀ (i : Nat) (hi : i < l.length) (hc : i < cs.length), ShNd w0 l[i] cs[i]
/-- A node whose slices lie from p on, ahead of q. -/
def NdW (eI eV : TypeId) (p q : Nat) (w : World) (n : Nd) (C : List Value) : Prop :=
  ∃ (a : Option Addr) (m c : Nat) (k N S d : Value) (F : Nat → Prop), C = ndCells n (.slice a m c) k N S d ∧ OwnN eI p w (.slice a m c) n.after ∧ (∀ b, (Value.slice a m c).ownBlock = some b → b < q ∧ ¬ F b) ∧
    Owns eV w p n.val (.agg #[k, N, S, d]) F ∧ (∀ b, F b → b < q) ∧ ndWf n
theorem NdW.cells {eI eV : TypeId} {p q : Nat} {w : World} {n : Nd} {C : List Value} (h : NdW eI eV p q w n C) : C.length = 16 := by
  obtain ⟨a, m, c, k, N, s, d, F, rfl, -⟩ := h; rfl
theorem NdW.far {eI eV : TypeId} {p q : Nat} {w w' : World} {n : Nd} {C : List Value} (h : NdW eI eV p q w n C) (hk : ∀ b, p ≤ b → b < q → w'.heap[b]? = w.heap[b]?) : NdW eI eV p q w' n C := by
  obtain ⟨a, m, c, k, N, S, d, F, rfl, h1, h2, h3, h4, h5⟩ := h
  exact ⟨a, m, c, k, N, S, d, F, rfl, ownsRow_block h1 (fun b hb => hk b (World.ownsRow.lt h1 b hb).1 (h2 b hb).1), h2, h3.kept (fun b hb => hk b (h3.bounds b hb).1 (h4 b hb)), h4, h5⟩
theorem NdW.v {eI eV : TypeId} {p q : Nat} {w : World} {n : Nd} {C : List Value} (h : NdW eI eV p q w n C) : NdV w n (.agg C.toArray) := by
  obtain ⟨a, m, c, k, N, S, d, F, rfl, h1, -, h2, -, h3⟩ := h
  obtain ⟨w1, w2, w3, w4, w5, w6, w7, w8, w9, w10, w11⟩ := h3
  exact ⟨a, m, c, k, N, S, d, rfl, h1.row w11, h2.lies, w1, w2, w3, w4, w5, w6, w7, w8, w9⟩
/-- A copy of nodes, the row ahead of lo 0, node i's slices from lo i on, ahead of lo (i + 1). -/
def CopyN (eN eI eV : TypeId) (base : Nat) (w : World) (v : Value) (l : List Nd) : Prop :=
  ∃ (cs : List (List Value)) (lo : Nat → Nat), cs.length = l.length ∧ w.ownsRow base eN 16 v l.length cs.flatten ∧ (∀ b, v.ownBlock = some b → b < lo 0) ∧ base ≤ lo 0 ∧ (∀ i, i < l.length → lo i ≤ lo (i + 1)) ∧ lo l.length ≤ w.heap.size ∧
    ∀ (i : Nat) (hi : i < l.length) (hc : i < cs.length), NdW eI eV (lo i) (lo (i + 1)) w l[i] cs[i]
/-- The first j nodes are copied. -/
def HalfN (eN eI eV : TypeId) (w0 : World) (base : Nat) (w : World) (v : Value) (l : List Nd) (j : Nat) : Prop :=
  ∃ (cs : List (List Value)) (lo : Nat → Nat), cs.length = l.length ∧ w.ownsRow base eN 16 v l.length cs.flatten ∧ (∀ b, v.ownBlock = some b → b < lo 0) ∧ base ≤ lo 0 ∧ (∀ i, i < j → lo i ≤ lo (i + 1)) ∧ lo j ≤ w.heap.size ∧
    (∀ (i : Nat) (hi : i < l.length) (hc : i < cs.length), j ≤ i → ShNd w0 l[i] cs[i]) ∧ ∀ (i : Nat) (hi : i < l.length) (hc : i < cs.length), i < j → NdW eI eV (lo i) (lo (i + 1)) w l[i] cs[i]
theorem HalfN.ext {eN eI eV : TypeId} {w0 w w' : World} {base : Nat} {v : Value} {l : List Nd} {j : Nat} (h : HalfN eN eI eV w0 base w v l j) (hE : Ext w w') : HalfN eN eI eV w0 base w' v l j := by
  obtain ⟨cs, lo, h1, h2, h3, h4, h5, h6, h7, h8⟩ := h
  have hmon : ∀ k, k ≤ j → ∀ i, i ≤ k → lo i ≤ lo k := fun k => by
    induction k with
    | zero => intro _ i hi; have : i = 0 := by omega
              subst this; exact Nat.le_refl _
    | succ k ih =>
      intro hk i hi
      rcases Nat.lt_or_ge i (k + 1) with h | h
      · exact Nat.le_trans (ih (by omega) i (by omega)) (h5 k (by omega))
      · have : i = k + 1 := by omega
        subst this; exact Nat.le_refl _
  exact ⟨cs, lo, h1, hE.own h2, h3, h4, h5, Nat.le_trans h6 hE.size, h7, fun i hi hc hij => (h8 i hi hc hij).far (fun b _ hb => hE.block b (by have := hmon j (Nat.le_refl _) (i + 1) (by omega); omega))⟩
theorem set5 {n : Nd} {e k N s d e' k' N' s' d' : Value} : (((((ndCells n e k N s d).set 6 e').set 12 k').set 13 N').set 14 s').set 15 d' = ndCells n e' k' N' s' d' := rfl
theorem set5_flat {cs : List (List Value)} {j : Nat} (hj : j < cs.length) (h16 : ∀ C, C ∈ cs → C.length = 16) (e k N s d : Value) :
    ((((cs.flatten.set (j * 16 + 6) e).set (j * 16 + 12) k).set (j * 16 + 13) N).set (j * 16 + 14) s).set (j * 16 + 15) d = (cs.set j (((((cs[j].set 6 e).set 12 k).set 13 N).set 14 s).set 15 d)).flatten := by
  have step : ∀ (ds : List (List Value)) (hl : j < ds.length), (∀ C, C ∈ ds → C.length = 16) → ∀ (i : Nat) (u : Value), i < 16 → ds.flatten.set (j * 16 + i) u = (ds.set j (ds[j].set i u)).flatten := fun ds hl h i u hi => flat16_set ds j i u hl h hi
  have keep : ∀ (ds : List (List Value)) (hl : j < ds.length) (i : Nat) (u : Value), (∀ C, C ∈ ds → C.length = 16) → ∀ C, C ∈ ds.set j (ds[j].set i u) → C.length = 16 := fun ds hl i u h C hC => by
    rcases List.mem_or_eq_of_mem_set hC with h1 | h1
    · exact h C h1
    · rw [h1, List.length_set]; exact h _ (List.getElem_mem hl)
  have k1 := keep cs hj 6 e h16
  rw [step cs hj h16 6 e (by omega)]
  have l1 : j < (cs.set j (cs[j].set 6 e)).length := by simpa using hj
  have k2 := keep _ l1 12 k k1
  rw [step _ l1 k1 12 k (by omega)]
  have l2 : j < ((cs.set j (cs[j].set 6 e)).set j ((cs.set j (cs[j].set 6 e))[j].set 12 k)).length := by simpa using hj
  have k3 := keep _ l2 13 N k2
  rw [step _ l2 k2 13 N (by omega)]
  have l3 := l2
  rw [← List.length_set (i := j) (a := (((cs.set j (cs[j].set 6 e)).set j ((cs.set j (cs[j].set 6 e))[j].set 12 k))[j].set 13 N))] at l3
  have k4 := keep _ l3 14 s k3
  rw [step _ l3 k3 14 s (by omega)]
  rw [step _ (by simpa using hj) k4 15 d (by omega)]
  simp
theorem HalfN.step {eN eI eV : TypeId} {w0 wr w W : World} {base : Nat} {l : List Nd} {j g cap : Nat} (h : HalfN eN eI eV w0 base wr (.slice (some ⟨g, 0, none⟩) l.length cap) l j) (hj : j < l.length) (hE : Ext wr w) {a : Option Addr} {m c : Nat} {k N s d : Value} {F : Nat → Prop}
    (hA : OwnN eI wr.heap.size w (.slice a m c) l[j].after) (hF : ∀ b, (Value.slice a m c).ownBlock = some b → ¬ F b) (hV : Owns eV w wr.heap.size l[j].val (.agg #[k, N, s, d]) F)
    (hW : ∀ xs, w.ownsRow base eN 16 (.slice (some ⟨g, 0, none⟩) l.length cap) l.length xs → W.ownsRow base eN 16 (.slice (some ⟨g, 0, none⟩) l.length cap) l.length (((((xs.set (j * 16 + 6) (.slice a m c)).set (j * 16 + 12) k).set (j * 16 + 13) N).set (j * 16 + 14) s).set (j * 16 + 15) d))
    (hg : w.grownBy W (some g)) : HalfN eN eI eV w0 base W (.slice (some ⟨g, 0, none⟩) l.length cap) l (j + 1) := by
  obtain ⟨cs, lo, h1, h2, h3, h4, h5, h6, h7, h8⟩ := h
  have hmon : ∀ k, k ≤ j → ∀ i, i ≤ k → lo i ≤ lo k := fun k => by
    induction k with
    | zero => intro _ i hi; have : i = 0 := by omega
              subst this; exact Nat.le_refl _
    | succ k ih =>
      intro hk i hi
      rcases Nat.lt_or_ge i (k + 1) with h | h
      · exact Nat.le_trans (ih (by omega) i (by omega)) (h5 k (by omega))
      · have : i = k + 1 := by omega
        subst this; exact Nat.le_refl _
  have hgl : g < lo 0 := h3 g rfl
  have hjc : j < cs.length := by omega
  have h16 : ∀ C, C ∈ cs → C.length = 16 := fun C hC => by
    obtain ⟨i, hi, rfl⟩ := List.getElem_of_mem hC
    rcases Nat.lt_or_ge i j with h | h
    · exact (h8 i (by omega) hi h).cells
    · exact (h7 i (by omega) hi h).cells
  obtain ⟨a0, m0, c0, k0, N0, s0, d0, eC, hC, -⟩ := h7 j hj hjc (Nat.le_refl _)
  have hw := hW _ (hE.own h2)
  rw [set5_flat hjc h16, eC, set5] at hw
  have hlj := hmon j (Nat.le_refl _) 0 (by omega)
  refine ⟨cs.set j (ndCells l[j] (.slice a m c) k N s d), fun i => if i ≤ j then lo i else W.heap.size, by simp [h1], hw, ?_, ?_, fun i hi => ?_, ?_, fun i hi hc hji => ?_, fun i hi hc hij => ?_⟩
  · intro b hb; simpa using h3 b hb
  · simpa using h4
  · dsimp only
    rw [if_pos (by omega)]
    by_cases e : i + 1 ≤ j
    · rw [if_pos e]; exact h5 i (by omega)
    · rw [if_neg e]
      have : i = j := by omega
      subst this
      exact Nat.le_trans h6 (Nat.le_trans hE.size hg.size)
  · dsimp only; rw [if_neg (by omega)]; exact Nat.le_refl _
  · have hic : i < cs.length := by simpa using hc
    rw [List.getElem_set_ne (by omega)]
    exact h7 i hi hic (by omega)
  · have hic : i < cs.length := by simpa using hc
    dsimp only
    rw [if_pos (by omega)]
    by_cases e : i = j
    · subst e
      rw [if_neg (by omega), List.getElem_set_self]
      have hn : ndWf l[i] := hC.wf
      refine ⟨a, m, c, k, N, s, d, F, rfl, ?_, fun b hb => ⟨?_, hF b hb⟩, ?_, fun b hb => ?_, hn⟩
      · refine ownsRow_mono (ownsRow_block hA (fun b hb => hg.block b (World.ownsRow.lt hA b hb).2 (fun e => ?_))) h6
        have := (World.ownsRow.lt hA b hb).1
        injection e with e
        omega
      · exact Nat.lt_of_lt_of_le (World.ownsRow.lt hA b hb).2 hg.size
      · refine (hV.kept (fun b hb => hg.block b (hV.bounds b hb).2 (fun e => ?_))).mono h6
        have := (hV.bounds b hb).1
        injection e with e
        omega
      · exact Nat.lt_of_lt_of_le (hV.bounds b hb).2 hg.size
    · rw [if_pos (by omega), List.getElem_set_ne (fun h => e h.symm)]
      refine (h8 i hi hic (by omega)).far (fun b hb1 hb2 => ?_)
      have hb3 : b < lo j := Nat.lt_of_lt_of_le hb2 (hmon j (Nat.le_refl _) (i + 1) (by omega))
      have hb4 : g < b := Nat.lt_of_lt_of_le hgl (Nat.le_trans (hmon i (by omega) 0 (by omega)) hb1)
      rw [hg.block b (by have := hE.size; omega) (fun e => by injection e with e; omega)]
      exact hE.block b (by omega)
/-- The same in a world where a block ahead of the copy has changed. -/
theorem HalfN.set {eN eI eV : TypeId} {w0 w : World} {base : Nat} {v : Value} {l : List Nd} {j b : Nat} (h : HalfN eN eI eV w0 base w v l j) (hb : b < base) (o : Nat) (u : Value) : HalfN eN eI eV w0 base (w.setCell ⟨b, o, none⟩ u) v l j := by
  obtain ⟨cs, lo, h1, h2, h3, h4, h5, h6, h7, h8⟩ := h
  have hg := setOne_grown w b o u
  have hmon : ∀ i, i ≤ j → base ≤ lo i := fun i => by
    induction i with
    | zero => exact fun _ => h4
    | succ i ih => exact fun hi => Nat.le_trans (ih (by omega)) (h5 i (by omega))
  refine ⟨cs, lo, h1, ownsRow_block h2 (fun k hk => hg.block k (h2.lt k hk).2 (fun e => ?_)), h3, h4, h5, Nat.le_trans h6 hg.size, h7, fun i hi hc hij => ?_⟩
  · injection e with e
    have := (h2.lt k hk).1
    omega
  · have q := h8 i hi hc hij
    obtain ⟨a, m, c, k, N, S, d, F, rfl', k1, k2, k3, k4, k5⟩ := q
    have hbi := hmon i (by omega)
    refine ⟨a, m, c, k, N, S, d, F, rfl', ownsRow_block k1 (fun x hx => hg.block x (World.ownsRow.lt k1 x hx).2 (fun e => ?_)), k2, k3.kept (fun x hx => hg.block x (k3.bounds x hx).2 (fun e => ?_)), k4, k5⟩
    · injection e with e
      have := (World.ownsRow.lt k1 x hx).1
      omega
    · injection e with e
      have := (k3.bounds x hx).1
      omega
/-- A node that is still to be copied. -/
theorem HalfN.at {eN eI eV : TypeId} {w0 w : World} {base g cap : Nat} {l : List Nd} {j : Nat} (h : HalfN eN eI eV w0 base w (.slice (some ⟨g, 0, none⟩) l.length cap) l j) (hj : j < l.length) :
    ∃ (a : Option Addr) (m c : Nat) (k N s d : Value), NdV w0 l[j] (.agg (ndCells l[j] (.slice a m c) k N s d).toArray) ∧ (∀ i u, (ndCells l[j] (.slice a m c) k N s d)[i]? = some u → w.cell? ⟨g, j * 16 + i, none⟩ = some u) ∧ (∀ i, w.frozen? ⟨g, i, none⟩ = false) ∧ base ≤ g ∧ g < w.heap.size := by
  obtain ⟨cs, lo, h1, h2, h3, h4, h5, h6, h7, h8⟩ := h
  have hjc : j < cs.length := by omega
  have h16 : ∀ C, C ∈ cs → C.length = 16 := fun C hC => by
    obtain ⟨i, hi, rfl⟩ := List.getElem_of_mem hC
    rcases Nat.lt_or_ge i j with h | h
    · exact (h8 i (by omega) hi h).cells
    · exact (h7 i (by omega) hi h).cells
  obtain ⟨a, m, c, k, N, s, d, eC, hC, -⟩ := h7 j hj hjc (Nat.le_refl _)
  rw [eC] at hC
  refine ⟨a, m, c, k, N, s, d, hC, fun i u hu => ?_, fun i => h2.frozenAt _, (h2.lt g rfl).1, (h2.lt g rfl).2⟩
  have hi : i < 16 := (List.getElem?_eq_some_iff.1 hu).1
  have hfl := flat16_all cs h16
  rw [h2.cellAt _ (by omega), flat16 cs j i hjc h16 hi, eC]
  exact hu
theorem CopyN.mono {eN eI eV : TypeId} {base base' : Nat} {w : World} {v : Value} {l : List Nd} (h : CopyN eN eI eV base w v l) (hb : base' ≤ base) : CopyN eN eI eV base' w v l := by
  obtain ⟨cs, lo, h1, h2, h3, h4, h5⟩ := h
  exact ⟨cs, lo, h1, ownsRow_mono h2 hb, h3, Nat.le_trans hb h4, h5⟩
theorem CopyN.slice {eN eI eV : TypeId} {base : Nat} {w : World} {v : Value} {l : List Nd} (h : CopyN eN eI eV base w v l) : ∃ a c, v = .slice a l.length c := by
  obtain ⟨cs, lo, h1, h2, _⟩ := h
  rcases h2.2 with ⟨e, e2⟩ | ⟨g, cap, cur, e, _⟩
  · exact ⟨none, 0, by rw [e, e2]⟩
  · exact ⟨_, _, e⟩
theorem ShN.slice {eN : TypeId} {w0 w : World} {base : Nat} {v : Value} {l : List Nd} (h : ShN eN w0 base w v l) : (l = [] ∧ v = .slice none 0 0) ∨ ∃ g c, v = .slice (some ⟨g, 0, none⟩) l.length c ∧ l.length ≤ c := by
  obtain ⟨cs, h1, h2, _⟩ := h
  rcases h2.2 with ⟨e, e2⟩ | ⟨g, cap, cur, e, hb, hg, hl, _⟩
  · exact .inl ⟨List.eq_nil_of_length_eq_zero e2, e⟩
  · exact .inr ⟨g, cap, e, hl⟩
end Fm

/- Nodes in blocks that are open, changed and written over: plain facts. No program is imported. -/
namespace Fm
open Go Go.RowKit

/-- What lies outside the open blocks stays. -/
structure Keep (O : Nat → Prop) (w w' : World) : Prop where
  os : w'.os = w.os
  tape : w'.tape = w.tape
  output : w'.output = w.output
  size : w.heap.size ≤ w'.heap.size
  block : ∀ b, b < w.heap.size → ¬ O b → w'.heap[b]? = w.heap[b]?
theorem Keep.refl (O : Nat → Prop) (w : World) : Keep O w w := ⟨rfl, rfl, rfl, Nat.le_refl _, fun _ _ _ => rfl⟩
theorem Keep.trans {O : Nat → Prop} {a b c : World} (h : Keep O a b) (k : Keep O b c) : Keep O a c :=
  ⟨k.os.trans h.os, k.tape.trans h.tape, k.output.trans h.output, Nat.le_trans h.size k.size, fun x hx ho => (k.block x (Nat.lt_of_lt_of_le hx h.size) ho).trans (h.block x hx ho)⟩
theorem Keep.grown {O : Nat → Prop} {a b c : World} {row : Option Nat} (h : Keep O a b) (hg : b.grownBy c row) (hr : ∀ k, row = some k → O k) : Keep O a c :=
  h.trans ⟨hg.os, hg.tape, hg.output, hg.size, fun x hx ho => hg.block x hx (fun e => ho (hr x e.symm))⟩
theorem Keep.ext {O : Nat → Prop} {a b c : World} (h : Keep O a b) (hE : Ext b c) : Keep O a c := h.grown (row := none) hE.grownBy (fun k hk => by cases hk)
theorem Keep.mono {O O' : Nat → Prop} {w w' : World} (h : Keep O w w') (hO : ∀ b, O b → O' b) : Keep O' w w' := ⟨h.os, h.tape, h.output, h.size, fun b hb ho => h.block b hb (fun q => ho (hO b q))⟩
/-- Cells that are there, and may be written. -/
def Has (w : World) (b n : Nat) : Prop := b < w.heap.size ∧ ∀ j, j < n → (∃ u, w.cell? ⟨b, j, none⟩ = some u) ∧ w.frozen? ⟨b, j, none⟩ = false
theorem Has.set {w : World} {b n : Nat} (h : Has w b n) (b' j' : Nat) (u : Value) : Has (w.setCell ⟨b', j', none⟩ u) b n := by
  refine ⟨by simp [h.1], fun j hj => ?_⟩
  obtain ⟨⟨x, hx⟩, hf⟩ := h.2 j hj
  refine ⟨?_, by rw [World.frozen?_setCell]; exact hf⟩
  by_cases e : (⟨b, j, none⟩ : Addr) = ⟨b', j', none⟩
  · rw [← e]; exact ⟨u, World.cell?_setCell_same _ _ _ hx⟩
  · exact ⟨x, (World.cell?_setCell_other w _ _ u (fun h => e h.symm)).trans hx⟩
theorem Has.block {w w' : World} {b n : Nat} (h : Has w b n) (hb : w'.heap[b]? = w.heap[b]?) (hs : w.heap.size ≤ w'.heap.size) : Has w' b n := by
  refine ⟨Nat.lt_of_lt_of_le h.1 hs, fun j hj => ?_⟩
  obtain ⟨⟨x, hx⟩, hf⟩ := h.2 j hj
  exact ⟨⟨x, (World.cell?_of_block (a := ⟨b, j, none⟩) hb).trans hx⟩, (World.frozen?_of_block (a := ⟨b, j, none⟩) hb).trans hf⟩
theorem Has.ext {w w' : World} {b n : Nat} (h : Has w b n) (hE : Ext w w') : Has w' b n := h.block (hE.block b h.1) hE.size
/-- A slice whose cells may be written, in an open block, none of two others. -/
def OpenSl (O : Nat → Prop) (w : World) (g p sz : Nat) (v : Value) : Prop :=
  ∃ a m c, v = .slice a m c ∧ m ≤ 9223372036854775807 ∧ (0 < m → ∃ b, a = some ⟨b, 0, none⟩ ∧ O b ∧ b ≠ g ∧ b ≠ p ∧ Has w b (m * sz))
theorem OpenSl.set {O : Nat → Prop} {w : World} {g p sz : Nat} {v : Value} (h : OpenSl O w g p sz v) (b' j' : Nat) (u : Value) : OpenSl O (w.setCell ⟨b', j', none⟩ u) g p sz v := by
  obtain ⟨a, m, c, h1, h2, h3⟩ := h
  refine ⟨a, m, c, h1, h2, fun hm => ?_⟩
  obtain ⟨b, k1, k2, k3, k4, k5⟩ := h3 hm
  exact ⟨b, k1, k2, k3, k4, k5.set _ _ _⟩
theorem OpenSl.ext {O : Nat → Prop} {w w' : World} {g p sz : Nat} {v : Value} (h : OpenSl O w g p sz v) (hE : Ext w w') : OpenSl O w' g p sz v := by
  obtain ⟨a, m, c, h1, h2, h3⟩ := h
  refine ⟨a, m, c, h1, h2, fun hm => ?_⟩
  obtain ⟨b, k1, k2, k3, k4, k5⟩ := h3 hm
  exact ⟨b, k1, k2, k3, k4, k5.ext hE⟩
theorem OpenSl.own {O : Nat → Prop} {w : World} {g p sz base e n : Nat} {v : Value} {xs : List Value} (h : w.ownsRow base e sz v n xs) (hO : ∀ b, v.ownBlock = some b → O b ∧ b ≠ g ∧ b ≠ p) : OpenSl O w g p sz v := by
  have hx := h.1
  rcases h.2 with ⟨e1, e2⟩ | ⟨b, cap, cur, e1, h1, h2, h3, h4, h5, h6⟩
  · exact ⟨none, 0, 0, e1, by omega, fun h => by omega⟩
  · subst e1
    obtain ⟨k1, k2, k3⟩ := hO b rfl
    refine ⟨_, _, _, rfl, by unfold maxLen at h4; omega, fun hm => ⟨b, rfl, k1, k2, k3, (h.lt b rfl).2, fun j hj => ⟨⟨_, (h.cellAt j (by omega)).trans (List.getElem?_eq_getElem (by omega))⟩, h.frozenAt j⟩⟩⟩
/-- Nodes from their cells. -/
theorem ndRow_parts {eN : TypeId} {base : Nat} {w : World} {v : Value} {l : List Nd} {cs : List (List Value)} (h1 : cs.length = l.length) (h2 : w.ownsRow base eN 16 v l.length cs.flatten)
    (h3 : ∀ (i : Nat) (hi : i < l.length) (hc : i < cs.length), cs[i].length = 16 ∧ NdV w l[i] (.agg cs[i].toArray)) : ndE.Row w l v := by
  have hc := fun g => World.ownsRow.cells h2 (g := g)
  have h16 : ∀ C, C ∈ cs → C.length = 16 := fun C hC => by
    obtain ⟨i, hi, rfl⟩ := List.getElem_of_mem hC
    exact (h3 i (by omega) hi).1
  rcases h2.2 with ⟨rfl, h0⟩ | ⟨g, cap, cur, rfl, hb, hg, hl, hm, h5, h6⟩
  · have : l = [] := List.eq_nil_of_length_eq_zero h0
    subst this
    exact Elem.Row.void ndE w none
  · refine Elem.Row.mk rfl hl hm (Array.getElem?_eq_some_iff.1 hg).1 (fun i hi => ?_)
    have hd : i < cs.length := by omega
    obtain ⟨hlen, hn⟩ := h3 i hi hd
    refine ⟨fun j => cs[i].getD j .nilFunc, ?_, fun j hj => ?_⟩
    · obtain ⟨a, m, c, k, N, S, x, e, k1, k2, k3⟩ := hn
      injection e with e
      have e := congrArg Array.toList e
      simp only at e
      rw [e]
      exact ⟨⟨rfl, rfl, rfl, rfl, rfl, rfl⟩, k1, ⟨rfl, rfl, rfl, rfl, rfl⟩, k2, k3⟩
    · have hj16 : j < 16 := hj
      have := hc g rfl (i * 16 + j) (cs[i].getD j .nilFunc) (by
        rw [flat16 cs i j hd h16 hj16, List.getD_eq_getElem?_getD, List.getElem?_eq_getElem (by omega)]; rfl)
      rw [Addr.add_lit] at this
      exact this
/-- Nodes that may be written over: their row in an open block, and what they are after and their lists too. -/
def RigN (eN : TypeId) (O : Nat → Prop) (p : Nat) (w : World) (v : Value) (l : List Nd) : Prop :=
  ∃ cs : List (List Value), cs.length = l.length ∧ w.ownsRow 0 eN 16 v l.length cs.flatten ∧ (∀ g, v.ownBlock = some g → O g ∧ g ≠ p) ∧
    ∀ (i : Nat) (hi : i < l.length) (hc : i < cs.length), cs[i].length = 16 ∧ NdV w l[i] (.agg cs[i].toArray) ∧
      ∀ g, v.ownBlock = some g → OpenSl O w g p 1 (cs[i].getD 6 .nilFunc) ∧ OpenSl O w g p 4 (cs[i].getD 15 .nilFunc)
theorem RigN.row {eN : TypeId} {O : Nat → Prop} {p : Nat} {w : World} {v : Value} {l : List Nd} (h : RigN eN O p w v l) : ndE.Row w l v := by
  obtain ⟨cs, h1, h2, h3, h4⟩ := h
  exact ndRow_parts h1 h2 (fun i hi hc => ⟨(h4 i hi hc).1, (h4 i hi hc).2.1⟩)
theorem RigN.ext {eN : TypeId} {O : Nat → Prop} {p : Nat} {w w' : World} {v : Value} {l : List Nd} (h : RigN eN O p w v l) (hE : Ext w w') : RigN eN O p w' v l := by
  obtain ⟨cs, h1, h2, h3, h4⟩ := h
  exact ⟨cs, h1, hE.own h2, h3, fun i hi hc => ⟨(h4 i hi hc).1, (h4 i hi hc).2.1.ext hE, fun g hg => ⟨((h4 i hi hc).2.2 g hg).1.ext hE, ((h4 i hi hc).2.2 g hg).2.ext hE⟩⟩⟩
/-- A copy of nodes, all its blocks from base on, ahead of top. -/
def CopyT (eN eI eV : TypeId) (base top : Nat) (w : World) (v : Value) (l : List Nd) : Prop :=
  ∃ (cs : List (List Value)) (lo : Nat → Nat), cs.length = l.length ∧ w.ownsRow base eN 16 v l.length cs.flatten ∧ (∀ b, v.ownBlock = some b → b < lo 0) ∧ base ≤ lo 0 ∧ (∀ i, i < l.length → lo i ≤ lo (i + 1)) ∧ lo l.length ≤ top ∧ top ≤ w.heap.size ∧
    ∀ (i : Nat) (hi : i < l.length) (hc : i < cs.length), NdW eI eV (lo i) (lo (i + 1)) w l[i] cs[i]
theorem CopyN.top {eN eI eV : TypeId} {base : Nat} {w : World} {v : Value} {l : List Nd} (h : CopyN eN eI eV base w v l) : CopyT eN eI eV base w.heap.size w v l := by
  obtain ⟨cs, lo, h1, h2, h3, h4, h5, h6, h7⟩ := h
  exact ⟨cs, lo, h1, h2, h3, h4, h5, h6, Nat.le_refl _, h7⟩
theorem lo_mono {lo : Nat → Nat} {n : Nat} (h5 : ∀ i, i < n → lo i ≤ lo (i + 1)) : ∀ k, k ≤ n → ∀ i, i ≤ k → lo i ≤ lo k := fun k => by
  induction k with
  | zero => intro _ i hi; have : i = 0 := by omega
            subst this; exact Nat.le_refl _
  | succ k ih =>
    intro hk i hi
    rcases Nat.lt_or_ge i (k + 1) with h | h
    · exact Nat.le_trans (ih (by omega) i (by omega)) (h5 k (by omega))
    · have : i = k + 1 := by omega
      subst this; exact Nat.le_refl _
/-- What is not within the copy's blocks may change. -/
theorem CopyT.far {eN eI eV : TypeId} {base top : Nat} {w w' : World} {v : Value} {l : List Nd} (h : CopyT eN eI eV base top w v l) (hk : ∀ b, base ≤ b → b < top → w'.heap[b]? = w.heap[b]?) (hs : w.heap.size ≤ w'.heap.size) : CopyT eN eI eV base top w' v l := by
  obtain ⟨cs, lo, h1, h2, h3, h4, h5, h6, h7, h8⟩ := h
  have hm := lo_mono h5
  refine ⟨cs, lo, h1, ownsRow_block h2 (fun b hb => hk b (h2.lt b hb).1 ?_), h3, h4, h5, h6, Nat.le_trans h7 hs, fun i hi hc => (h8 i hi hc).far (fun b hb1 hb2 => hk b ?_ ?_)⟩
  · have := h3 b hb; have := hm l.length (Nat.le_refl _) 0 (by omega); omega
  · have := hm i (by omega) 0 (by omega); omega
  · have := hm l.length (Nat.le_refl _) (i + 1) (by omega); omega
theorem CopyT.ext {eN eI eV : TypeId} {base top : Nat} {w w' : World} {v : Value} {l : List Nd} (h : CopyT eN eI eV base top w v l) (hE : Ext w w') : CopyT eN eI eV base top w' v l := by
  have ht : top ≤ w.heap.size := by obtain ⟨_, _, _, _, _, _, _, _, h7, _⟩ := h; exact h7
  exact h.far (fun b _ hb => hE.block b (by omega)) hE.size
theorem CopyT.row {eN eI eV : TypeId} {base top : Nat} {w : World} {v : Value} {l : List Nd} (h : CopyT eN eI eV base top w v l) : ndE.Row w l v := by
  obtain ⟨cs, lo, h1, h2, h3, h4, h5, h6, h7, h8⟩ := h
  exact ndRow_parts h1 h2 (fun i hi hc => ⟨(h8 i hi hc).cells, (h8 i hi hc).v⟩)
theorem CopyT.slice {eN eI eV : TypeId} {base top : Nat} {w : World} {v : Value} {l : List Nd} (h : CopyT eN eI eV base top w v l) : (l = [] ∧ v = .slice none 0 0) ∨ ∃ g c, v = .slice (some ⟨g, 0, none⟩) l.length c ∧ l.length ≤ c ∧ base ≤ g ∧ g < top := by
  obtain ⟨cs, lo, h1, h2, h3, h4, h5, h6, h7, h8⟩ := h
  rcases h2.2 with ⟨e, e2⟩ | ⟨g, cap, cur, e, hb, hg, hl, _⟩
  · exact .inl ⟨List.eq_nil_of_length_eq_zero e2, e⟩
  · subst e
    exact .inr ⟨g, cap, rfl, hl, (h2.lt g rfl).1, by have := h3 g rfl; have := lo_mono h5 l.length (Nat.le_refl _) 0 (by omega); omega⟩
/-- The slices of a node within a window. -/
theorem NdW.open {eI eV : TypeId} {p q : Nat} {w : World} {n : Nd} {C : List Value} (h : NdW eI eV p q w n C) {O : Nat → Prop} {g P : Nat} (hO : ∀ b, p ≤ b → b < q → O b ∧ b ≠ g ∧ b ≠ P) : OpenSl O w g P 1 (C.getD 6 .nilFunc) ∧ OpenSl O w g P 4 (C.getD 15 .nilFunc) := by
  obtain ⟨a, m, c, k, N, S, d, F, rfl, h1, h2, h3, h4, h5⟩ := h
  refine ⟨OpenSl.own (show w.ownsRow p eI 1 (.slice a m c) n.after.length (n.after.map (Value.int .i64)) from h1) (fun b hb => hO b (World.ownsRow.lt h1 b hb).1 (h2 b hb).1), ?_⟩
  obtain ⟨kk, nn, ss, ll, hv⟩ : ∃ kk nn ss ll, n.val = .node kk nn ss ll := by cases h : n.val with | node k n s l => exact ⟨k, n, s, l, rfl⟩
  rw [hv] at h3
  obtain ⟨d', e, -, -, C, G, hrow, hch, hF, -⟩ := h3.parts
  injection e with e
  injection e with e
  simp only [List.cons.injEq, and_true] at e
  obtain ⟨-, -, -, rfl⟩ := e
  exact OpenSl.own hrow (fun b hb => hO b (hrow.lt b hb).1 (h4 b ((hF b).2 (.inl hb))))
/-- One cell of a node of a copy is written. -/
theorem CopyT.put {eN eI eV : TypeId} {base top g cap i : Nat} {w : World} {l : List Nd} (h : CopyT eN eI eV base top w (.slice (some ⟨g, 0, none⟩) l.length cap) l) (hi : i < l.length) (j : Nat) (hj : j < 16) (u : Value) (n' : Nd)
    (hN : ∀ p q C, NdW eI eV p q w l[i] C → NdW eI eV p q w n' (C.set j u)) : CopyT eN eI eV base top (w.setCell ⟨g, i * 16 + j, none⟩ u) (.slice (some ⟨g, 0, none⟩) l.length cap) (l.set i n') ∧ w.grownBy (w.setCell ⟨g, i * 16 + j, none⟩ u) (some g) := by
  obtain ⟨cs, lo, h1, h2, h3, h4, h5, h6, h7, h8⟩ := h
  have hm := lo_mono h5
  have h16 : ∀ C, C ∈ cs → C.length = 16 := fun C hC => by
    obtain ⟨k, hk, rfl⟩ := List.getElem_of_mem hC
    exact (h8 k (by omega) hk).cells
  have hic : i < cs.length := by omega
  have st := h2.stored (i * 16 + j) u
  have hg0 := h3 g rfl
  rw [flat16_set cs i j u hic h16 hj] at st
  refine ⟨⟨cs.set i (cs[i].set j u), lo, by simp [h1], by rw [List.length_set]; exact st.1, h3, h4, by rw [List.length_set]; exact h5, by rw [List.length_set]; exact h6, Nat.le_trans h7 st.2.size, fun k hk hkc => ?_⟩, st.2⟩
  have hkl : k < l.length := by simpa using hk
  have hkc' : k < cs.length := by simpa using hkc
  have key : NdW eI eV (lo k) (lo (k + 1)) w (l.set i n')[k] (cs.set i (cs[i].set j u))[k] := by
    by_cases e : i = k
    · subst e
      rw [List.getElem_set_self, List.getElem_set_self]
      exact hN _ _ _ (h8 i hi hic)
    · rw [List.getElem_set_ne e, List.getElem_set_ne e]
      exact h8 k hkl hkc'
  refine key.far (fun b hb1 hb2 => st.2.block b ?_ (fun e => ?_))
  · have := hm l.length (Nat.le_refl _) (k + 1) (by omega); omega
  · injection e with e
    have := hm k (by omega) 0 (by omega)
    omega
/-- The node's cells. -/
theorem CopyT.at {eN eI eV : TypeId} {base top g cap i : Nat} {w : World} {l : List Nd} (h : CopyT eN eI eV base top w (.slice (some ⟨g, 0, none⟩) l.length cap) l) (hi : i < l.length) :
    ∃ (a : Option Addr) (m c : Nat) (k N s d : Value), NdV w l[i] (.agg (ndCells l[i] (.slice a m c) k N s d).toArray) ∧ (∀ j u, (ndCells l[i] (.slice a m c) k N s d)[j]? = some u → w.cell? ⟨g, i * 16 + j, none⟩ = some u) ∧ (∀ j, w.frozen? ⟨g, j, none⟩ = false) ∧ base ≤ g ∧ g < top ∧ g < w.heap.size ∧
      OwnN eI base w (.slice a m c) l[i].after ∧ (∀ b, (Value.slice a m c).ownBlock = some b → b < top ∧ b ≠ g) ∧
      ∀ (O : Nat → Prop) (p : Nat) (w2 : World) (v' : Value) (n' : Nd), (∀ b, base ≤ b → b < top → O b ∧ b ≠ p) → w.grownBy w2 (Value.slice a m c).ownBlock → OwnN eI base w2 v' n'.after → (∀ b, v'.ownBlock = some b → O b ∧ b ≠ g ∧ b ≠ p) →
        ndCells n' v' k N s d = (ndCells l[i] (.slice a m c) k N s d).set 6 v' → n'.val = l[i].val → ndWf n' → (∃ a' m' c', v' = .slice a' m' c') →
        w2.cell? ⟨g, i * 16 + 6, none⟩ = some (.slice a m c) ∧ w2.frozen? ⟨g, i * 16 + 6, none⟩ = false ∧ RigN eN O p (w2.setCell ⟨g, i * 16 + 6, none⟩ v') (.slice (some ⟨g, 0, none⟩) l.length cap) (l.set i n') ∧ w2.grownBy (w2.setCell ⟨g, i * 16 + 6, none⟩ v') (some g) := by
  obtain ⟨cs, lo, h1, h2, h3, h4, h5, h6, h7, h8⟩ := h
  have hm := lo_mono h5
  have h16 : ∀ C, C ∈ cs → C.length = 16 := fun C hC => by
    obtain ⟨k, hk, rfl⟩ := List.getElem_of_mem hC
    exact (h8 k (by omega) hk).cells
  have hic : i < cs.length := by omega
  have hg0 := h3 g rfl
  have hgt : g < top := by have := hm l.length (Nat.le_refl _) 0 (by omega); omega
  have hv := (h8 i hi hic).v
  obtain ⟨a, m, c, k, N, S, d, F, eC, k1, k2, k3, k4, k5⟩ := h8 i hi hic
  have hfl := flat16_all cs h16
  have l1 := hm i (by omega) 0 (by omega)
  have l2 := hm l.length (Nat.le_refl _) (i + 1) (by omega)
  have hblk : ∀ b, (Value.slice a m c).ownBlock = some b → lo i ≤ b ∧ b < lo (i + 1) := fun b hb => ⟨(World.ownsRow.lt k1 b hb).1, (k2 b hb).1⟩
  have hcell : ∀ w2 : World, w2.ownsRow base eN 16 (.slice (some ⟨g, 0, none⟩) l.length cap) l.length cs.flatten → ∀ j u, (ndCells l[i] (.slice a m c) k N S d)[j]? = some u → w2.cell? ⟨g, i * 16 + j, none⟩ = some u := fun w2 hr j u hu => by
    have hj : j < 16 := (List.getElem?_eq_some_iff.1 hu).1
    rw [hr.cellAt _ (by omega), flat16 cs i j hic h16 hj, eC]
    exact hu
  rw [eC] at hv
  refine ⟨a, m, c, k, N, S, d, hv, hcell w h2, fun j => h2.frozenAt _, (h2.lt g rfl).1, hgt, (h2.lt g rfl).2, ownsRow_mono k1 (by omega), fun b hb => ⟨by have := hblk b hb; omega, by have := hblk b hb; omega⟩, ?_⟩
  intro O p w2 v' n' hO hg hown hv' hcs hval hwf hsl
  have r2 : w2.ownsRow base eN 16 (.slice (some ⟨g, 0, none⟩) l.length cap) l.length cs.flatten := by
    refine ownsRow_block h2 (fun b hb => hg.block b (h2.lt b hb).2 (fun e => ?_))
    have := hblk b e.symm
    have := h3 b hb
    omega
  have st := r2.stored (i * 16 + 6) v'
  rw [flat16_set cs i 6 v' hic h16 (by omega)] at st
  refine ⟨hcell w2 r2 6 _ rfl, r2.frozenAt _, ⟨cs.set i (cs[i].set 6 v'), by simp [h1], ownsRow_mono (by rw [List.length_set]; exact st.1) (Nat.zero_le _), fun b hb => ?_, fun x hx hxc => ?_⟩, st.2⟩
  · obtain rfl : g = b := by injection hb
    exact hO g (h2.lt g rfl).1 hgt
  have hxl : x < l.length := by simpa using hx
  have hxc' : x < cs.length := by simpa using hxc
  by_cases e : i = x
  · subst e
    rw [List.getElem_set_self, List.getElem_set_self, eC, ← hcs]
    obtain ⟨w1, w3, w4, w5, w6, w7, w8, w9, w10, w11, w12⟩ := hwf
    obtain ⟨a', m', c', rfl⟩ := hsl
    have o2 : OwnN eI base (w2.setCell ⟨g, i * 16 + 6, none⟩ (.slice a' m' c')) (.slice a' m' c') n'.after := ownsRow_block hown (fun b hb => st.2.block b (World.ownsRow.lt hown b hb).2 (fun e => by injection e with e; exact (hv' b hb).2.1 e))
    have v2 : Owns eV (w2.setCell ⟨g, i * 16 + 6, none⟩ (.slice a' m' c')) (lo i) l[i].val (.agg #[k, N, S, d]) F := (k3.kept (fun b hb => hg.block b (k3.bounds b hb).2 (fun e => (k2 b e.symm).2 hb))).kept (fun b hb => st.2.block b (Nat.lt_of_lt_of_le (k3.bounds b hb).2 hg.size) (fun e => by injection e with e; have := (k3.bounds b hb).1; omega))
    refine ⟨rfl, ⟨a', m', c', k, N, S, d, rfl, o2.row w12, by rw [hval]; exact v2.lies, w1, w3, w4, w5, w6, w7, w8, w9, w10⟩, fun b hb => ?_⟩
    obtain rfl : g = b := by injection hb
    refine ⟨OpenSl.own (show World.ownsRow _ base eI 1 (.slice a' m' c') n'.after.length (n'.after.map (Value.int .i64)) from o2) hv', ?_⟩
    have nw : NdW eI eV (lo i) (lo (i + 1)) (w2.setCell ⟨g, i * 16 + 6, none⟩ (.slice a' m' c')) ⟨l[i].id, l[i].name, l[i].kind, l[i].flow, l[i].owner, l[i].place, [], l[i].width, l[i].quota, l[i].stand, l[i].fails, l[i].tok, l[i].val⟩ (ndCells l[i] (.slice none 0 0) k N S d) := by
      obtain ⟨y1, y2, y3, y4, y5, y6, y7, y8, y9, y10, y11⟩ := k5
      exact ⟨none, 0, 0, k, N, S, d, F, rfl, OwnN.nil _ _ _, fun b hb => by simp [Value.ownBlock] at hb, v2, k4, y1, y2, y3, y4, y5, y6, y7, y8, y9, y10, fun z hz => by cases hz⟩
    exact (nw.open (fun b hb1 hb2 => by
      obtain ⟨o1, o2⟩ := hO b (by omega) (by omega)
      exact ⟨o1, by omega, o2⟩)).2
  · rw [List.getElem_set_ne e, List.getElem_set_ne e]
    have m1 := hm x (by omega) 0 (by omega)
    have m2 := hm l.length (Nat.le_refl _) (x + 1) (by omega)
    have nw : NdW eI eV (lo x) (lo (x + 1)) (w2.setCell ⟨g, i * 16 + 6, none⟩ v') l[x] cs[x] := by
      refine ((h8 x hxl hxc').far (w' := w2) (fun b hb1 hb2 => hg.block b (by omega) (fun e2 => ?_))).far (fun b hb1 hb2 => st.2.block b (Nat.lt_of_lt_of_le (show b < w.heap.size by omega) hg.size) (fun e2 => ?_))
      · have := hblk b e2.symm
        rcases Nat.lt_or_ge i x with q | q
        · have := hm x (by omega) (i + 1) (by omega); omega
        · have := hm i (by omega) (x + 1) (by omega); omega
      · injection e2 with e2; omega
    refine ⟨nw.cells, nw.v, fun b hb => ?_⟩
    obtain rfl : g = b := by injection hb
    exact nw.open (fun b hb1 hb2 => by
      obtain ⟨o1, o2⟩ := hO b (by omega) (by omega)
      exact ⟨o1, by omega, o2⟩)
/-- A node more. -/
theorem CopyT.grow {eN eI eV : TypeId} {base top : Nat} {w : World} {v : Value} {l : List Nd} (h : CopyT eN eI eV base top w v l) : ∃ xs : List Value, w.ownsRow base eN 16 v l.length xs ∧
    ∀ (O : Nat → Prop) (p : Nat) (w' : World) (v' : Value) (n : Nd) (C : List Value), (∀ b, base ≤ b → b < top → O b ∧ b ≠ p) → C.length = 16 → w'.ownsRow base eN 16 v' (l.length + 1) (xs ++ C) → (∀ b, base ≤ b → b < top → v.ownBlock ≠ some b → w'.heap[b]? = w.heap[b]?) →
      (∀ b, v'.ownBlock = some b → v.ownBlock = some b ∨ (O b ∧ b ≠ p ∧ top ≤ b)) → NdV w' n (.agg C.toArray) → C.getD 6 .nilFunc = .slice none 0 0 → C.getD 15 .nilFunc = .slice none 0 0 → RigN eN O p w' v' (l ++ [n]) := by
  obtain ⟨cs, lo, h1, h2, h3, h4, h5, h6', h7, h8⟩ := h
  have hm := lo_mono h5
  have htop := hm l.length (Nat.le_refl _) 0 (by omega)
  refine ⟨cs.flatten, h2, ?_⟩
  intro O p w' v' n C hO hC hrow hg hat hn h6 h15
  refine ⟨cs ++ [C], by simp [h1], ownsRow_mono (by rw [List.length_append, List.flatten_append]; simpa using hrow) (Nat.zero_le _), fun b hb => ?_, fun i hi hic => ?_⟩
  · rcases hat b hb with q | q
    · exact hO b (h2.lt b q).1 (by have := h3 b q; omega)
    · exact ⟨q.1, q.2.1⟩
  · by_cases hil : i < l.length
    · have hil2 : i < cs.length := by omega
      rw [List.getElem_append_left hil, List.getElem_append_left hil2]
      have m1 := hm i (by omega) 0 (by omega)
      have m2 := hm l.length (Nat.le_refl _) (i + 1) (by omega)
      have nw : NdW eI eV (lo i) (lo (i + 1)) w' l[i] cs[i] := (h8 i hil hil2).far (fun b hb1 hb2 => hg b (by omega) (by omega) (fun e => by have := h3 b e; omega))
      refine ⟨nw.cells, nw.v, fun g hg' => nw.open (fun b hb1 hb2 => ?_)⟩
      obtain ⟨o1, o2⟩ := hO b (by omega) (by omega)
      refine ⟨o1, ?_, o2⟩
      rcases hat g hg' with q | q
      · have := h3 g q; omega
      · omega
    · have e1 : i = l.length := by simp at hi; omega
      subst e1
      have e2 : (cs ++ [C])[l.length]'hic = C := by rw [List.getElem_append_right (by omega)]; simp [h1]
      rw [List.getElem_append_right (Nat.le_refl _), e2]
      simp only [Nat.sub_self, List.getElem_cons_zero]
      refine ⟨hC, hn, fun g hg' => ?_⟩
      rw [h6, h15]
      exact ⟨⟨none, 0, 0, rfl, by omega, fun h => by omega⟩, ⟨none, 0, 0, rfl, by omega, fun h => by omega⟩⟩
theorem CopyT.n {eN eI eV : TypeId} {base top : Nat} {w : World} {v : Value} {l : List Nd} (h : CopyT eN eI eV base top w v l) : CopyN eN eI eV base w v l := by
  obtain ⟨cs, lo, h1, h2, h3, h4, h5, h6, h7, h8⟩ := h
  exact ⟨cs, lo, h1, h2, h3, h4, h5, Nat.le_trans h6 h7, h8⟩
theorem CopyN.kept {eN eI eV : TypeId} {base : Nat} {w w' : World} {v : Value} {l : List Nd} {row : Option Nat} (h : CopyN eN eI eV base w v l) (hg : w.grownBy w' row) (hr : ∀ b, row = some b → b < base) : CopyN eN eI eV base w' v l :=
  (h.top.far (fun b hb1 hb2 => hg.block b hb2 (fun e => by have := hr b e.symm; omega)) hg.size).n
theorem CopyT.size {eN eI eV : TypeId} {base top : Nat} {w : World} {v : Value} {l : List Nd} (h : CopyT eN eI eV base top w v l) : top ≤ w.heap.size := by
  obtain ⟨_, _, _, _, _, _, _, _, h7, _⟩ := h; exact h7
theorem CopyT.low {eN eI eV : TypeId} {base top : Nat} {w : World} {v : Value} {l : List Nd} (h : CopyT eN eI eV base top w v l) : base ≤ top := by
  obtain ⟨cs, lo, h1, h2, h3, h4, h5, h6, h7, h8⟩ := h
  have := lo_mono h5 l.length (Nat.le_refl _) 0 (by omega)
  omega
theorem CopyT.block {eN eI eV : TypeId} {base top : Nat} {w : World} {v : Value} {l : List Nd} (h : CopyT eN eI eV base top w v l) (b : Nat) (hb : v.ownBlock = some b) : base ≤ b ∧ b < top := by
  obtain ⟨cs, lo, h1, h2, h3, h4, h5, h6, h7, h8⟩ := h
  have := lo_mono h5 l.length (Nat.le_refl _) 0 (by omega)
  have := h3 b hb
  exact ⟨(h2.lt b hb).1, by omega⟩
end Fm

/- Two copies of a state, and what is written over: plain facts. No program is imported. -/
namespace Fm
open Go Go.RowKit

/-- Two copies, each in blocks of its own, and their boxes. -/
structure Two (eN eI eV : TypeId) (w0 w : World) (u1 u2 : List Value) (l : List Nd) (b1 b2 : Nat) (v1 v2 : Value) (p1 q1 p2 q2 : Nat) : Prop where
  e : Ext w0 w
  x1 : BoxL w b1 u1
  x2 : BoxL w b2 u2
  c1 : CopyT eN eI eV p1 q1 w v1 l
  c2 : CopyT eN eI eV p2 q2 w v2 l
  n1 : w0.heap.size ≤ b1
  n2 : w0.heap.size ≤ b2
  ne : b1 ≠ b2
  lo : w0.heap.size ≤ p1
  mid : q1 ≤ p2
  f11 : b1 < p1 ∨ q1 ≤ b1
  f12 : b1 < p2 ∨ q2 ≤ b1
  f21 : b2 < p1 ∨ q1 ≤ b2
  f22 : b2 < p2 ∨ q2 ≤ b2
theorem Two.ext {eN eI eV : TypeId} {w0 w w' : World} {u1 u2 : List Value} {l : List Nd} {b1 b2 : Nat} {v1 v2 : Value} {p1 q1 p2 q2 : Nat} (h : Two eN eI eV w0 w u1 u2 l b1 b2 v1 v2 p1 q1 p2 q2) (hE : Ext w w') : Two eN eI eV w0 w' u1 u2 l b1 b2 v1 v2 p1 q1 p2 q2 :=
  ⟨h.e.trans hE, h.x1.ext hE, h.x2.ext hE, h.c1.ext hE, h.c2.ext hE, h.n1, h.n2, h.ne, h.lo, h.mid, h.f11, h.f12, h.f21, h.f22⟩
/-- What is open when the first of the two is changed: all that is new, but the second, and the boxes. -/
def OpT (w0 : World) (b1 b2 p2 q2 : Nat) (b : Nat) : Prop := w0.heap.size ≤ b ∧ (b < p2 ∨ q2 ≤ b) ∧ b ≠ b1 ∧ b ≠ b2
/-- Behind the first one's change: the second stands, and what is old. -/
structure Aft (eN eI eV : TypeId) (w0 w : World) (u2 : List Value) (l : List Nd) (b1 b2 : Nat) (v2 : Value) (p2 q2 : Nat) : Prop where
  e : Ext w0 w
  x2 : BoxL w b2 u2
  c2 : CopyT eN eI eV p2 q2 w v2 l
  n1 : w0.heap.size ≤ b1
  n2 : w0.heap.size ≤ b2
  ne : b1 ≠ b2
  f12 : b1 < p2 ∨ q2 ≤ b1
  lo : w0.heap.size ≤ p2
theorem Aft.ext {eN eI eV : TypeId} {w0 w w' : World} {u2 : List Value} {l : List Nd} {b1 b2 : Nat} {v2 : Value} {p2 q2 : Nat} (h : Aft eN eI eV w0 w u2 l b1 b2 v2 p2 q2) (hE : Ext w w') : Aft eN eI eV w0 w' u2 l b1 b2 v2 p2 q2 :=
  ⟨h.e.trans hE, h.x2.ext hE, h.c2.ext hE, h.n1, h.n2, h.ne, h.f12, h.lo⟩
theorem Aft.keep {eN eI eV : TypeId} {w0 w w' : World} {u2 : List Value} {l : List Nd} {b1 b2 : Nat} {v2 : Value} {p2 q2 : Nat} (h : Aft eN eI eV w0 w u2 l b1 b2 v2 p2 q2) {k j : Nat} {u : Value} (ho : OpT w0 b1 b2 p2 q2 k) (hw : w' = w.setCell ⟨k, j, none⟩ u) : Aft eN eI eV w0 w' u2 l b1 b2 v2 p2 q2 := by
  subst hw
  have hg := setOne_grown w k j u
  unfold OpT at ho
  have s2 := h.c2.size
  exact ⟨h.e.grown hg (fun x hx => by injection hx with hx; omega), h.x2.kept hg (fun e => by injection e with e; omega), h.c2.far (fun b q1 q2 => hg.block b (by omega) (fun e => by injection e with e; omega)) hg.size, h.n1, h.n2, h.ne, h.f12, h.lo⟩
/-- While the first one is written over. -/
structure Lp (eN eI eV : TypeId) (w0 w : World) (u1 u2 : List Value) (l : List Nd) (b1 b2 : Nat) (v2 : Value) (p2 q2 g cap : Nat) (cs : List (List Value)) : Prop where
  a : Aft eN eI eV w0 w u2 l b1 b2 v2 p2 q2
  x1 : BoxL w b1 u1
  r : w.ownsRow 0 eN 16 (.slice (some ⟨g, 0, none⟩) cs.length cap) cs.length cs.flatten
  s : ∀ (i : Nat) (hi : i < cs.length), cs[i].length = 16 ∧ OpenSl (OpT w0 b1 b2 p2 q2) w g b1 1 (cs[i].getD 6 .nilFunc) ∧ OpenSl (OpT w0 b1 b2 p2 q2) w g b1 4 (cs[i].getD 15 .nilFunc)
theorem Lp.set {eN eI eV : TypeId} {w0 w : World} {u1 u2 : List Value} {l : List Nd} {b1 b2 : Nat} {v2 : Value} {p2 q2 g cap : Nat} {cs : List (List Value)} (h : Lp eN eI eV w0 w u1 u2 l b1 b2 v2 p2 q2 g cap cs) {k : Nat} (ho : OpT w0 b1 b2 p2 q2 k) (hg : k ≠ g) (j : Nat) (u : Value) :
    Lp eN eI eV w0 (w.setCell ⟨k, j, none⟩ u) u1 u2 l b1 b2 v2 p2 q2 g cap cs := by
  have hgr := setOne_grown w k j u
  refine ⟨h.a.keep ho rfl, h.x1.kept hgr (fun e => by injection e with e; exact ho.2.2.1 e), ownsRow_block h.r (fun b hb => hgr.block b (h.r.lt b hb).2 (fun e => ?_)), fun i hi => ⟨(h.s i hi).1, (h.s i hi).2.1.set _ _ _, (h.s i hi).2.2.set _ _ _⟩⟩
  injection e with e
  have hb : g = b := by injection hb
  omega
theorem Lp.at {eN eI eV : TypeId} {w0 w : World} {u1 u2 : List Value} {l : List Nd} {b1 b2 : Nat} {v2 : Value} {p2 q2 g cap : Nat} {cs : List (List Value)} (h : Lp eN eI eV w0 w u1 u2 l b1 b2 v2 p2 q2 g cap cs) (i : Nat) (hi : i < cs.length) :
    w.cell? ⟨g, i * 16 + 6, none⟩ = some (cs[i].getD 6 .nilFunc) ∧ w.cell? ⟨g, i * 16 + 12 + 3, none⟩ = some (cs[i].getD 15 .nilFunc) := by
  have h16 : ∀ C, C ∈ cs → C.length = 16 := fun C hC => by
    obtain ⟨k, hk, rfl⟩ := List.getElem_of_mem hC
    exact (h.s k hk).1
  have hfl := flat16_all cs h16
  have hl := (h.s i hi).1
  refine ⟨?_, ?_⟩
  · rw [h.r.cellAt (i * 16 + 6) (by omega), flat16 cs i 6 hi h16 (by omega), List.getD_eq_getElem?_getD, List.getElem?_eq_getElem (by omega)]; rfl
  · show w.cell? ⟨g, i * 16 + 15, none⟩ = _
    rw [h.r.cellAt (i * 16 + 15) (by omega), flat16 cs i 15 hi h16 (by omega), List.getD_eq_getElem?_getD, List.getElem?_eq_getElem (by omega)]; rfl
end Fm

namespace Fm
open Go Go.RowKit

def setL : List Value → Nat → List Value → List Value
  | xs, _, [] => xs
  | xs, o, v :: vs => setL (xs.set o v) (o + 1) vs
theorem setL_get : ∀ (vs xs : List Value) (o p : Nat), o + vs.length ≤ xs.length → (setL xs o vs)[p]? = if o ≤ p ∧ p < o + vs.length then vs[p - o]? else xs[p]?
  | [], xs, o, p, _ => by rw [setL, if_neg (by rw [List.length_nil]; omega)]
  | v :: vs, xs, o, p, h => by
    rw [List.length_cons] at h
    rw [setL, setL_get vs (xs.set o v) (o + 1) p (by simp; omega)]
    by_cases h1 : p = o
    · subst h1
      rw [if_neg (by omega), if_pos (by simp), List.getElem?_set_self (by omega)]; simp
    · by_cases h2 : o + 1 ≤ p ∧ p < o + 1 + vs.length
      · rw [if_pos h2, if_pos (by simp; omega), show p - o = (p - (o + 1)) + 1 by omega, List.getElem?_cons_succ]
      · rw [if_neg h2, if_neg (by simp; omega), List.getElem?_set_ne (by omega)]
theorem setL_flat {cs : List (List Value)} {j : Nat} {C : List Value} (hj : j < cs.length) (h16 : ∀ D, D ∈ cs → D.length = 16) (hC : C.length = 16) : setL cs.flatten (j * 16) C = (cs.set j C).flatten := by
  have hl := flat16_all cs h16
  have h16' : ∀ D, D ∈ cs.set j C → D.length = 16 := fun D hD => by
    rcases List.mem_or_eq_of_mem_set hD with h | h
    · exact h16 D h
    · rw [h]; exact hC
  apply List.ext_getElem?
  intro p
  rw [setL_get C cs.flatten (j * 16) p (by rw [hl, hC]; omega), hC]
  by_cases hp : p < cs.length * 16
  · obtain ⟨i, k, hk, rfl⟩ : ∃ i k, k < 16 ∧ p = i * 16 + k := ⟨p / 16, p % 16, Nat.mod_lt _ (by omega), by omega⟩
    have hi : i < cs.length := by omega
    rw [flat16 (cs.set j C) i k (by simpa using hi) h16' hk]
    by_cases e : i = j
    · subst e
      rw [if_pos (by omega), List.getElem_set_self, show i * 16 + k - i * 16 = k by omega]
    · rw [if_neg (by omega), List.getElem_set_ne (fun h => e h.symm), flat16 cs i k hi h16 hk]
  · rw [if_neg (by omega), List.getElem?_eq_none (by rw [hl]; omega), List.getElem?_eq_none (by rw [flat16_all _ h16']; simp; omega)]
theorem ownsRow_setCells {base e size n g cap : Nat} : ∀ (vs : List Value) (o : Nat) (w : World) (xs : List Value), w.ownsRow base e size (.slice (some ⟨g, 0, none⟩) n cap) n xs →
    (w.setCells g o vs).ownsRow base e size (.slice (some ⟨g, 0, none⟩) n cap) n (setL xs o vs)
  | [], _, _, _, h => h
  | v :: vs, o, _, _, h => ownsRow_setCells vs (o + 1) _ _ (h.stored o v).1
/-- The first j nodes of a row of n are made, node i's slices from lo i on. -/
def MadeN (eN eI eV : TypeId) (base : Nat) (w : World) (v : Value) (n : Nat) (f : Nat → Nd) (j : Nat) : Prop :=
  ∃ (cs : List (List Value)) (lo : Nat → Nat), cs.length = n ∧ w.ownsRow base eN 16 v n cs.flatten ∧ (∀ b, v.ownBlock = some b → b < lo 0) ∧ base ≤ lo 0 ∧ (∀ i, i < j → lo i ≤ lo (i + 1)) ∧ lo j ≤ w.heap.size ∧
    (∀ C, C ∈ cs → C.length = 16) ∧ ∀ (i : Nat) (_ : i < n) (hc : i < cs.length), i < j → NdW eI eV (lo i) (lo (i + 1)) w (f i) cs[i]
theorem MadeN.ext {eN eI eV : TypeId} {base : Nat} {w w' : World} {v : Value} {n j : Nat} {f : Nat → Nd} (h : MadeN eN eI eV base w v n f j) (hE : Ext w w') : MadeN eN eI eV base w' v n f j := by
  obtain ⟨cs, lo, h1, h2, h3, h4, h5, h6, h7, h8⟩ := h
  have hmon := lo_mono h5
  refine ⟨cs, lo, h1, hE.own h2, h3, h4, h5, Nat.le_trans h6 hE.size, h7, fun i hi hc hij => (h8 i hi hc hij).far (fun b _ hb => ?_)⟩
  have := hmon j (Nat.le_refl _) (i + 1) (by omega)
  exact (hE.grownBy).block b (by omega) (by simp)
theorem MadeN.lt {eN eI eV : TypeId} {base : Nat} {w : World} {n j g cap : Nat} {f : Nat → Nd} (h : MadeN eN eI eV base w (.slice (some ⟨g, 0, none⟩) n cap) n f j) : base ≤ g ∧ g < w.heap.size := by
  obtain ⟨cs, lo, h1, h2, -⟩ := h
  exact World.ownsRow.lt h2 g rfl
theorem MadeN.there {eN eI eV : TypeId} {base : Nat} {w : World} {n j g cap : Nat} {f : Nat → Nd} (h : MadeN eN eI eV base w (.slice (some ⟨g, 0, none⟩) n cap) n f j) {k : Nat} (hk : k < n) : w.there g (k * 16) 16 := by
  obtain ⟨cs, lo, h1, h2, -⟩ := h
  intro i hi
  have hl : cs.flatten.length = n * 16 := h2.1
  have hlt : k * 16 + i < cs.flatten.length := by omega
  refine ⟨?_, World.ownsRow.frozenAt h2 _⟩
  rw [World.ownsRow.cellAt h2 _ (by omega), List.getElem?_eq_getElem hlt]
  rfl
theorem MadeN.step {eN eI eV : TypeId} {wr w : World} {base : Nat} {n j g cap : Nat} {f : Nat → Nd} (h : MadeN eN eI eV base wr (.slice (some ⟨g, 0, none⟩) n cap) n f j) (hj : j < n) (hE : Ext wr w) {a : Option Addr} {m c : Nat} {k N s d : Value} {F : Nat → Prop}
    (hA : OwnN eI wr.heap.size w (.slice a m c) (f j).after) (hF : ∀ b, (Value.slice a m c).ownBlock = some b → ¬ F b) (hV : Owns eV w wr.heap.size (f j).val (.agg #[k, N, s, d]) F) (hwf : ndWf (f j)) :
    MadeN eN eI eV base (w.setCells g (j * 16) (ndCells (f j) (.slice a m c) k N s d)) (.slice (some ⟨g, 0, none⟩) n cap) n f (j + 1) := by
  have hg := setCells_grown g (ndCells (f j) (.slice a m c) k N s d) (j * 16) w
  obtain ⟨cs, lo, h1, h2, h3, h4, h5, h6, h7, h8⟩ := h
  have hmon := lo_mono h5
  have hgl : g < lo 0 := h3 g rfl
  have hjc : j < cs.length := by omega
  have hw := ownsRow_setCells (ndCells (f j) (.slice a m c) k N s d) (j * 16) w _ (hE.own h2)
  rw [setL_flat hjc h7 rfl] at hw
  have hlj := hmon j (Nat.le_refl _) 0 (by omega)
  generalize hW : w.setCells g (j * 16) (ndCells (f j) (.slice a m c) k N s d) = W at *
  refine ⟨cs.set j (ndCells (f j) (.slice a m c) k N s d), fun i => if i ≤ j then lo i else W.heap.size, by simp [h1], hw, ?_, ?_, fun i hi => ?_, ?_, fun C hC => ?_, fun i hi hc hij => ?_⟩
  · intro b hb; simpa using h3 b hb
  · simpa using h4
  · dsimp only
    rw [if_pos (by omega)]
    by_cases e : i + 1 ≤ j
    · rw [if_pos e]; exact h5 i (by omega)
    · rw [if_neg e]
      have : i = j := by omega
      subst this
      exact Nat.le_trans h6 (Nat.le_trans hE.size hg.size)
  · dsimp only; rw [if_neg (by omega)]; exact Nat.le_refl _
  · rcases List.mem_or_eq_of_mem_set hC with h | h
    · exact h7 C h
    · rw [h]; rfl
  · have hic : i < cs.length := by simpa using hc
    dsimp only
    rw [if_pos (by omega)]
    by_cases e : i = j
    · subst e
      rw [if_neg (by omega), List.getElem_set_self]
      refine ⟨a, m, c, k, N, s, d, F, rfl, ?_, fun b hb => ⟨?_, hF b hb⟩, ?_, fun b hb => ?_, hwf⟩
      · refine ownsRow_mono (ownsRow_block hA (fun b hb => hg.block b (World.ownsRow.lt hA b hb).2 (fun e => ?_))) h6
        have := (World.ownsRow.lt hA b hb).1
        injection e with e
        have := hE.size
        omega
      · exact Nat.lt_of_lt_of_le (World.ownsRow.lt hA b hb).2 hg.size
      · refine (hV.kept (fun b hb => hg.block b (hV.bounds b hb).2 (fun e => ?_))).mono h6
        have := (hV.bounds b hb).1
        injection e with e
        omega
      · exact Nat.lt_of_lt_of_le (hV.bounds b hb).2 hg.size
    · rw [if_pos (by omega), List.getElem_set_ne (fun h => e h.symm)]
      refine (h8 i hi hic (by omega)).far (fun b hb1 hb2 => ?_)
      have h9 := hmon j (Nat.le_refl _) (i + 1) (by omega)
      have h10 := hmon i (by omega) 0 (by omega)
      rw [hg.block b (by have := hE.size; omega) (fun e => by injection e with e; omega)]
      exact (hE.grownBy).block b (by omega) (by simp)
end Fm

namespace Fm
open Go Go.RowKit

def rkC (r : Rk) : List Value := [.int .i64 r.fails, .int .i64 r.up, .int .i64 r.place, .string (str r.id)]
structure FitR (r : Rk) : Prop where
  fails : isI64 r.fails
  up : isI64 r.up
  place : isI64 r.place
  id : IdOk r.id
def cellsA (a : Nat → Rk) : Nat → List Value
  | 0 => []
  | n + 1 => cellsA a n ++ rkC (a n)
theorem cellsA_len (a : Nat → Rk) : ∀ n, (cellsA a n).length = n * 4
  | 0 => rfl
  | n + 1 => by rw [cellsA, List.length_append, cellsA_len a n]; simp [rkC]; omega
theorem cellsA_at (a : Nat → Rk) : ∀ {n i j : Nat}, i < n → j < 4 → (cellsA a n)[i * 4 + j]? = (rkC (a i))[j]?
  | 0, i, j, h, _ => by omega
  | n + 1, i, j, h, hj => by
    rw [cellsA]
    by_cases e : i = n
    · subst e
      rw [List.getElem?_append_right (by rw [cellsA_len]; omega), cellsA_len, show i * 4 + j - i * 4 = j by omega]
    · rw [List.getElem?_append_left (by rw [cellsA_len]; omega), cellsA_at a (by omega) hj]
theorem cellsA_congr {a b : Nat → Rk} : ∀ {n : Nat}, (∀ i, i < n → a i = b i) → cellsA a n = cellsA b n
  | 0, _ => rfl
  | n + 1, h => by rw [cellsA, cellsA, cellsA_congr (fun i hi => h i (by omega)), h n (by omega)]
def updA {α : Type} (a : Nat → α) (i : Nat) (x : α) : Nat → α := fun k => if k = i then x else a k
theorem updA_same {α : Type} (a : Nat → α) (i : Nat) (x : α) : updA a i x i = x := by unfold updA; rw [if_pos rfl]
theorem updA_far {α : Type} (a : Nat → α) {i k : Nat} (h : k ≠ i) (x : α) : updA a i x k = a k := by unfold updA; rw [if_neg h]
theorem cellsA_set (a : Nat → Rk) {n i : Nat} (hi : i < n) (r : Rk) : setL (cellsA a n) (i * 4) (rkC r) = cellsA (updA a i r) n := by
  have h4 : (rkC r).length = 4 := rfl
  apply List.ext_getElem?
  intro p
  rw [setL_get _ _ _ _ (by rw [cellsA_len, h4]; omega), h4]
  by_cases hp : p < n * 4
  · obtain ⟨q, k, hk, rfl⟩ : ∃ q k, k < 4 ∧ p = q * 4 + k := ⟨p / 4, p % 4, Nat.mod_lt _ (by omega), by omega⟩
    rw [cellsA_at (updA a i r) (show q < n by omega) hk]
    by_cases e : q = i
    · subst e
      rw [if_pos (by omega), updA_same, show q * 4 + k - q * 4 = k by omega]
    · rw [if_neg (by omega), updA_far _ e, cellsA_at a (show q < n by omega) hk]
  · rw [if_neg (by omega), List.getElem?_eq_none (by rw [cellsA_len]; omega), List.getElem?_eq_none (by rw [cellsA_len]; omega)]
theorem updA_swp {α : Type} (a : Nat → α) (i j : Nat) : updA (updA a i (a j)) j (a i) = swp a i j := by
  funext k
  unfold updA swp
  by_cases h1 : k = i
  · by_cases h2 : k = j
    · rw [if_pos h2, if_pos h1, ← h1, ← h2]
    · rw [if_neg h2, if_pos h1, if_pos h1]
  · by_cases h2 : k = j
    · rw [if_pos h2, if_neg h1, if_pos h2]
    · rw [if_neg h2, if_neg h1, if_neg h1, if_neg h2]
theorem rkC_one (r : Rk) : ∀ u, u ∈ rkC r → u.oneCell' = true := by
  intro u hu
  simp only [rkC, List.mem_cons, List.not_mem_nil, or_false] at hu
  rcases hu with rfl | rfl | rfl | rfl <;> rfl
/-- Ranks in a row of one's own. -/
def RkRow (e : TypeId) (base : Nat) (w : World) (v : Value) (a : Nat → Rk) (n : Nat) : Prop := w.ownsRow base e 4 v n (cellsA a n)
theorem RkRow.at {e : TypeId} {base g cap n : Nat} {w : World} {a : Nat → Rk} (h : RkRow e base w (.slice (some ⟨g, 0, none⟩) n cap) a n) {i : Nat} (hi : i < n) : w.rangeAt g (i * 4) (rkC (a i)) := by
  intro j u hu
  have hj : j < 4 := by
    have := (List.getElem?_eq_some_iff.1 hu).1
    exact this
  rw [World.ownsRow.cellAt h (i * 4 + j) (by omega), cellsA_at a hi hj, hu]
theorem RkRow.there {e : TypeId} {base g cap n : Nat} {w : World} {a : Nat → Rk} (h : RkRow e base w (.slice (some ⟨g, 0, none⟩) n cap) a n) {i : Nat} (hi : i < n) : w.there g (i * 4) 4 := by
  intro j hj
  refine ⟨?_, World.ownsRow.frozenAt h _⟩
  rw [World.ownsRow.cellAt h (i * 4 + j) (by omega), cellsA_at a hi hj]
  have : j < (rkC (a i)).length := hj
  rw [List.getElem?_eq_getElem this]
  rfl
theorem RkRow.put {e : TypeId} {base g cap n : Nat} {w : World} {a : Nat → Rk} (h : RkRow e base w (.slice (some ⟨g, 0, none⟩) n cap) a n) {i : Nat} (hi : i < n) (r : Rk) :
    RkRow e base (w.setCells g (i * 4) (rkC r)) (.slice (some ⟨g, 0, none⟩) n cap) (updA a i r) n := by
  have := ownsRow_setCells (rkC r) (i * 4) w _ h
  rw [cellsA_set a hi] at this
  exact this
theorem RkRow.congr {e : TypeId} {base n : Nat} {w : World} {v : Value} {a b : Nat → Rk} (h : RkRow e base w v a n) (hab : ∀ i, i < n → a i = b i) : RkRow e base w v b n := by
  unfold RkRow at h ⊢
  rw [← cellsA_congr hab]
  exact h
theorem RkRow.more {e : TypeId} {base n : Nat} {w : World} {v : Value} {a : Nat → Rk} {r : Rk} (h : w.ownsRow base e 4 v (n + 1) (cellsA a n ++ rkC r)) : RkRow e base w v (updA a n r) (n + 1) := by
  unfold RkRow
  rw [cellsA, updA_same, cellsA_congr (b := a) (fun i hi => updA_far a (by omega) r)]
  exact h
theorem RkRow.pop {e : TypeId} {base g cap n : Nat} {w : World} {a : Nat → Rk} (h : RkRow e base w (.slice (some ⟨g, 0, none⟩) (n + 1) cap) a (n + 1)) : RkRow e base w (.slice (some ⟨g, 0, none⟩) n cap) a n :=
  ownsRow_pop (cellsA_len a n) h
theorem RkRow.form {e : TypeId} {base n : Nat} {w : World} {v : Value} {a : Nat → Rk} (h : RkRow e base w v a n) (hn : 0 < n) : ∃ g cap, v = .slice (some ⟨g, 0, none⟩) n cap ∧ base ≤ g ∧ g < w.heap.size := World.ownsRow.form h hn
theorem RkRow.ext {e : TypeId} {base n : Nat} {w w' : World} {v : Value} {a : Nat → Rk} (h : RkRow e base w v a n) (hE : Ext w w') : RkRow e base w' v a n := hE.own h
theorem RkRow.kept {e : TypeId} {base n : Nat} {w w' : World} {v : Value} {a : Nat → Rk} {row : Option Nat} (h : RkRow e base w v a n) (hg : w.grownBy w' row) (hne : v.ownBlock = none ∨ v.ownBlock ≠ row) : RkRow e base w' v a n := World.ownsRow.kept h hg hne
/-- The array of a heap: a box that holds the slice. -/
structure HpQ (e : TypeId) (base : Nat) (w : World) (B : Nat) (v : Value) (a : Nat → Rk) (n : Nat) : Prop where
  box : BoxL w B [v]
  row : RkRow e base w v a n
  apart : v.ownBlock ≠ some B
  low : base ≤ B
theorem HpQ.ext {e : TypeId} {base n B : Nat} {w w' : World} {v : Value} {a : Nat → Rk} (h : HpQ e base w B v a n) (hE : Ext w w') : HpQ e base w' B v a n := ⟨h.box.ext hE, h.row.ext hE, h.apart, h.low⟩
theorem HpQ.congr {e : TypeId} {base n B : Nat} {w : World} {v : Value} {a b : Nat → Rk} (h : HpQ e base w B v a n) (hab : ∀ i, i < n → a i = b i) : HpQ e base w B v b n := ⟨h.box, h.row.congr hab, h.apart, h.low⟩
theorem HpQ.put {e : TypeId} {base g cap n B : Nat} {w : World} {a : Nat → Rk} (h : HpQ e base w B (.slice (some ⟨g, 0, none⟩) n cap) a n) {i : Nat} (hi : i < n) (r : Rk) :
    HpQ e base (w.setCells g (i * 4) (rkC r)) B (.slice (some ⟨g, 0, none⟩) n cap) (updA a i r) n :=
  ⟨h.box.kept (setCells_grown g (rkC r) (i * 4) w) h.apart, h.row.put hi r, h.apart, h.low⟩
/-- Two ranks change places. -/
theorem HpQ.swap {e : TypeId} {base g cap n B : Nat} {w : World} {a : Nat → Rk} (h : HpQ e base w B (.slice (some ⟨g, 0, none⟩) n cap) a n) {i j : Nat} (hi : i < n) (hj : j < n) :
    HpQ e base ((w.setCells g (i * 4) (rkC (a j))).setCells g (j * 4) (rkC (a i))) B (.slice (some ⟨g, 0, none⟩) n cap) (swp a i j) n := by
  have := (h.put hi (a j)).put hj (a i)
  rw [updA_swp] at this
  exact this
def FitA (a : Nat → Rk) (n : Nat) : Prop := ∀ i, i < n → FitR (a i)
theorem FitA.swp {a : Nat → Rk} {n i j : Nat} (h : FitA a n) (hi : i < n) (hj : j < n) : FitA (swp a i j) n := by
  intro k hk
  unfold Fm.swp
  split
  · exact h j hj
  · split
    · exact h i hi
    · exact h k hk
theorem FitA.of {a b : Nat → Rk} {n : Nat} (h : FitA a n) (hs : Same a b n) : FitA b n := by
  intro k hk
  obtain ⟨i, hi, e⟩ := (hs.mem (b k)).1 ⟨k, hk, rfl⟩
  rw [← e]
  exact h i hi
theorem FitA.upd {a : Nat → Rk} {n : Nat} {r : Rk} (h : FitA a n) (hr : FitR r) : FitA (updA a n r) (n + 1) := by
  intro k hk
  by_cases e : k = n
  · subst e; rw [updA_same]; exact hr
  · rw [updA_far _ e]; exact h k (by omega)
/-- What is written in two blocks alone leaves the others. -/
structure Far2 (B g : Nat) (w w' : World) : Prop where
  size : w.heap.size ≤ w'.heap.size
  block : ∀ k, k < w.heap.size → k ≠ B → k ≠ g → w'.heap[k]? = w.heap[k]?
theorem Far2.trans {B g : Nat} {x y z : World} (h : Far2 B g x y) (k : Far2 B g y z) : Far2 B g x z :=
  ⟨Nat.le_trans h.size k.size, fun i hi h1 h2 => (k.block i (Nat.lt_of_lt_of_le hi h.size) h1 h2).trans (h.block i hi h1 h2)⟩
theorem Far2.of {B g : Nat} {x y : World} {row : Option Nat} (h : x.grownBy y row) (hr : row = some B ∨ row = some g ∨ row = none) : Far2 B g x y :=
  ⟨h.size, fun k hk h1 h2 => h.block k hk (by rcases hr with h | h | h <;> (rw [h]; simp; try omega))⟩
theorem Far2.own {B g base e size n : Nat} {x y : World} {v : Value} {xs : List Value} (h : Far2 B g x y) (ho : x.ownsRow base e size v n xs) (h1 : v.ownBlock ≠ some B) (h2 : v.ownBlock ≠ some g) : y.ownsRow base e size v n xs := by
  obtain ⟨hl, ho⟩ := ho
  refine ⟨hl, ?_⟩
  rcases ho with ho | ⟨g', cap, cur, rfl, hb, hg, hrest⟩
  · exact .inl ho
  · refine .inr ⟨g', cap, cur, rfl, hb, ?_, hrest⟩
    rw [h.block g' (Array.getElem?_eq_some_iff.1 hg).1 (fun e => h1 (by rw [e]; rfl)) (fun e => h2 (by rw [e]; rfl))]
    exact hg
end Fm

namespace Fm
open Go Go.RowKit

theorem compact_up {zs : List Int} (hs : ∀ (i j : Nat) (hj : j < zs.length) (hi : i < j), zs[i] ≤ zs[j]) : ∀ m, m ≤ zs.length → (Lib.compactUpTo zs.toArray m).Pairwise (· < ·) ∧ ∀ x, x ∈ Lib.compactUpTo zs.toArray m ↔ x ∈ zs.take m
  | 0, _ => ⟨by simp [Lib.compactUpTo], fun x => by simp [Lib.compactUpTo]⟩
  | m + 1, hm => by
    obtain ⟨h1, h2⟩ := compact_up hs m (by omega)
    have e : zs.toArray[m]! = zs[m] := by simp [getElem!_pos, show m < zs.length by omega]
    rw [Lib.compactUpTo_succ, List.take_succ_eq_append_getElem (by omega)]
    cases hk : Lib.keeps zs.toArray m with
    | true =>
      rw [if_pos rfl, e]
      refine ⟨List.pairwise_append.2 ⟨h1, by simp, fun x hx y hy => ?_⟩, fun x => by rw [List.mem_append, List.mem_append, h2]⟩
      rw [List.mem_singleton] at hy
      subst hy
      rw [h2, List.mem_take_iff_getElem] at hx
      obtain ⟨i, hi, rfl⟩ := hx
      have hm0 : 0 < m := by omega
      have hne : zs[m] ≠ zs[m - 1] := by
        unfold Lib.keeps at hk
        rw [decide_eq_true_eq] at hk
        have := hk.resolve_left (by omega)
        rw [e] at this
        simpa [getElem!_pos, show m - 1 < zs.length by omega] using this
      have g1 := hs (m - 1) m (by omega) (by omega)
      have g2 : zs[i] ≤ zs[m - 1] := by
        by_cases e2 : i = m - 1
        · subst e2; exact Int.le_refl _
        · exact hs i (m - 1) (by omega) (by omega)
      omega
    | false =>
      rw [if_neg (by decide), List.append_nil]
      refine ⟨h1, fun x => ?_⟩
      rw [h2, List.mem_append, List.mem_singleton]
      refine ⟨.inl, fun h => h.elim id (fun h => ?_)⟩
      subst h
      unfold Lib.keeps at hk
      rw [decide_eq_false_iff_not, not_or, Decidable.not_not, e] at hk
      obtain ⟨hm0, he⟩ := hk
      rw [List.mem_take_iff_getElem]
      refine ⟨m - 1, by omega, ?_⟩
      simpa [getElem!_pos, show m - 1 < zs.length by omega] using he.symm
/-- Sorted, each once. -/
def sortF (zs : List Int) : List Int := Lib.compact (zs.mergeSort fun x y => decide (x ≤ y))
theorem sortF_both (zs : List Int) : (sortF zs).Pairwise (· < ·) ∧ ∀ x, x ∈ sortF zs ↔ x ∈ zs := by
  have hp : (zs.mergeSort fun x y => decide (x ≤ y)).Pairwise (fun x y => decide (x ≤ y) = true) := List.pairwise_mergeSort (fun a b c h1 h2 => by simp at *; omega) (fun a b => by simp; omega) zs
  have h := compact_up (zs := zs.mergeSort fun x y => decide (x ≤ y)) (fun i j hj hi => by
    have := List.pairwise_iff_getElem.1 hp i j (by omega) hj hi
    simpa using this) _ (Nat.le_refl _)
  refine ⟨h.1, fun x => (h.2 x).trans ?_⟩
  rw [List.take_length, List.mem_mergeSort]
theorem lt_ext : ∀ {a b : List Int}, a.Pairwise (· < ·) → b.Pairwise (· < ·) → (∀ x, x ∈ a ↔ x ∈ b) → a = b
  | [], [], _, _, _ => rfl
  | [], y :: b, _, _, h => by have := (h y).2 (by simp); simp at this
  | x :: a, [], _, _, h => by have := (h x).1 (by simp); simp at this
  | x :: a, y :: b, ha, hb, h => by
    rw [List.pairwise_cons] at ha hb
    have e : x = y := by
      rcases List.mem_cons.1 ((h x).1 (by simp)) with h1 | h1
      · exact h1
      · rcases List.mem_cons.1 ((h y).2 (by simp)) with h2 | h2
        · exact h2.symm
        · have := ha.1 y h2; have := hb.1 x h1; omega
    subst e
    rw [lt_ext ha.2 hb.2 (fun z => ?_)]
    constructor
    · intro hz
      rcases List.mem_cons.1 ((h z).1 (List.mem_cons_of_mem _ hz)) with h1 | h1
      · have := ha.1 z hz; omega
      · exact h1
    · intro hz
      rcases List.mem_cons.1 ((h z).2 (List.mem_cons_of_mem _ hz)) with h1 | h1
      · have := hb.1 z hz; omega
      · exact h1
theorem lt_without : ∀ {a : List Int}, a.Pairwise (· < ·) → ∀ i, a.length ≤ (a.filter (fun x => decide (x ≠ i))).length + 1
  | [], _, _ => by simp
  | x :: a, h, i => by
    rw [List.pairwise_cons] at h
    have ih := lt_without h.2 i
    by_cases e : x = i
    · subst e
      have : a.filter (fun y => decide (y ≠ x)) = a := List.filter_eq_self.2 (fun y hy => by have := h.1 y hy; simp; omega)
      rw [List.filter_cons_of_neg (by simp), this]
      simp
    · rw [List.filter_cons_of_pos (by simpa using e), List.length_cons, List.length_cons]
      omega
/-- Is one done? -/
def doneF (l : List Nd) (i : Int) : Bool := placeF l i && decide ((nthF l i).stand = 4)
/-- Whom one waits for. -/
def waitsF (l : List Nd) (i : Int) : List Int := if placeF l i then sortF ((nthF l i).after.filter (fun a => !doneF l a)) else []
/-- Who wakes when one is done. -/
def wakeOne (l : List Nd) (i : Int) (x : Nd) : Bool := decide (x.stand = 0) && (decide (i ∈ x.after) && x.after.all (fun a => decide (a = i) || doneF l a))
def wakesF (l : List Nd) (i : Int) : List Nat := if placeF l i then (List.range l.length).filter (fun k => wakeOne l i (nthF l (k : Int))) else []
/-- One is done now. -/
def dnAt (l : List Nd) (i : Nat) : List Nd := l.modify i (fun x => { x with stand := 4 })
theorem dnAt_len (l : List Nd) (i : Nat) : (dnAt l i).length = l.length := by unfold dnAt; simp
theorem dnAt_get {l : List Nd} {i : Nat} (k : Nat) (hk : k < l.length) (hk2 : k < (dnAt l i).length) : (dnAt l i)[k] = if i = k then { l[k] with stand := 4 } else l[k] := by
  unfold dnAt at hk2 ⊢
  simp only [List.getElem_modify]
theorem dnAt_done {l : List Nd} {i : Nat} (hi : i < l.length) (a : Int) : doneF (dnAt l i) a = (doneF l a || decide (a = (i : Int))) := by
  unfold doneF
  have hp : placeF (dnAt l i) a = placeF l a := by unfold placeF; rw [dnAt_len]
  rw [hp]
  cases h : placeF l a with
  | false =>
    have : a ≠ (i : Int) := by unfold placeF at h; simp at h; omega
    simp [this]
  | true =>
    obtain ⟨h0, h1⟩ : 0 ≤ a ∧ a < l.length := by unfold placeF at h; simpa using h
    obtain ⟨k, rfl⟩ : ∃ k : Nat, a = (k : Int) := ⟨a.toNat, by omega⟩
    have hk : k < l.length := by omega
    rw [nthF_at hk, nthF_at (show k < (dnAt l i).length by rw [dnAt_len]; exact hk), dnAt_get k hk]
    by_cases e : i = k
    · subst e; simp
    · rw [if_neg e]
      have : ¬ ((k : Int) = (i : Int)) := by omega
      simp [this]
theorem dnAt_after {l : List Nd} {i k : Nat} (hk : k < l.length) : (nthF (dnAt l i) (k : Int)).after = (nthF l (k : Int)).after := by
  rw [nthF_at hk, nthF_at (show k < (dnAt l i).length by rw [dnAt_len]; exact hk), dnAt_get k hk]
  split <;> rfl
/-- ReadyWakes: what is waited for then. -/
theorem waits_then {l : List Nd} {i k : Nat} (hi : i < l.length) (hk : k < l.length) : waitsF (dnAt l i) (k : Int) = (waitsF l (k : Int)).filter (fun x => decide (x ≠ (i : Int))) := by
  have hp : placeF l (k : Int) = true := by unfold placeF; simp; omega
  have hp2 : placeF (dnAt l i) (k : Int) = true := by unfold placeF; rw [dnAt_len]; simp; omega
  unfold waitsF
  rw [if_pos hp, if_pos hp2, dnAt_after hk]
  refine lt_ext (sortF_both _).1 ((sortF_both _).1.filter _) (fun x => ?_)
  rw [(sortF_both _).2, List.mem_filter, List.mem_filter, (sortF_both _).2, List.mem_filter, dnAt_done hi]
  simp only [Bool.not_eq_true', Bool.or_eq_false_iff, decide_eq_false_iff_not, decide_eq_true_eq, and_assoc, ne_eq]
theorem waits_less {l : List Nd} {i k : Nat} (hi : i < l.length) (hk : k < l.length) : (waitsF (dnAt l i) (k : Int)).length ≤ (waitsF l (k : Int)).length ∧ (waitsF l (k : Int)).length ≤ (waitsF (dnAt l i) (k : Int)).length + 1 := by
  have hp : placeF l (k : Int) = true := by unfold placeF; simp; omega
  rw [waits_then hi hk]
  refine ⟨List.length_filter_le _ _, lt_without ?_ _⟩
  unfold waitsF
  rw [if_pos hp]
  exact (sortF_both _).1
/-- ReadyWakes: just those wake that wait for nobody then. -/
theorem wakes_then {l : List Nd} {i k : Nat} (hi : i < l.length) (hk : k < l.length) : k ∈ wakesF l (i : Int) ↔ (l[k].stand = 0 ∧ (i : Int) ∈ l[k].after ∧ (waitsF (dnAt l i) (k : Int)).length = 0) := by
  have hp : placeF l (i : Int) = true := by unfold placeF; simp; omega
  have hp2 : placeF (dnAt l i) (k : Int) = true := by unfold placeF; rw [dnAt_len]; simp; omega
  have e : (waitsF (dnAt l i) (k : Int)).length = 0 ↔ l[k].after.all (fun a => decide (a = (i : Int)) || doneF l a) = true := by
    rw [List.length_eq_zero_iff, List.eq_nil_iff_forall_not_mem, List.all_eq_true]
    unfold waitsF
    rw [if_pos hp2, dnAt_after hk, nthF_at hk]
    refine ⟨fun h a ha => ?_, fun h x hx => ?_⟩
    · have := h a
      rw [(sortF_both _).2, List.mem_filter, dnAt_done hi] at this
      simp only [ha, true_and] at this
      cases hd : doneF l a with
      | true => simp
      | false => rw [hd] at this; simp at this; simp [this]
    · rw [(sortF_both _).2, List.mem_filter, dnAt_done hi] at hx
      have := h x hx.1
      rw [Bool.or_comm] at this
      rw [this] at hx
      simp at hx
  unfold wakesF wakeOne
  rw [if_pos hp, List.mem_filter, List.mem_range, nthF_at hk, e]
  simp only [Bool.and_eq_true, decide_eq_true_eq, hk, true_and]
end Fm

open Go.RowKit Go.Shelf
namespace Go.Proofs.YtbciamploeejiaaGreat
open Go Go.Proofs Fm
attribute [local go_sem] Oper.semAt_some

set_option maxHeartbeats 1000000 in
theorem rdplace_any (l : List Nd) (i : Int) (w : World) (v : Value) (h : ndE.Row w l v) :
    Calls Tryz.prog 12 #[v, .int .i64 i] w fun e w' => e = .returned (.bool (placeF l i)) ∧ w = w' := by
  obtain ⟨a, c, rfl, hc1, hc2⟩ := h.slice
  have HX := Lib.hid (show placeF l i = (decide (0 ≤ i) && decide (i < l.length)) from rfl)
  clear h
  by_cases h0 : 0 ≤ i
  · go_enter Tryz.func12, Tryz.ntmps12
    go_wp2
    go_ret
    exact ⟨by rw [HX.out]; simp [h0], rfl⟩
  · go_enter Tryz.func12, Tryz.ntmps12
    go_wp2
    go_ret
    exact ⟨by rw [HX.out]; simp; omega, rfl⟩
theorem u8_is {k : UInt8} (c : UInt8) : ((k.toNat : Int) == (c.toNat : Int)) = decide (k = c) := by
  rw [Bool.eq_iff_iff, beq_iff_eq, decide_eq_true_iff]
  constructor
  · intro h; exact UInt8.toNat_inj.1 (by exact_mod_cast h)
  · intro h; rw [h]
theorem placeF_both {l : List Nd} {i : Int} : placeF l i = true ↔ (0 ≤ i ∧ i < l.length) := by unfold placeF; simp
theorem doneF_no {l : List Nd} {i : Int} (h : placeF l i = false) : doneF l i = false := by unfold doneF; rw [h]; rfl
theorem doneF_at {l : List Nd} {j : Nat} (hj : j < l.length) : doneF l (j : Int) = decide (l[j].stand = 4) := by
  unfold doneF
  rw [nthF_at hj, placeF_both.2 ⟨by omega, by omega⟩]
  rfl
set_option maxRecDepth 100000 in
set_option maxHeartbeats 1000000 in
theorem rddone_any (l : List Nd) (i : Int) (w : World) (v : Value) (h : ndE.Row w l v) :
    Calls Tryz.prog 14 #[v, .int .i64 i] w fun e w' => e = .returned (.bool (doneF l i)) ∧ w = w' := by
  obtain ⟨a, c, rfl, hc1, hc2⟩ := h.slice
  have HC := Lib.hid (rdplace_any l i w _ h)
  have HR := Lib.hid h
  clear h
  cases hp : placeF l i with
  | false =>
    have HX := Lib.hid (doneF_no hp)
    rw [hp] at HC
    go_enter Tryz.func14, Tryz.ntmps14
    go_wp2_with fail
    refine HC.out.mono ?_
    rintro e w1 ⟨rfl, rfl⟩
    go_wp2
    go_ret
    exact ⟨by rw [HX.out]; rfl, rfl⟩
  | true =>
    obtain ⟨hp0, hp1⟩ := placeF_both.1 hp
    obtain ⟨j, rfl⟩ : ∃ j : Nat, (j : Int) = i := ⟨i.toNat, by omega⟩
    have hj : j < l.length := by omega
    rw [hp] at HC
    have HX := Lib.hid (doneF_at hj)
    obtain ⟨b, off, rfl, hb, aa, ma, ca, kk, N, s, d, ⟨-, -, -, -, -, -, -, -, -, x9, -⟩, hnv⟩ := nd_at16 HR.out (Ext.refl w) j hj
    have hk := u8_is (k := l[j].stand) 4
    rw [show (((4 : UInt8).toNat : Nat) : Int) = 4 from rfl] at hk
    clear hp0 hp1 hnv
    go_enter Tryz.func14, Tryz.ntmps14
    go_wp2_with fail
    refine HC.out.mono ?_
    rintro e w1 ⟨rfl, rfl⟩
    go_wp2
    go_ret
    exact ⟨by rw [HX.out]; rfl, rfl⟩
set_option maxRecDepth 100000 in
set_option maxHeartbeats 2000000 in
theorem rdids_any (a b : List UInt8) (ha : IdOk a) (hb : IdOk b) (w : World) (hw : KW w) :
    Calls Tryz.prog 79 #[.string (str a), .string (str b)] w fun e w' => e = .returned (.int .i64 (idsC a b)) ∧ Ext w w' := by
  have HC := Lib.hid (idParse_any a ha w hw)
  have HC2 := Lib.hid (fun w' (h : Ext w w') => idParse_any b hb w' (hw.ext h))
  have HL1 := Lib.hid (fun w' (h : Ext w w') => idLess_any a b ha hb w' (hw.ext h))
  have HL2 := Lib.hid (fun w' (h : Ext w w') => idLess_any b a hb ha w' (hw.ext h))
  have HX := Lib.hid (show idsC a b = if (parseP a).isSome ≠ (parseP b).isSome then (if (parseP a).isSome then -1 else 1) else if lessS a b then -1 else if lessS b a then 1 else 0 from rfl)
  clear hw
  go_enter Tryz.func79, Tryz.ntmps79
  go_wp2_with fail
  refine HC.out.mono ?_
  intro e w1 hpo
  obtain ⟨v, rfl, hE1, a1, m1, c1, rfl, -, -⟩ := PathPost.path hpo
  have HE1 := Lib.hid (hE1.alloc (.cells #[.int .i64 (pthOr a).flow, .slice a1 m1 c1] 116))
  clear hE1 HC hpo
  generalize (pthOr a).flow = fa at *
  go_upto_region 2 with (fail)
  generalize w1.alloc (.cells #[.int .i64 fa, .slice a1 m1 c1] 116) = W2 at *
  generalize w1.heap.size = P at *
  go_wp2_with fail
  refine (HC2.out W2 HE1.out).mono ?_
  intro e w3 hpo
  obtain ⟨v, rfl, hE3, a2, m2, c2, rfl, -, -⟩ := PathPost.path hpo
  have HE2 := Lib.hid (HE1.out.trans (hE3.alloc (.cells #[.int .i64 (pthOr b).flow, .slice a2 m2 c2] 116)))
  clear hE3 HC2 HE1 hpo
  generalize (pthOr b).flow = fb at *
  go_upto_region 3 with (fail)
  generalize w3.alloc (.cells #[.int .i64 fb, .slice a2 m2 c2] 116) = w2 at *
  generalize w3.heap.size = Q at *
  generalize (parseP a).isSome = pa at *
  generalize (parseP b).isSome = pb at *
  cases pa with
  | true =>
    cases pb with
    | false =>
      go_wp2
      go_ret
      exact ⟨by rw [HX.out]; rfl, HE2.out⟩
    | true =>
      go_wp2_with fail
      refine (HL1.out w2 HE2.out).mono ?_
      rintro e w3 ⟨rfl, hE3⟩
      have HE3 := Lib.hid (HE2.out.trans hE3)
      clear hE3 HL1 HE2
      cases h1 : lessS a b with
      | true =>
        rw [h1] at HX
        clear h1
        go_wp2
        go_ret
        exact ⟨by rw [HX.out]; rfl, HE3.out⟩
      | false =>
        rw [h1] at HX
        clear h1
        go_wp2_with fail
        refine (HL2.out w3 HE3.out).mono ?_
        rintro e w4 ⟨rfl, hE4⟩
        have HE4 := Lib.hid (HE3.out.trans hE4)
        clear hE4 HL2 HE3
        cases h2 : lessS b a
        all_goals
          rw [h2] at HX
          clear h2
          go_wp2
          go_ret
          exact ⟨by rw [HX.out]; rfl, HE4.out⟩
  | false =>
    cases pb with
    | true =>
      go_wp2
      go_ret
      exact ⟨by rw [HX.out]; rfl, HE2.out⟩
    | false =>
      go_wp2_with fail
      refine (HL1.out w2 HE2.out).mono ?_
      rintro e w3 ⟨rfl, hE3⟩
      have HE3 := Lib.hid (HE2.out.trans hE3)
      clear hE3 HL1 HE2
      cases h1 : lessS a b with
      | true =>
        rw [h1] at HX
        clear h1
        go_wp2
        go_ret
        exact ⟨by rw [HX.out]; rfl, HE3.out⟩
      | false =>
        rw [h1] at HX
        clear h1
        go_wp2_with fail
        refine (HL2.out w3 HE3.out).mono ?_
        rintro e w4 ⟨rfl, hE4⟩
        have HE4 := Lib.hid (HE3.out.trans hE4)
        clear hE4 HL2 HE3
        cases h2 : lessS b a
        all_goals
          rw [h2] at HX
          clear h2
          go_wp2
          go_ret
          exact ⟨by rw [HX.out]; rfl, HE4.out⟩
end Go.Proofs.YtbciamploeejiaaGreat

open Go.RowKit Go.Shelf
namespace Go.Proofs.YtbciamploeejiaaGreat
open Go Go.Proofs Fm

theorem orI_no {x y : Int} (h : x = 0) : orI x y = y := by unfold orI; rw [if_pos h]
theorem orI_yes {x y : Int} (h : x ≠ 0) : orI x y = x := by unfold orI; rw [if_neg h]
set_option maxHeartbeats 4000000 in
theorem cmpOr4_any (b : Nat) (x y z u : Int) (w : World) (h0 : w.cell? ⟨b, 0, none⟩ = some (.int .i64 x)) (h1 : w.cell? ⟨b, 1, none⟩ = some (.int .i64 y)) (h2 : w.cell? ⟨b, 2, none⟩ = some (.int .i64 z)) (h3 : w.cell? ⟨b, 3, none⟩ = some (.int .i64 u)) :
    Calls Tryz.prog 77 #[.slice (some ⟨b, 0, none⟩) 4 4] w fun e w' => e = .returned (.int .i64 (orI x (orI y (orI z u)))) ∧ w = w' := by
  by_cases hx : x = 0
  · have t0 : (x != 0) = false := by simp [hx]
    rw [orI_no hx]
    clear hx
    by_cases hy : y = 0
    · have t1 : (y != 0) = false := by simp [hy]
      rw [orI_no hy]
      clear hy
      by_cases hz : z = 0
      · have t2 : (z != 0) = false := by simp [hz]
        rw [orI_no hz]
        clear hz
        by_cases hu : u = 0
        · have t3 : (u != 0) = false := by simp [hu]
          have HY := Lib.hid hu
          clear hu
          go_enter Tryz.func77, Tryz.ntmps77
          go_wp2
          refine wp_loop_rounds 5 ?_
          rw [rounds_succ]
          go_wp2
          rw [rounds_succ]
          go_wp2
          rw [rounds_succ]
          go_wp2
          rw [rounds_succ]
          go_wp2
          rw [rounds_succ]
          go_wp2
          go_ret
          exact ⟨by rw [HY.out]; rfl, rfl⟩
        · have t3 : (u != 0) = true := by simp [hu]
          clear hu
          go_enter Tryz.func77, Tryz.ntmps77
          go_wp2
          refine wp_loop_rounds 4 ?_
          rw [rounds_succ]
          go_wp2
          rw [rounds_succ]
          go_wp2
          rw [rounds_succ]
          go_wp2
          rw [rounds_succ]
          go_wp2
          go_ret
          exact ⟨rfl, rfl⟩
      · have t2 : (z != 0) = true := by simp [hz]
        rw [orI_yes hz]
        clear hz
        go_enter Tryz.func77, Tryz.ntmps77
        go_wp2
        refine wp_loop_rounds 3 ?_
        rw [rounds_succ]
        go_wp2
        rw [rounds_succ]
        go_wp2
        rw [rounds_succ]
        go_wp2
        go_ret
        exact ⟨rfl, rfl⟩
    · have t1 : (y != 0) = true := by simp [hy]
      rw [orI_yes hy]
      clear hy
      go_enter Tryz.func77, Tryz.ntmps77
      go_wp2
      refine wp_loop_rounds 2 ?_
      rw [rounds_succ]
      go_wp2
      rw [rounds_succ]
      go_wp2
      go_ret
      exact ⟨rfl, rfl⟩
  · have t0 : (x != 0) = true := by simp [hx]
    rw [orI_yes hx]
    clear hx
    go_enter Tryz.func77, Tryz.ntmps77
    go_wp2
    refine wp_loop_rounds 1 ?_
    rw [rounds_succ]
    go_wp2
    go_ret
    exact ⟨rfl, rfl⟩
theorem cmpOr4_new (W : World) (x y z u : Int) (W' : World) (hE : Ext (W.alloc (.cells #[.int .i64 x, .int .i64 y, .int .i64 z, .int .i64 u] 3)) W') :
    Calls Tryz.prog 77 #[.slice (some ⟨W.heap.size, 0, none⟩) 4 4] W' fun e w' => e = .returned (.int .i64 (orI x (orI y (orI z u)))) ∧ W' = w' := by
  have hb := (BoxL.new W [.int .i64 x, .int .i64 y, .int .i64 z, .int .i64 u] 3).ext hE
  exact cmpOr4_any _ x y z u W' (hb.cell 0 _ rfl) (hb.cell 1 _ rfl) (hb.cell 2 _ rfl) (hb.cell 3 _ rfl)
def rkV (r : Rk) : Value := .agg #[.int .i64 r.fails, .int .i64 r.up, .int .i64 r.place, .string (str r.id)]
set_option maxRecDepth 100000 in
set_option maxHeartbeats 8000000 in
theorem than_any (x y : Rk) (hx : IdOk x.id) (hy : IdOk y.id) (w : World) (hw : KW w) :
    Calls Tryz.prog 76 #[rkV x, rkV y] w fun e w' => e = .returned (.int .i64 (thanR x y)) ∧ Ext w w' := by
  have HX := Lib.hid (show thanR x y = orI (cmpI x.fails y.fails) (orI (cmpI x.up y.up) (orI (idsC x.id y.id) (cmpI x.place y.place))) from rfl)
  have hb2 := BoxL.new (w.alloc (.cells #[.int .i64 x.fails, .int .i64 x.up, .int .i64 x.place, .string (str x.id)] 56)) [.int .i64 y.fails, .int .i64 y.up, .int .i64 y.place, .string (str y.id)] 56
  have hb1 := (BoxL.new w [.int .i64 x.fails, .int .i64 x.up, .int .i64 x.place, .string (str x.id)] 56).ext ((Ext.refl _).alloc (.cells #[.int .i64 y.fails, .int .i64 y.up, .int .i64 y.place, .string (str y.id)] 56))
  have hE : Ext w ((w.alloc (.cells #[.int .i64 x.fails, .int .i64 x.up, .int .i64 x.place, .string (str x.id)] 56)).alloc (.cells #[.int .i64 y.fails, .int .i64 y.up, .int .i64 y.place, .string (str y.id)] 56)) := ((Ext.refl w).alloc _).alloc _
  rw [show (w.alloc (.cells #[.int .i64 x.fails, .int .i64 x.up, .int .i64 x.place, .string (str x.id)] 56)).heap.size = w.heap.size + 1 by simp] at hb2
  unfold rkV
  go_enter Tryz.func76, Tryz.ntmps76
  go_upto_region 1 with (fail)
  generalize (w.alloc (.cells #[.int .i64 x.fails, .int .i64 x.up, .int .i64 x.place, .string (str x.id)] 56)).alloc (.cells #[.int .i64 y.fails, .int .i64 y.up, .int .i64 y.place, .string (str y.id)] 56) = W1 at *
  have hSC : ∀ w', Ext W1 w' → (w'.cell? ⟨w.heap.size, 0, none⟩ = some (.int .i64 x.fails) ∧ w'.cell? ⟨w.heap.size, 1, none⟩ = some (.int .i64 x.up) ∧ w'.cell? ⟨w.heap.size, 2, none⟩ = some (.int .i64 x.place) ∧ w'.cell? ⟨w.heap.size, 3, none⟩ = some (.string (str x.id)) ∧
      w'.cell? ⟨w.heap.size + 1, 0, none⟩ = some (.int .i64 y.fails) ∧ w'.cell? ⟨w.heap.size + 1, 1, none⟩ = some (.int .i64 y.up) ∧ w'.cell? ⟨w.heap.size + 1, 2, none⟩ = some (.int .i64 y.place) ∧ w'.cell? ⟨w.heap.size + 1, 3, none⟩ = some (.string (str y.id))) := fun w' h =>
    ⟨(hb1.ext h).cell 0 _ rfl, (hb1.ext h).cell 1 _ rfl, (hb1.ext h).cell 2 _ rfl, (hb1.ext h).cell 3 _ rfl, (hb2.ext h).cell 0 _ rfl, (hb2.ext h).cell 1 _ rfl, (hb2.ext h).cell 2 _ rfl, (hb2.ext h).cell 3 _ rfl⟩
  have HSC := Lib.hid hSC
  have HE := Lib.hid hE
  have HID := Lib.hid (fun w' (h : Ext W1 w') => rdids_any x.id y.id hx hy w' (hw.ext (hE.trans h)))
  have hz := hb2.lt
  have ED := Lib.hid (Ext.refl W1).drew
  clear hb1 hb2 hSC hE hw hx hy
  generalize w.heap.size = B0 at *
  go_region_held3 (fun w' => w'.cell? ⟨B0, 0, none⟩ = some (.int .i64 x.fails) ∧ w'.cell? ⟨B0, 1, none⟩ = some (.int .i64 x.up) ∧ w'.cell? ⟨B0, 2, none⟩ = some (.int .i64 x.place) ∧ w'.cell? ⟨B0, 3, none⟩ = some (.string (str x.id)) ∧
      w'.cell? ⟨B0 + 1, 0, none⟩ = some (.int .i64 y.fails) ∧ w'.cell? ⟨B0 + 1, 1, none⟩ = some (.int .i64 y.up) ∧ w'.cell? ⟨B0 + 1, 2, none⟩ = some (.int .i64 y.place) ∧ w'.cell? ⟨B0 + 1, 3, none⟩ = some (.string (str y.id)))
    ((first | exact HSC.out _ ED.out | exact HSC.out _ E1.out | exact HSC.out _ (E1.out.alloc _) | exact HSC.out _ (ED.out.alloc _)))
    (first
      | (go_at_call 78; refine (cmpInt_any _ _ _).mono ?_; rintro e w4 ⟨rfl, rfl⟩)
      | (go_at_call 79; refine (HID.out _ ED.out).mono ?_; rintro e w4 ⟨rfl, hE4⟩; have E1 := Lib.hid (ED.out.trans hE4); clear hE4)
      | (go_at_call 77; refine (cmpOr4_new _ _ _ _ _ _ (Ext.refl _)).mono ?_; rintro e w5 ⟨rfl, rfl⟩))
  all_goals go_wp2
  all_goals go_ret
  all_goals exact ⟨by rw [HX.out]; rfl, HE.out.trans (E1.out.alloc _)⟩
end Go.Proofs.YtbciamploeejiaaGreat

open Go.RowKit
namespace Go.Proofs.YtbciamploeejiaaGreat
open Go Go.Proofs Fm

theorem nil_len (a : Addr) (w : World) : (nilAhead 294 48 (.pointer (some a)) "Len").run Tryz.prog w = .ok (some false) w := by kernel_rfl
theorem nil_less (a : Addr) (w : World) : (nilAhead 294 48 (.pointer (some a)) "Less").run Tryz.prog w = .ok (some false) w := by kernel_rfl
theorem nil_swap (a : Addr) (w : World) : (nilAhead 294 48 (.pointer (some a)) "Swap").run Tryz.prog w = .ok (some false) w := by kernel_rfl
theorem nil_push (a : Addr) (w : World) : (nilAhead 294 48 (.pointer (some a)) "Push").run Tryz.prog w = .ok (some false) w := by kernel_rfl
theorem nil_pop (a : Addr) (w : World) : (nilAhead 294 48 (.pointer (some a)) "Pop").run Tryz.prog w = .ok (some false) w := by kernel_rfl
theorem meth_push (a : Addr) (w : World) : (method 294 48 (.pointer (some a)) "Push").run Tryz.prog w = .ok (74, .pointer (some a)) w := by kernel_rfl
theorem meth_pop (a : Addr) (w : World) : (method 294 48 (.pointer (some a)) "Pop").run Tryz.prog w = .ok (73, .pointer (some a)) w := by kernel_rfl
theorem meth_load (B : Nat) (w : World) (v : Value) (f : Nat) (h : w.cell? ⟨B, 0, none⟩ = some v) : ((load ⟨B, 0, none⟩) >>= fun x => pure ((f, x) : FuncId × Value)).run Tryz.prog w = .ok (f, v) w := by
  simp [h]
theorem meth_len (B : Nat) (w : World) (v : Value) (h : w.cell? ⟨B, 0, none⟩ = some v) : (method 294 48 (.pointer (some ⟨B, 0, none⟩)) "Len").run Tryz.prog w = .ok (24, v) w := by
  have e : (method 294 48 (.pointer (some ⟨B, 0, none⟩)) "Len").run Tryz.prog w = ((load ⟨B, 0, none⟩) >>= fun x => pure ((24, x) : FuncId × Value)).run Tryz.prog w := by kernel_rfl
  rw [e, meth_load B w v _ h]
theorem meth_less (B : Nat) (w : World) (v : Value) (h : w.cell? ⟨B, 0, none⟩ = some v) : (method 294 48 (.pointer (some ⟨B, 0, none⟩)) "Less").run Tryz.prog w = .ok (72, v) w := by
  have e : (method 294 48 (.pointer (some ⟨B, 0, none⟩)) "Less").run Tryz.prog w = ((load ⟨B, 0, none⟩) >>= fun x => pure ((72, x) : FuncId × Value)).run Tryz.prog w := by kernel_rfl
  rw [e, meth_load B w v _ h]
theorem meth_swap (B : Nat) (w : World) (v : Value) (h : w.cell? ⟨B, 0, none⟩ = some v) : (method 294 48 (.pointer (some ⟨B, 0, none⟩)) "Swap").run Tryz.prog w = .ok (75, v) w := by
  have e : (method 294 48 (.pointer (some ⟨B, 0, none⟩)) "Swap").run Tryz.prog w = ((load ⟨B, 0, none⟩) >>= fun x => pure ((75, x) : FuncId × Value)).run Tryz.prog w := by kernel_rfl
  rw [e, meth_load B w v _ h]
theorem rowlen_any (a : Option Addr) (n c : Nat) (w : World) : Calls Tryz.prog 24 #[.slice a n c] w fun e w' => e = .returned (.int .i64 (n : Int)) ∧ w = w' := by
  go_enter Tryz.func24, Tryz.ntmps24
  go_wp2
  go_ret
  exact ⟨rfl, rfl⟩
end Go.Proofs.YtbciamploeejiaaGreat

open Go.RowKit
namespace Fm
open Go Go.RowKit
/-- 'x := v' of a struct, the cells whatever: the box was made last. -/
theorem wpList_storeBox {P : Program} {ops : Array Oper} {rest : List Oper} {op : Oper} {a : Act} {w : World} {Q : Exit → Act → World → Prop} (hgd : op.guard = none) (ty : TypeId) (x y : Operand) (ho : op.op = .store ty x y)
    (w0 : World) (c : Array Value) (cs : List Value) (b : Nat) (hw : w = w0.alloc (.cells c ty)) (hb : b = w0.heap.size) (hx : a.eval x = .pointer (some ⟨b, 0, none⟩)) (hy : a.eval y = .agg cs.toArray)
    {n : Nat} (hi : (P.info? ty).map (·.size) = some n) (hc : c.size = n) (hn : cs.length = n) (h1 : ∀ u, u ∈ cs → u.oneCell' = true)
    (h : wpList P ops Q rest (a.put op.dst undef) (w0.alloc (.cells cs.toArray ty))) : wpList P ops Q (op :: rest) a w :=
  wpList_plain hgd fun _ hK => by
    subst hw hb hn
    unfold Oper.wp execOp
    simp only [ho, hx, hy, Instr.storeAt, Instr.sureAddr, Sem.run_bind, Sem.run_pure, Result.andThen_ok, run_storeVar_new w0 ty c cs.toArray (by simpa using hi) (by simpa using hc) (all_oneCell_toArray h1)]
    exact hK _ _ h
theorem rangeAt_new (w : World) (cs : List Value) (e : TypeId) : (w.alloc (.cells cs.toArray e)).rangeAt w.heap.size 0 cs := fun j v hv => by
  rw [Nat.zero_add]; exact (BoxL.new w cs e).cell j v hv
theorem rangeAt_ext {w w' : World} {b o : Nat} {cs : List Value} (h : w.rangeAt b o cs) (hE : Ext w w') (hb : b < w.heap.size) : w'.rangeAt b o cs := fun j v hv => (hE.cell (p := ⟨b, o + j, none⟩) hb).trans (h j v hv)
end Fm

open Go.RowKit Go.Shelf
namespace Go.Proofs.YtbciamploeejiaaGreat
open Go Go.Proofs Fm

set_option maxRecDepth 100000 in
set_option maxHeartbeats 4000000 in
theorem rowless_any {e : TypeId} {base g cap n : Nat} {a : Nat → Rk} (w : World) (hw : KW w) (hr : RkRow e base w (.slice (some ⟨g, 0, none⟩) n cap) a n) (i k : Nat) (hi : i < n) (hk : k < n) (hfi : IdOk (a i).id) (hfk : IdOk (a k).id) :
    Calls Tryz.prog 72 #[.slice (some ⟨g, 0, none⟩) n cap, .int .i64 (i : Int), .int .i64 (k : Int)] w fun e' w' => e' = .returned (.bool (ltR (a i) (a k))) ∧ Ext w w' := by
  have hgl := World.ownsRow.lt hr g rfl
  have h1 := hr.at hi
  have h2 := hr.at hk
  obtain ⟨x, hx⟩ : ∃ x, x = a i := ⟨_, rfl⟩
  obtain ⟨y, hy⟩ : ∃ y, y = a k := ⟨_, rfl⟩
  rw [← hx] at h1 hfi ⊢
  rw [← hy] at h2 hfk ⊢
  have HX := Lib.hid (show ltR x y = decide (thanR x y < 0) from rfl)
  have hSC : ∀ w', Ext w w' → (w'.cell? ⟨g, i * 4, none⟩ = some (.int .i64 x.fails) ∧ w'.cell? ⟨g, i * 4 + 1, none⟩ = some (.int .i64 x.up) ∧ w'.cell? ⟨g, i * 4 + 2, none⟩ = some (.int .i64 x.place) ∧ w'.cell? ⟨g, i * 4 + 3, none⟩ = some (.string (str x.id)) ∧
      w'.cell? ⟨g, k * 4, none⟩ = some (.int .i64 y.fails) ∧ w'.cell? ⟨g, k * 4 + 1, none⟩ = some (.int .i64 y.up) ∧ w'.cell? ⟨g, k * 4 + 2, none⟩ = some (.int .i64 y.place) ∧ w'.cell? ⟨g, k * 4 + 3, none⟩ = some (.string (str y.id))) := fun w' h =>
    ⟨(rangeAt_ext h1 h hgl.2) 0 _ rfl, (rangeAt_ext h1 h hgl.2) 1 _ rfl, (rangeAt_ext h1 h hgl.2) 2 _ rfl, (rangeAt_ext h1 h hgl.2) 3 _ rfl, (rangeAt_ext h2 h hgl.2) 0 _ rfl, (rangeAt_ext h2 h hgl.2) 1 _ rfl, (rangeAt_ext h2 h hgl.2) 2 _ rfl, (rangeAt_ext h2 h hgl.2) 3 _ rfl⟩
  have HSC := Lib.hid hSC
  have HT := Lib.hid (fun w' (h : Ext w w') => than_any x y hfi hfk w' (hw.ext h))
  have ED := Lib.hid (Ext.refl w).drew
  clear h1 h2 hx hy hfi hfk hSC hr hw
  unfold rkV at HT
  go_enter Tryz.func72, Tryz.ntmps72
  go_upto_region 1 with (fail)
  go_region_held3 (fun w' => w'.cell? ⟨g, i * 4, none⟩ = some (.int .i64 x.fails) ∧ w'.cell? ⟨g, i * 4 + 1, none⟩ = some (.int .i64 x.up) ∧ w'.cell? ⟨g, i * 4 + 2, none⟩ = some (.int .i64 x.place) ∧ w'.cell? ⟨g, i * 4 + 3, none⟩ = some (.string (str x.id)) ∧
      w'.cell? ⟨g, k * 4, none⟩ = some (.int .i64 y.fails) ∧ w'.cell? ⟨g, k * 4 + 1, none⟩ = some (.int .i64 y.up) ∧ w'.cell? ⟨g, k * 4 + 2, none⟩ = some (.int .i64 y.place) ∧ w'.cell? ⟨g, k * 4 + 3, none⟩ = some (.string (str y.id)))
    ((first | exact HSC.out _ ED.out | exact HSC.out _ E1.out))
    ((go_at_call 76; refine (HT.out _ ED.out).mono ?_; rintro e w4 ⟨rfl, hE4⟩; have E1 := Lib.hid (ED.out.trans hE4); clear hE4))
  go_wp2
  go_ret
  exact ⟨by rw [HX.out]; rfl, E1.out⟩
set_option maxRecDepth 100000 in
set_option maxHeartbeats 4000000 in
theorem rowswap_any {e : TypeId} {base g cap n B : Nat} {a : Nat → Rk} (w : World) (hq : HpQ e base w B (.slice (some ⟨g, 0, none⟩) n cap) a n) (i k : Nat) (hi : i < n) (hk : k < n) :
    Calls Tryz.prog 75 #[.slice (some ⟨g, 0, none⟩) n cap, .int .i64 (i : Int), .int .i64 (k : Int)] w fun e' w' => e' = .returned (.tuple #[]) ∧ HpQ e base w' B (.slice (some ⟨g, 0, none⟩) n cap) (swp a i k) n ∧ w.grownBy w' (some g) := by
  have h1 := hq.row.at hi
  have h2 := hq.row.at hk
  have t1 := hq.row.there hi
  have t2 := hq.row.there hk
  have HQ := Lib.hid hq
  obtain ⟨x, hx⟩ : ∃ x, x = a i := ⟨_, rfl⟩
  obtain ⟨y, hy⟩ : ∃ y, y = a k := ⟨_, rfl⟩
  have HA := Lib.hid hx
  have HB := Lib.hid hy
  rw [← hx] at h1
  rw [← hy] at h2
  have c0 : w.cell? ⟨g, i * 4, none⟩ = some (.int .i64 x.fails) := h1 0 _ rfl
  have c1 : w.cell? ⟨g, i * 4 + 1, none⟩ = some (.int .i64 x.up) := h1 1 _ rfl
  have c2 : w.cell? ⟨g, i * 4 + 2, none⟩ = some (.int .i64 x.place) := h1 2 _ rfl
  have c3 : w.cell? ⟨g, i * 4 + 3, none⟩ = some (.string (str x.id)) := h1 3 _ rfl
  have d0 : w.cell? ⟨g, k * 4, none⟩ = some (.int .i64 y.fails) := h2 0 _ rfl
  have d1 : w.cell? ⟨g, k * 4 + 1, none⟩ = some (.int .i64 y.up) := h2 1 _ rfl
  have d2 : w.cell? ⟨g, k * 4 + 2, none⟩ = some (.int .i64 y.place) := h2 2 _ rfl
  have d3 : w.cell? ⟨g, k * 4 + 3, none⟩ = some (.string (str y.id)) := h2 3 _ rfl
  have f0 : w.frozen? ⟨g, i * 4, none⟩ = false := (t1 0 (by omega)).2
  have f1 := (t1 1 (by omega)).2
  have f2 := (t1 2 (by omega)).2
  have f3 := (t1 3 (by omega)).2
  have g0 : w.frozen? ⟨g, k * 4, none⟩ = false := (t2 0 (by omega)).2
  have g1 := (t2 1 (by omega)).2
  have g2 := (t2 2 (by omega)).2
  have g3 := (t2 3 (by omega)).2
  clear h1 h2 t1 t2 hx hy hq
  have HF := Lib.hid (fun (he : x = a i) (hee : y = a k) => show HpQ e base (((((((((w.setCell ⟨g, i * 4, none⟩ (.int .i64 y.fails)).setCell ⟨g, i * 4 + 1, none⟩ (.int .i64 y.up)).setCell ⟨g, i * 4 + 2, none⟩ (.int .i64 y.place)).setCell ⟨g, i * 4 + 3, none⟩ (.string (str y.id))).setCell ⟨g, k * 4, none⟩ (.int .i64 x.fails)).setCell ⟨g, k * 4 + 1, none⟩ (.int .i64 x.up)).setCell ⟨g, k * 4 + 2, none⟩ (.int .i64 x.place)).setCell ⟨g, k * 4 + 3, none⟩ (.string (str x.id)))) B (.slice (some ⟨g, 0, none⟩) n cap) (swp a i k) n by
    have := HQ.out.swap hi hk
    rw [← he, ← hee] at this
    exact this)
  have HFG := Lib.hid (show w.grownBy (((((((((w.setCell ⟨g, i * 4, none⟩ (.int .i64 y.fails)).setCell ⟨g, i * 4 + 1, none⟩ (.int .i64 y.up)).setCell ⟨g, i * 4 + 2, none⟩ (.int .i64 y.place)).setCell ⟨g, i * 4 + 3, none⟩ (.string (str y.id))).setCell ⟨g, k * 4, none⟩ (.int .i64 x.fails)).setCell ⟨g, k * 4 + 1, none⟩ (.int .i64 x.up)).setCell ⟨g, k * 4 + 2, none⟩ (.int .i64 x.place)).setCell ⟨g, k * 4 + 3, none⟩ (.string (str x.id)))) (some g) from
    grown_trans (setCells_grown g (rkC y) (i * 4) w) (setCells_grown g (rkC x) (k * 4) (w.setCells g (i * 4) (rkC y))))
  by_cases hik : i = k
  · subst hik
    obtain rfl : y = x := HB.out.trans HA.out.symm
    clear d0 d1 d2 d3 g0 g1 g2 g3
    go_enter Tryz.func75, Tryz.ntmps75
    go_region
    go_end0
    exact ⟨rfl, (HF.out HA.out HB.out).ext (Ext.refl _).drew, grown_trans HFG.out (grown_ext (Ext.refl _).drew _)⟩
  · have hki : ¬ k = i := fun h => hik h.symm
    go_enter Tryz.func75, Tryz.ntmps75
    go_region
    go_end0
    exact ⟨rfl, (HF.out HA.out HB.out).ext (Ext.refl _).drew, grown_trans HFG.out (grown_ext (Ext.refl _).drew _)⟩
end Go.Proofs.YtbciamploeejiaaGreat

open Go.RowKit Go.Shelf
namespace Fm
open Go
theorem upF_go {α : Type} {lt : α → α → Bool} {a : Nat → α} {j : Nat} (h0 : j ≠ 0) (h : lt (a j) (a ((j - 1) / 2)) = true) : upF lt a j = upF lt (swp a ((j - 1) / 2) j) ((j - 1) / 2) := by
  rw [upF, dif_neg h0, if_pos h]
theorem upF_no {α : Type} {lt : α → α → Bool} {a : Nat → α} {j : Nat} (h : lt (a j) (a ((j - 1) / 2)) = false) : upF lt a j = a := by
  rw [upF]
  split
  · rfl
  · rw [if_neg (by rw [h]; decide)]
theorem upF_zero {α : Type} {lt : α → α → Bool} {a : Nat → α} : upF lt a 0 = a := by rw [upF, dif_pos rfl]
theorem downF_end {α : Type} {lt : α → α → Bool} {a : Nat → α} {n i : Nat} (h : ¬ 2 * i + 1 < n) : downF lt n a i = a := by rw [downF, dif_neg h]
theorem downF_no {α : Type} {lt : α → α → Bool} {a : Nat → α} {n i : Nat} (h : lt (a (childF lt n a i)) (a i) = false) : downF lt n a i = a := by
  rw [downF]
  split
  · rw [if_neg (by rw [h]; decide)]
  · rfl
theorem downF_go {α : Type} {lt : α → α → Bool} {a : Nat → α} {n i : Nat} (h1 : 2 * i + 1 < n) (h : lt (a (childF lt n a i)) (a i) = true) : downF lt n a i = downF lt n (swp a i (childF lt n a i)) (childF lt n a i) := by
  rw [downF, dif_pos h1, if_pos h]
theorem childF_r {α : Type} {lt : α → α → Bool} {a : Nat → α} {n i : Nat} (h1 : 2 * i + 2 < n) (h : lt (a (2 * i + 2)) (a (2 * i + 1)) = true) : childF lt n a i = 2 * i + 2 := by unfold childF; rw [if_pos ⟨h1, h⟩]
theorem childF_l {α : Type} {lt : α → α → Bool} {a : Nat → α} {n i : Nat} (h : lt (a (2 * i + 2)) (a (2 * i + 1)) = false) : childF lt n a i = 2 * i + 1 := by unfold childF; rw [if_neg (by rw [h]; simp)]
theorem childF_e {α : Type} {lt : α → α → Bool} {a : Nat → α} {n i : Nat} (h1 : ¬ 2 * i + 2 < n) : childF lt n a i = 2 * i + 1 := by unfold childF; rw [if_neg (fun h => h1 h.1)]
end Fm
namespace Go.Proofs.YtbciamploeejiaaGreat
open Go Go.Proofs Fm

set_option maxRecDepth 100000 in
set_option maxHeartbeats 4000000 in
theorem up_heap {e : TypeId} {base g cap n B : Nat} {a : Nat → Rk} (w0 w : World) (hw : KW w0) (hE0 : Ext w0 w) (hb : w0.heap.size ≤ base) (hq : HpQ e base w B (.slice (some ⟨g, 0, none⟩) n cap) a n) (hf : FitA a n) (j : Nat) (hj : j < n) (hn : n ≤ 100000) :
    Calls Tryz.prog 44 #[.iface 48 (.pointer (some ⟨B, 0, none⟩)), .int .i64 (j : Int)] w fun e' w' => e' = .returned (.tuple #[]) ∧ HpQ e base w' B (.slice (some ⟨g, 0, none⟩) n cap) (upF ltR a j) n ∧ Far2 B g w w' ∧ Ext w0 w' := by
  have hgb : base ≤ g := (World.ownsRow.lt hq.row g rfl).1
  have HG := Lib.hid (show w0.heap.size ≤ g by omega)
  have HR0 : Hid (HpQ e base w B (.slice (some ⟨g, 0, none⟩) n cap) a n ∧ FitA a n ∧ Ext w0 w ∧ Far2 B g w w) := Lib.hid ⟨hq, hf, hE0, ⟨Nat.le_refl _, fun _ _ _ _ => rfl⟩⟩
  have HW := Lib.hid hw
  clear hq hf hE0 hw hgb hb
  go_enter Tryz.func44, Tryz.ntmps44
  go_wp2_with fail
  go_loopg [1] (j + 1) (fun k i wr => ∃ (m : Nat) (b : Nat → Rk), m < k ∧ m < n ∧ i = .int .i64 (m : Int) ∧ Hid (HpQ e base wr B (.slice (some ⟨g, 0, none⟩) n cap) b n ∧ FitA b n ∧ Ext w0 wr ∧ Far2 B g w wr) ∧ Hid (upF ltR b m = upF ltR a j))
  case atStart => exact ⟨j, a, by omega, hj, rfl, HR0, Lib.hid rfl⟩
  case round =>
    clear HR0
    obtain ⟨m, b, hmk, hmn, rfl, HR, HU⟩ := hrel
    have n1 := nil_less ⟨B, 0, none⟩
    have n2 := nil_swap ⟨B, 0, none⟩
    by_cases hm0 : m = 0
    · subst hm0
      have HU := Lib.hid (show upF ltR a j = b by rw [← HU.out, upF_zero])
      go_wp2_with fail
      go_end0
      exact ⟨rfl, by rw [HU.out]; exact HR.out.1, HR.out.2.2.2, HR.out.2.2.1⟩
    obtain ⟨p, hp⟩ : ∃ p, p = (m - 1) / 2 := ⟨_, rfl⟩
    have hpm : p < m := by omega
    have hq2 : ((m : Int) - 1).tdiv 2 = (p : Int) := by rw [Int.tdiv_eq_ediv_of_nonneg (by omega)]; omega
    have hne : ((p : Int) == (m : Int)) = false := by simp; omega
    have hc := (HR.out.1.box).cell 0 _ rfl
    have m1 := meth_less B wr _ hc
    have HL := Lib.hid (rowless_any wr (HW.out.ext HR.out.2.2.1) HR.out.1.row m p hmn (by omega) (HR.out.2.1 m hmn).id (HR.out.2.1 p (by omega)).id)
    have hm0' := Lib.hid hm0
    have HP := Lib.hid hp
    clear hp hm0
    go_wp2_with fail
    refine HL.out.mono ?_
    rintro e' w1 ⟨rfl, hE1⟩
    have HR1 := Lib.hid (show HpQ e base w1 B (.slice (some ⟨g, 0, none⟩) n cap) b n ∧ FitA b n ∧ Ext w0 w1 ∧ Far2 B g w w1 from ⟨HR.out.1.ext hE1, HR.out.2.1, HR.out.2.2.1.trans hE1, HR.out.2.2.2.trans (Far2.of hE1.grownBy (.inr (.inr rfl)))⟩)
    clear hE1 HR m1 hc HL
    cases hl : ltR (b m) (b p) with
    | false =>
      have HU := Lib.hid (show upF ltR a j = b by rw [← HU.out, upF_no (by rw [← HP.out]; exact hl)])
      clear hl
      go_wp2_with fail
      go_end0
      exact ⟨rfl, by rw [HU.out]; exact HR1.out.1, HR1.out.2.2.2, HR1.out.2.2.1⟩
    | true =>
      have HU := Lib.hid (show upF ltR (swp b p m) p = upF ltR a j by rw [← HU.out, upF_go hm0'.out (by rw [← HP.out]; exact hl), ← HP.out])
      clear hl
      have m2 := meth_swap B w1 _ (HR1.out.1.box.cell 0 _ rfl)
      have HS := Lib.hid (rowswap_any w1 HR1.out.1 p m (by omega) hmn)
      go_wp2_with fail
      refine HS.out.mono ?_
      rintro e' w2 ⟨rfl, hq2', hg2⟩
      have HR2 := Lib.hid (show HpQ e base w2 B (.slice (some ⟨g, 0, none⟩) n cap) (swp b p m) n ∧ FitA (swp b p m) n ∧ Ext w0 w2 ∧ Far2 B g w w2 from ⟨hq2', HR1.out.2.1.swp (by omega) hmn, HR1.out.2.2.1.grown hg2 (fun q e => by cases e; exact HG.out), HR1.out.2.2.2.trans (Far2.of hg2 (.inr (.inl rfl)))⟩)
      clear hq2' hg2 HR1 HS m2
      go_wp2_with fail
      go_roundg (p + 1)
      case rel => exact ⟨p, swp b p m, by omega, by omega, rfl, HR2, HU⟩
      case measure => omega
set_option maxRecDepth 100000 in
set_option maxHeartbeats 8000000 in
theorem down_heap {e : TypeId} {base g cap N n B : Nat} {a : Nat → Rk} (w0 w : World) (hw : KW w0) (hE0 : Ext w0 w) (hb : w0.heap.size ≤ base) (hq : HpQ e base w B (.slice (some ⟨g, 0, none⟩) N cap) a N) (hf : FitA a N) (hnN : n ≤ N) (h0 : 0 < N) (hn : N ≤ 100000) :
    Calls Tryz.prog 32 #[.iface 48 (.pointer (some ⟨B, 0, none⟩)), .int .i64 0, .int .i64 (n : Int)] w fun e' w' => (∃ v, e' = .returned v) ∧ HpQ e base w' B (.slice (some ⟨g, 0, none⟩) N cap) (downF ltR n a 0) N ∧ Far2 B g w w' ∧ Ext w0 w' := by
  have hgb : base ≤ g := (World.ownsRow.lt hq.row g rfl).1
  have HG := Lib.hid (show w0.heap.size ≤ g by omega)
  have HR0 : Hid (HpQ e base w B (.slice (some ⟨g, 0, none⟩) N cap) a N ∧ FitA a N ∧ Ext w0 w ∧ Far2 B g w w) := Lib.hid ⟨hq, hf, hE0, ⟨Nat.le_refl _, fun _ _ _ _ => rfl⟩⟩
  have HW := Lib.hid hw
  clear hq hf hE0 hw hgb hb
  go_enter Tryz.func32, Tryz.ntmps32
  go_wp2_with fail
  go_loopg [7] (n + 1) (fun k i wr => ∃ (m : Nat) (b : Nat → Rk), n < k + m ∧ m < N ∧ i = .int .i64 (m : Int) ∧ Hid (HpQ e base wr B (.slice (some ⟨g, 0, none⟩) N cap) b N ∧ FitA b N ∧ Ext w0 wr ∧ Far2 B g w wr) ∧ Hid (downF ltR n b m = downF ltR n a 0))
  case atStart => exact ⟨0, a, by omega, h0, rfl, HR0, Lib.hid rfl⟩
  case round =>
    clear HR0
    obtain ⟨m, b, hmk, hmn, rfl, HR, HU⟩ := hrel
    have n1 := nil_less ⟨B, 0, none⟩
    have n2 := nil_swap ⟨B, 0, none⟩
    by_cases h1 : 2 * m + 1 < n
    case neg =>
      have HU := Lib.hid (show downF ltR n a 0 = b by rw [← HU.out, downF_end h1])
      go_wp2_with fail
      go_ret
      exact ⟨⟨_, rfl⟩, by rw [HU.out]; exact HR.out.1, HR.out.2.2.2, HR.out.2.2.1⟩
    have hc := (HR.out.1.box).cell 0 _ rfl
    have m1 := meth_less B wr _ hc
    obtain ⟨q, hq⟩ : ∃ q, q = 2 * m + 1 := ⟨_, rfl⟩
    obtain ⟨p, hp⟩ : ∃ p, p = 2 * m + 2 := ⟨_, rfl⟩
    have ha : 2 * (m : Int) + 1 = (q : Int) := by omega
    have hb2 : (q : Int) + 1 = (p : Int) := by omega
    have hqn : (q : Int) < (n : Int) := by omega
    have hq0 : (0 : Int) ≤ (q : Int) := by omega
    have HQ := Lib.hid hq
    have HP := Lib.hid hp
    have hqm : m < q := by omega
    have hqN : q < N := by omega
    have hpN : p ≤ N := by omega
    have hqp : q < p := by omega
    have hmp : p = 2 * m + 2 := hp
    have HMP := Lib.hid hmp
    clear hmp
    have H1 := Lib.hid h1
    clear hq hp h1
    by_cases h2 : p < n
    case' pos =>
      have hpn : (p : Int) < (n : Int) := by omega
      have HL := Lib.hid (rowless_any wr (HW.out.ext HR.out.2.2.1) HR.out.1.row p q (by omega) hqN (HR.out.2.1 p (by omega)).id (HR.out.2.1 q hqN).id)
      go_wp2_with fail
      refine HL.out.mono ?_
      rintro e' w1 ⟨rfl, hE1⟩
      have HR1 := Lib.hid (show HpQ e base w1 B (.slice (some ⟨g, 0, none⟩) N cap) b N ∧ FitA b N ∧ Ext w0 w1 ∧ Far2 B g w w1 from ⟨HR.out.1.ext hE1, HR.out.2.1, HR.out.2.2.1.trans hE1, HR.out.2.2.2.trans (Far2.of hE1.grownBy (.inr (.inr rfl)))⟩)
      clear hE1 HR m1 hc HL
      cases hl : ltR (b p) (b q)
      case' true =>
        obtain ⟨c, hcc, HC, hcn⟩ : ∃ c : Nat, c = p ∧ Hid (childF ltR n b m = c) ∧ c < n := ⟨p, rfl, Lib.hid (by rw [childF_r (by rw [← HP.out]; exact h2) (by rw [← HP.out, ← HQ.out]; exact hl), HP.out]), h2⟩
      case' false =>
        obtain ⟨c, hcc, HC, hcn⟩ : ∃ c : Nat, c = q ∧ Hid (childF ltR n b m = c) ∧ c < n := ⟨q, rfl, Lib.hid (by rw [childF_l (by rw [← HP.out, ← HQ.out]; exact hl), HQ.out]), by omega⟩
      all_goals clear hl hpn
    case' neg =>
      have hpn : ¬ ((p : Int) < (n : Int)) := by omega
      obtain ⟨c, hcc, HC, hcn⟩ : ∃ c : Nat, c = q ∧ Hid (childF ltR n b m = c) ∧ c < n := ⟨q, rfl, Lib.hid (by rw [childF_e (by rw [← HP.out]; exact h2), HQ.out]), by omega⟩
      obtain ⟨w1, hw1⟩ : ∃ w1, w1 = wr := ⟨_, rfl⟩
      rw [← hw1] at HR m1 hc ⊢
      have HR1 := HR
      clear HR m1 hc hw1
    all_goals
      have hcm : m < c := by omega
      have m1 := meth_less B w1 _ ((HR1.out.1.box).cell 0 _ rfl)
      have HL := Lib.hid (rowless_any w1 (HW.out.ext HR1.out.2.2.1) HR1.out.1.row c m (by omega) hmn (HR1.out.2.1 c (by omega)).id (HR1.out.2.1 m hmn).id)
      subst hcc
      go_wp2_with fail
      refine HL.out.mono ?_
      rintro e' w2 ⟨rfl, hE2⟩
      have HR2 := Lib.hid (show HpQ e base w2 B (.slice (some ⟨g, 0, none⟩) N cap) b N ∧ FitA b N ∧ Ext w0 w2 ∧ Far2 B g w w2 from ⟨HR1.out.1.ext hE2, HR1.out.2.1, HR1.out.2.2.1.trans hE2, HR1.out.2.2.2.trans (Far2.of hE2.grownBy (.inr (.inr rfl)))⟩)
      clear hE2 HR1 m1 HL
      cases hl : ltR (b c) (b m) with
      | false =>
        have HU := Lib.hid (show downF ltR n a 0 = b by rw [← HU.out, downF_no (by rw [HC.out]; exact hl)])
        clear hl
        go_wp2_with fail
        go_ret
        exact ⟨⟨_, rfl⟩, by rw [HU.out]; exact HR2.out.1, HR2.out.2.2.2, HR2.out.2.2.1⟩
      | true =>
        have HU := Lib.hid (show downF ltR n (swp b m c) c = downF ltR n a 0 by rw [← HU.out, downF_go H1.out (by rw [HC.out]; exact hl), HC.out])
        clear hl
        have m2 := meth_swap B w2 _ (HR2.out.1.box.cell 0 _ rfl)
        have HS := Lib.hid (rowswap_any w2 HR2.out.1 m c hmn (by omega))
        go_wp2_with fail
        refine HS.out.mono ?_
        rintro e' w3 ⟨rfl, hq3, hg3⟩
        have HR3 := Lib.hid (show HpQ e base w3 B (.slice (some ⟨g, 0, none⟩) N cap) (swp b m c) N ∧ FitA (swp b m c) N ∧ Ext w0 w3 ∧ Far2 B g w w3 from ⟨hq3, HR2.out.2.1.swp hmn (by omega), HR2.out.2.2.1.grown hg3 (fun q e => by cases e; exact HG.out), HR2.out.2.2.2.trans (Far2.of hg3 (.inr (.inl rfl)))⟩)
        clear hq3 hg3 HR2 HS m2
        go_wp2_with fail
        go_roundg (gk - (c - m))
        case rel => exact ⟨c, swp b m c, by omega, by omega, rfl, HR3, HU⟩
        case measure => omega
end Go.Proofs.YtbciamploeejiaaGreat

namespace Fm
open Go Go.RowKit

theorem grown_row {a b c : World} {r r' : Option Nat} (h : a.grownBy b r) (k : b.grownBy c r') (hr : r' = r ∨ ∃ g, r' = some g ∧ a.heap.size ≤ g) : a.grownBy c r := by
  rcases hr with rfl | ⟨g, rfl, hg⟩
  · exact grown_trans h k
  · exact ⟨k.os.trans h.os, k.tape.trans h.tape, k.output.trans h.output, Nat.le_trans h.size k.size, fun b hb hne => (k.block b (Nat.lt_of_lt_of_le hb h.size) (fun e => by injection e with e; omega)).trans (h.block b hb hne)⟩
/-- A node's cells, whatever becomes of that block. -/
def FarNd (w : World) (row : Option Nat) (n : Nd) (C : List Value) : Prop := C.length = 16 ∧ (∀ u, u ∈ C → u.oneCell' = true) ∧ ∀ w', w.grownBy w' row → NdV w' n (.agg C.toArray)
theorem FarNd.then {w w' : World} {row row' : Option Nat} {n : Nd} {C : List Value} (h : FarNd w row n C) (hg : w.grownBy w' row) (hr : row' = row ∨ ∃ g, row' = some g ∧ w.heap.size ≤ g) : FarNd w' row' n C :=
  ⟨h.1, h.2.1, fun w'' hg' => h.2.2 w'' (grown_row hg hg' hr)⟩
theorem ndV_one {w : World} {n : Nd} {C : List Value} (h : NdV w n (.agg C.toArray)) : C.length = 16 ∧ ∀ u, u ∈ C → u.oneCell' = true := by
  obtain ⟨a, m, c, k, N, s, l, e, h1, h2, -⟩ := h
  injection e with e
  injection e with e
  subst e
  obtain ⟨t, ht⟩ : ∃ t, t = n.val := ⟨_, rfl⟩
  rw [← ht] at h2
  obtain ⟨kk, nn, ss, ls⟩ := t
  obtain ⟨d, hd, -, -, hls⟩ := h2.parts
  obtain ⟨av, capv, rfl, -⟩ := hls
  injection hd with hd
  injection hd with hd
  simp only [List.cons.injEq, and_true] at hd
  obtain ⟨rfl, rfl, rfl, rfl⟩ := hd
  refine ⟨rfl, fun u hu => ?_⟩
  simp only [ndCells, List.mem_cons, List.not_mem_nil, or_false] at hu
  rcases hu with rfl | rfl | rfl | rfl | rfl | rfl | rfl | rfl | rfl | rfl | rfl | rfl | rfl | rfl | rfl | rfl <;> rfl
theorem farNd_of {w : World} {row : Option Nat} {n : Nd} {C : List Value} (h : ∀ w', w.grownBy w' row → NdV w' n (.agg C.toArray)) : FarNd w row n C :=
  ⟨(ndV_one (h w (grown_ext (Ext.refl w) row))).1, (ndV_one (h w (grown_ext (Ext.refl w) row))).2, h⟩
/-- Nodes in a row of one's own. -/
def HeldN (eN : TypeId) (base : Nat) (w : World) (v : Value) (l : List Nd) : Prop :=
  ∃ cs : List (List Value), cs.length = l.length ∧ w.ownsRow base eN 16 v l.length cs.flatten ∧ ∀ (i : Nat) (hi : i < l.length) (hc : i < cs.length), FarNd w v.ownBlock l[i] cs[i]
theorem HeldN.row {eN : TypeId} {base : Nat} {w : World} {v : Value} {l : List Nd} (h : HeldN eN base w v l) : ndE.Row w l v := by
  obtain ⟨cs, h1, h2, h3⟩ := h
  exact ndRow_parts h1 h2 (fun i hi hc => ⟨(h3 i hi hc).1, (h3 i hi hc).2.2 w (grown_ext (Ext.refl w) _)⟩)
theorem HeldN.ext {eN : TypeId} {base : Nat} {w w' : World} {v : Value} {l : List Nd} (h : HeldN eN base w v l) (hE : Ext w w') : HeldN eN base w' v l := by
  obtain ⟨cs, h1, h2, h3⟩ := h
  exact ⟨cs, h1, hE.own h2, fun i hi hc => (h3 i hi hc).then (grown_ext hE _) (.inl rfl)⟩
theorem HeldN.mono {eN : TypeId} {base base' : Nat} {w : World} {v : Value} {l : List Nd} (h : HeldN eN base w v l) (hb : base' ≤ base) : HeldN eN base' w v l := by
  obtain ⟨cs, h1, h2, h3⟩ := h
  exact ⟨cs, h1, ownsRow_mono h2 hb, h3⟩
theorem HeldN.slice {eN : TypeId} {base : Nat} {w : World} {v : Value} {l : List Nd} (h : HeldN eN base w v l) : ∃ a c, v = .slice a l.length c := by
  obtain ⟨cs, h1, h2, h3⟩ := h
  rcases h2.2 with ⟨e1, e2⟩ | ⟨g, cap, cur, e1, _⟩
  · exact ⟨none, 0, by rw [e1, e2]⟩
  · exact ⟨_, _, e1⟩
theorem HeldN.form {eN : TypeId} {base : Nat} {w : World} {v : Value} {l : List Nd} (h : HeldN eN base w v l) (hl : 0 < l.length) : ∃ g c, v = .slice (some ⟨g, 0, none⟩) l.length c ∧ base ≤ g ∧ g < w.heap.size := by
  obtain ⟨cs, h1, h2, h3⟩ := h
  exact World.ownsRow.form h2 hl
theorem HeldN.lt {eN : TypeId} {base : Nat} {w : World} {v : Value} {l : List Nd} (h : HeldN eN base w v l) : ∀ k, v.ownBlock = some k → base ≤ k ∧ k < w.heap.size := by
  obtain ⟨cs, h1, h2, h3⟩ := h
  exact World.ownsRow.lt h2
theorem HeldN.nil (eN : TypeId) (base : Nat) (w : World) : HeldN eN base w (.slice none 0 0) [] := ⟨[], rfl, World.ownsRow_nil _ _ _ _, fun i hi => (by cases hi)⟩
/-- The cells of one node. -/
theorem HeldN.at {eN : TypeId} {base : Nat} {w : World} {g cap : Nat} {l : List Nd} (h : HeldN eN base w (.slice (some ⟨g, 0, none⟩) l.length cap) l) {i : Nat} (hi : i < l.length) :
    ∃ C : List Value, FarNd w (some g) l[i] C ∧ w.rangeAt g (i * 16) C ∧ w.there g (i * 16) 16 := by
  obtain ⟨cs, h1, h2, h3⟩ := h
  have hc : i < cs.length := by omega
  have h16 : ∀ D, D ∈ cs → D.length = 16 := fun D hD => by
    obtain ⟨j, hj, rfl⟩ := List.getElem_of_mem hD
    exact (h3 j (by omega) hj).1
  have hl : cs.flatten.length = l.length * 16 := h2.1
  have hcell : ∀ j, j < 16 → w.cell? ⟨g, i * 16 + j, none⟩ = cs[i][j]? := fun j hj => by
    rw [World.ownsRow.cellAt h2 _ (by omega), flat16 cs i j hc h16 hj]
  refine ⟨cs[i], h3 i hi hc, fun j v hv => ?_, fun j hj => ⟨?_, World.ownsRow.frozenAt h2 _⟩⟩
  · have hj : j < 16 := by
      have := (List.getElem?_eq_some_iff.1 hv).1
      have := (h3 i hi hc).1
      omega
    rw [hcell j hj]; exact hv
  · rw [hcell j hj, List.getElem?_eq_getElem (by have := (h3 i hi hc).1; omega)]; rfl
theorem HeldN.spot {eN : TypeId} {base : Nat} {w : World} {g cap : Nat} {l : List Nd} (h : HeldN eN base w (.slice (some ⟨g, 0, none⟩) l.length cap) l) {i : Nat} (hi : i < l.length) (j : Nat) (hj : j < 16) : (∃ u, w.cell? ⟨g, i * 16 + j, none⟩ = some u) ∧ w.frozen? ⟨g, i * 16 + j, none⟩ = false := by
  obtain ⟨C, -, -, h3⟩ := h.at hi
  obtain ⟨h4, h5⟩ := h3 j hj
  exact ⟨Option.isSome_iff_exists.1 h4, h5⟩
/-- One node is another one now. -/
theorem HeldN.upd {eN : TypeId} {base : Nat} {w W : World} {g cap : Nat} {l : List Nd} (h : HeldN eN base w (.slice (some ⟨g, 0, none⟩) l.length cap) l) {i : Nat} (hi : i < l.length) (n' : Nd) (f : List Value → List Value)
    (hW : ∀ cs : List (List Value), cs.length = l.length → (∀ D, D ∈ cs → D.length = 16) → ∀ hc : i < cs.length, w.ownsRow base eN 16 (.slice (some ⟨g, 0, none⟩) l.length cap) l.length cs.flatten → W.ownsRow base eN 16 (.slice (some ⟨g, 0, none⟩) l.length cap) l.length (cs.set i (f cs[i])).flatten)
    (hg : w.grownBy W (some g)) (hN : ∀ C, FarNd w (some g) l[i] C → FarNd W (some g) n' (f C)) : HeldN eN base W (.slice (some ⟨g, 0, none⟩) l.length cap) (l.set i n') := by
  obtain ⟨cs, h1, h2, h3⟩ := h
  have hc : i < cs.length := by omega
  have h16 : ∀ D, D ∈ cs → D.length = 16 := fun D hD => by
    obtain ⟨j, hj, rfl⟩ := List.getElem_of_mem hD
    exact (h3 j (by omega) hj).1
  refine ⟨cs.set i (f cs[i]), by simp [h1], by rw [List.length_set]; exact hW cs h1 h16 hc h2, fun j hj hd => ?_⟩
  have hj' : j < l.length := by simpa using hj
  have hd' : j < cs.length := by simpa using hd
  by_cases e : i = j
  · subst e
    rw [List.getElem_set_self, List.getElem_set_self]
    exact hN _ (h3 i hi hc)
  · rw [List.getElem_set_ne e, List.getElem_set_ne e]
    exact (h3 j hj' hd').then hg (.inl rfl)
theorem flat16_set1 {cs : List (List Value)} {i j : Nat} {u : Value} (hi : i < cs.length) (h16 : ∀ C, C ∈ cs → C.length = 16) (hj : j < 16) : cs.flatten.set (i * 16 + j) u = (cs.set i (cs[i].set j u)).flatten := flat16_set cs i j u hi h16 hj
/-- One cell of one node is written. -/
theorem HeldN.put {eN : TypeId} {base : Nat} {w : World} {g cap : Nat} {l : List Nd} (h : HeldN eN base w (.slice (some ⟨g, 0, none⟩) l.length cap) l) {i : Nat} (hi : i < l.length) (j : Nat) (hj : j < 16) (u : Value) (n' : Nd)
    (hN : ∀ (w' : World) (C : List Value), NdV w' (l[i]'hi) (.agg C.toArray) → NdV w' n' (.agg (C.set j u).toArray)) : HeldN eN base (w.setCell ⟨g, i * 16 + j, none⟩ u) (.slice (some ⟨g, 0, none⟩) l.length cap) (l.set i n') ∧ w.grownBy (w.setCell ⟨g, i * 16 + j, none⟩ u) (some g) := by
  have hg := setOne_grown w g (i * 16 + j) u
  refine ⟨h.upd hi n' (fun C => C.set j u) (fun cs _ h16 hc ho => ?_) hg (fun C hC => farNd_of (fun w' hw' => hN w' C (hC.2.2 w' (grown_trans hg hw')))), hg⟩
  rw [← flat16_set1 hc h16 hj]
  exact (ho.stored (i * 16 + j) u).1
/-- Nodes are appended. -/
theorem HeldN.app {eN : TypeId} {base : Nat} {w w' : World} {v v' : Value} {l m : List Nd} {cs ds : List (List Value)} (h1 : cs.length = l.length) (h3 : ∀ (i : Nat) (hi : i < l.length) (hc : i < cs.length), FarNd w v.ownBlock l[i] cs[i])
    (g1 : ds.length = m.length) (g3 : ∀ (i : Nat) (hi : i < m.length) (hc : i < ds.length), FarNd w v.ownBlock m[i] ds[i])
    (hrow : w'.ownsRow base eN 16 v' (l.length + m.length) (cs.flatten ++ ds.flatten)) (hg : w.grownBy w' v.ownBlock) (hat : v'.ownBlock = v.ownBlock ∨ v'.ownBlock = some w.heap.size) : HeldN eN base w' v' (l ++ m) := by
  have hr : v'.ownBlock = v.ownBlock ∨ ∃ g, v'.ownBlock = some g ∧ w.heap.size ≤ g := by
    rcases hat with h | h
    · exact .inl h
    · exact .inr ⟨_, h, Nat.le_refl _⟩
  refine ⟨cs ++ ds, by simp [h1, g1], by rw [List.length_append, List.flatten_append]; exact hrow, fun i hi hc => ?_⟩
  by_cases hil : i < l.length
  · have hic : i < cs.length := by omega
    rw [List.getElem_append_left hil, List.getElem_append_left hic]
    exact (h3 i hil hic).then hg hr
  · have hi' : i - l.length < m.length := by rw [List.length_append] at hi; omega
    have e1 : (l ++ m)[i] = m[i - l.length] := List.getElem_append_right (by omega)
    have e2 : (cs ++ ds)[i] = ds[i - l.length]'(by omega) := by rw [List.getElem_append_right (by omega)]; simp [h1]
    rw [e1, e2]
    exact (g3 _ hi' (by omega)).then hg hr
/-- The cells that a copy's nodes have. -/
theorem CopyN.far {eN eI eV : TypeId} {base : Nat} {w : World} {v : Value} {l : List Nd} (h : CopyN eN eI eV base w v l) {row : Option Nat} (hr : ∀ b, row = some b → b < base) :
    ∃ ds : List (List Value), ds.length = l.length ∧ w.ownsRow base eN 16 v l.length ds.flatten ∧ ∀ (i : Nat) (hi : i < l.length) (hc : i < ds.length), FarNd w row l[i] ds[i] := by
  obtain ⟨cs, lo, h1, h2, h3, h4, h5, h6, h7⟩ := h
  have hmon := lo_mono h5
  refine ⟨cs, h1, h2, fun i hi hc => farNd_of (fun w' hw' => ((h7 i hi hc).far (fun b hb1 hb2 => hw'.block b ?_ (fun e => ?_))).v)⟩
  · have := hmon l.length (Nat.le_refl _) (i + 1) (by omega)
    omega
  · have := hr b e.symm
    have := hmon i (by omega) 0 (by omega)
    omega
/-- A row of nodes of one's own as what is appended. -/
theorem _root_.Go.Src.nodes {P : Program} {tx e' : TypeId} (hk : P.underlying tx = some (.slice e')) {w : World} {base n : Nat} {eN : TypeId} {v : Value} {ds : List (List Value)} (h : w.ownsRow base eN 16 v n ds.flatten) (h1 : ∀ D, D ∈ ds → ∀ u, u ∈ D → u.oneCell' = true) : Src P 16 tx v n ds.flatten w := by
  have hone : ∀ u, u ∈ ds.flatten → u.oneCell' = true := fun u hu => by
    obtain ⟨D, hD, hu⟩ := List.mem_flatten.1 hu
    exact h1 D hD u hu
  have hc := fun g => World.ownsRow.cells h (g := g)
  have hl := h.1
  rcases h.2 with ⟨rfl, rfl⟩ | ⟨g, cap, cur, rfl, -⟩
  · have : ds.flatten = [] := List.eq_nil_of_length_eq_zero (by omega)
    rw [this]
    exact Src.ofNil w hk 0
  · exact Src.ofSlice w hk _ _ _ _ hl (fun j u hu => hc g rfl j u hu) hone
/-! ### one field of a node -/
theorem ndV_stand {w : World} {n : Nd} {C : List Value} (h : NdV w n (.agg C.toArray)) (s : UInt8) : NdV w { n with stand := s } (.agg (C.set 9 (.int .u8 (s.toNat : Int))).toArray) := by
  obtain ⟨a, m, c, k, N, S, d, e, h1, h2, h3⟩ := h
  injection e with e
  injection e with e
  subst e
  exact ⟨a, m, c, k, N, S, d, rfl, h1, h2, h3⟩
theorem ndV_after {w : World} {n : Nd} {C : List Value} (h : NdV w n (.agg C.toArray)) {xs : List Int} {a : Option Addr} {m c : Nat} (hr : intE.Row w xs (.slice a m c)) : NdV w { n with after := xs } (.agg (C.set 6 (.slice a m c)).toArray) := by
  obtain ⟨_, _, _, k, N, S, d, e, h1, h2, h3⟩ := h
  injection e with e
  injection e with e
  subst e
  exact ⟨a, m, c, k, N, S, d, rfl, hr, h2, h3⟩
end Fm

open Go.RowKit
namespace Fm
open Go Go.RowKit
/-- The law of an append, at an operation that comes up. -/
theorem wp_appendS {P : Program} {w : World} {o : Oper} {a : Act} {K : Act → World → Prop} {Q : Exit → Act → World → Prop} (s x : Operand) {t e : TypeId} {z : Value} {size bytes : Nat} (tx : TypeId)
    (ho : o.op = .call { callee := .builtin .append, args := #[s, x], argTypes := #[t, tx] }) (he : ElemOf P t e z size bytes) (base : Nat)
    (v : Value) (n : Nat) (xs : List Value) (hs : a.eval s = v) (hown : w.ownsRow base e size v n xs) (X : Value) (m : Nat) (news : List Value) (hx : a.eval x = X) (hsrc : Src P size tx X m news w)
    (b1 : n + m ≤ maxLen) (b2 : (n + m) * bytes ≤ 140737488355328) (b3 : base ≤ w.heap.size)
    (h : ∀ A C w', w'.ownsRow base e size (.slice A (n + m) C) (n + m) (xs ++ news) → w.grownBy w' v.ownBlock → ((Value.slice A (n + m) C).ownBlock = v.ownBlock ∨ (Value.slice A (n + m) C).ownBlock = some w.heap.size) → K (a.put o.dst (.slice A (n + m) C)) w') :
    Oper.wp P o a w K Q := by
  obtain ⟨v', w', hrun, r1, r2, r3⟩ := run_append_src_at w he tx o.type base v n xs hown X m news hsrc b1 b2 b3
  obtain ⟨A, C, rfl⟩ : ∃ A C, v' = .slice A (n + m) C := by
    rcases r1.2 with ⟨e1, e2⟩ | ⟨g, cap, cur, e1, _⟩
    · exact ⟨none, 0, by rw [e1, e2]⟩
    · exact ⟨_, _, e1⟩
  unfold Oper.wp
  simp [execOp, ho, resolve, invoke, builtin, hs, hx, hrun, Result.andThen]
  exact h A C w' r1 r2 r3
theorem list_of16 {C : List Value} (h : C.length = 16) : ∃ c0 c1 c2 c3 c4 c5 c6 c7 c8 c9 c10 c11 c12 c13 c14 c15, C = [c0, c1, c2, c3, c4, c5, c6, c7, c8, c9, c10, c11, c12, c13, c14, c15] := by
  match C, h with
  | [c0, c1, c2, c3, c4, c5, c6, c7, c8, c9, c10, c11, c12, c13, c14, c15], _ => exact ⟨_, _, _, _, _, _, _, _, _, _, _, _, _, _, _, _, rfl⟩
/-- One element more, that a block holds. -/
theorem wpList_appOneM {P : Program} {w : World} {ops : Array Oper} {rest : List Oper} {o : Oper} {a : Act} {Q : Exit → Act → World → Prop} {t e : TypeId} {z : Value} {size bytes : Nat} (he : ElemOf P t e z size bytes)
    (hg : Region.wanted o (yielded ops a.tmps) = true) (s x : Operand) (hop : o.op = Op.call { callee := Callee.builtin Builtin.append, args := #[s, x], argTypes := #[t, t] }) {base : Nat}
    {v : Value} {k : Nat} {xs : List Value} (hs : a.eval s = v) (hown : w.ownsRow base e size v k xs) {B cp : Nat} {news : List Value} (hx : a.eval x = .slice (some ⟨B, 0, none⟩) 1 cp)
    (hB : w.rangeAt B 0 news) (hn : news.length = size) (h1 : ∀ u ∈ news, u.oneCell' = true) (hb : k ≤ 100000) (hby : bytes ≤ 1000) (b3 : base ≤ w.heap.size)
    (hK : ∀ v' w', w'.ownsRow base e size v' (k + 1) (xs ++ news) → w.grownBy w' v.ownBlock → (v'.ownBlock = v.ownBlock ∨ v'.ownBlock = some w.heap.size) → wpList P ops Q rest (a.put o.dst v') w') :
    wpList P ops Q (o :: rest) a w := by
  have hm : (k + 1) * bytes ≤ 100001 * 1000 := Nat.mul_le_mul (by omega) hby
  refine wpList_appAt w he hg s x t hop base v k xs hs hown _ 1 news hx (Src.ofSlice _ he.1 _ _ _ _ (by rw [hn]; omega) ?_ h1) (by unfold maxLen; omega) (by omega) b3 hK
  intro j u hu
  rw [Addr.add_lit]
  exact hB j u hu
end Fm
namespace Go.Proofs.YtbciamploeejiaaGreat
open Go Go.Proofs Fm
theorem infoint_F : (Tryz.prog.info? 3).map (fun i => (i.zero, i.size, i.bytes)) = some (some (.int .i64 0), 1, 8) := by kernel_rfl
theorem elemint_F : ElemOf Tryz.prog 22 3 (.int .i64 0) 1 8 := ⟨Tryz.underlying22, infoint_F, rfl, by decide⟩
theorem infonode_F : (Tryz.prog.info? 32).map (fun i => (i.zero, i.size, i.bytes)) = some (some (.agg ndZ.toArray), 16, 184) := by kernel_rfl
theorem elemnode_F : ElemOf Tryz.prog 23 32 (.agg ndZ.toArray) 16 184 := ⟨Tryz.underlying23, infonode_F, rfl, by decide⟩
theorem sizenode_F : (Tryz.prog.info? 32).map (·.size) = some 16 := by kernel_rfl
end Go.Proofs.YtbciamploeejiaaGreat

namespace Fm
open Go

section
variable {P : Program} {ops : Array Oper} {Q : Exit → Act → World → Prop} {md : Region.Mode} {S : World → Prop}

/-- Operation i is wanted, and only reads: it may come first. -/
theorem take_w (i : Nat) (d : Option Tmp) {v : Value} {fuel : Nat} {listed : Array Bool} {a : Act} {w : World}
    (hi : ops[i]? = some (ops.getD i default)) (hd : (ops.getD i default).dst = d) (hs : Region.noSelect ops = true) (hf : Region.free md ops listed i = true) (hr : (Region.ready md ops listed).contains i = true)
    (hQ : ∀ c a w, Q (.panic c) (a.put d v) w → Q (.panic c) a w) (hw : Region.wanted (ops.getD i default) (yielded ops a.tmps) = true)
    (hy : ∀ w, S w → (execOp a.eval (ops.getD i default)).run P w = .ok (.value v) w) (hS : S w)
    (h : wpAnyH P md ops Q S fuel (listed.setIfInBounds i true) (a.put d v) w) : wpAnyH P md ops Q S (fuel + 1) listed a w := by
  subst hd; exact wpAnyH_take hi hs hf hr hQ (.inl ⟨hw, hy⟩) hS h
/-- Operation i alone may come up. -/
theorem ready_one (i : Nat) {fuel : Nat} {listed : Array Bool} {a : Act} {w : World}
    (hi : ops[i]? = some (ops.getD i default)) (hr : Region.ready md ops listed = [i]) (hw : Region.wanted (ops.getD i default) (yielded ops a.tmps) = true)
    (h : ∀ K' : Act → World → Prop, Shut (∀ a w, S w → (S w → wpAnyH P md ops Q S fuel (listed.setIfInBounds i true) a w) → K' a w) → Oper.wp P (ops.getD i default) a w K' Q) : wpAnyH P md ops Q S (fuel + 1) listed a w :=
  wpAnyH_ready hr (by simp) (AllReadyH.cons hi (fun K hK => by rw [if_pos hw]; exact h K hK) AllReadyH.nil)
/-- One of two may come up. -/
theorem ready_two (i j : Nat) {fuel : Nat} {listed : Array Bool} {a : Act} {w : World}
    (hi : ops[i]? = some (ops.getD i default)) (hj : ops[j]? = some (ops.getD j default)) (hr : Region.ready md ops listed = [i, j]) (hw : Region.wanted (ops.getD i default) (yielded ops a.tmps) = true) (hw2 : Region.wanted (ops.getD j default) (yielded ops a.tmps) = true)
    (h : ∀ K' : Act → World → Prop, Shut (∀ a w, S w → (S w → wpAnyH P md ops Q S fuel (listed.setIfInBounds i true) a w) → K' a w) → Oper.wp P (ops.getD i default) a w K' Q)
    (h2 : ∀ K' : Act → World → Prop, Shut (∀ a w, S w → (S w → wpAnyH P md ops Q S fuel (listed.setIfInBounds j true) a w) → K' a w) → Oper.wp P (ops.getD j default) a w K' Q) : wpAnyH P md ops Q S (fuel + 1) listed a w :=
  wpAnyH_ready hr (by simp) (AllReadyH.cons hi (fun K hK => by rw [if_pos hw]; exact h K hK) (AllReadyH.cons hj (fun K hK => by rw [if_pos hw2]; exact h2 K hK) AllReadyH.nil))
end
end Fm
