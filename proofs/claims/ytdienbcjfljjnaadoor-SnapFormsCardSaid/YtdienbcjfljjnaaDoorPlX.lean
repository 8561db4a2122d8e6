/- Copies of nodes in windows of their own: plain facts. No program is imported. -/
import Derived.Test.YtdienbcjfljjnaaDoorPlQ
import Derived.Deep.MidRow
namespace Fm
open Go
open Go.RowKit

theorem list_of_all {α : Type} {P : Nat → α → Prop} : ∀ (n : Nat), (∀ i, i < n → ∃ C, P i C) → ∃ cs : List α, cs.length = n ∧ ∀ i (h : i < cs.length), P i cs[i]
  | 0, _ => ⟨[], rfl, fun i h => by simp at h⟩
  | n + 1, H => by
    obtain ⟨cs, h1, h2⟩ := list_of_all n (fun i hi => H i (by omega))
    obtain ⟨C, hC⟩ := H n (by omega)
    refine ⟨cs ++ [C], by simp [h1], fun i h => ?_⟩
    by_cases hi : i < cs.length
    · rw [List.getElem_append_left hi]; exact h2 i hi
    · have e : i = cs.length := by simp at h; omega
      subst e
      rw [List.getElem_append_right (Nat.le_refl _)]
      simp only [Nat.sub_self, List.getElem_cons_zero]
      rw [h1]; exact hC
theorem flat16_all : ∀ (cs : List (List Value)), (∀ C, C ∈ cs → C.length = 16) → cs.flatten.length = cs.length * 16
  | [], _ => rfl
  | C :: cs, h => by
    have h1 := h C (List.mem_cons_self ..)
    have h2 := flat16_all cs (fun D hD => h D (List.mem_cons_of_mem _ hD))
    rw [List.flatten_cons, List.length_append, h1, h2, List.length_cons]; omega
theorem flat16_set : ∀ (cs : List (List Value)) (i j : Nat) (u : Value) (hi : i < cs.length), (∀ C, C ∈ cs → C.length = 16) → j < 16 → cs.flatten.set (i * 16 + j) u = (cs.set i (cs[i].set j u)).flatten
  | [], i, _, _, hi, _, _ => by simp at hi
  | C :: cs, 0, j, u, _, h, hj => by
    have := h C (List.mem_cons_self ..)
    simp only [List.flatten_cons, List.set_cons_zero, List.getElem_cons_zero, Nat.zero_mul, Nat.zero_add]
    rw [List.set_append_left _ _ (by omega)]
  | C :: cs, i + 1, j, u, hi, h, hj => by
    have hC := h C (List.mem_cons_self ..)
    have ih := flat16_set cs i j u (by simpa using hi) (fun D hD => h D (List.mem_cons_of_mem _ hD)) hj
    simp only [List.flatten_cons, List.set_cons_succ, List.getElem_cons_succ]
    rw [List.set_append_right _ _ (by omega), ← ih]
    congr 2
    omega
/-- A node whose slices are not its own. -/
def ShNd (w : World) (n : Nd) (C : List Value) : Prop :=
  ∃ (a : Option Addr) (m c : Nat) (k N s d : Value), C = ndCells n (.slice a m c) k N s d ∧ NdV w n (.agg C.toArray) ∧ (∀ u, u ∈ C → u.oneCell' = true)
theorem ShNd.cells {w : World} {n : Nd} {C : List Value} (h : ShNd w n C) : C.length = 16 := by
  obtain ⟨a, m, c, k, N, s, d, rfl, -⟩ := h; rfl
/-- Nodes whose row is of its own. -/
def ShN (eN : TypeId) (w0 : World) (base : Nat) (w : World) (v : Value) (l : List Nd) : Prop :=
  ∃ cs : List (List Value), cs.length = l.length ∧ w.ownsRow base eN 16 v l.length cs.flatten ∧ ∀ (i : Nat) (hi : i < l.length) (hc : i < cs.length), ShNd w0 l[i] cs[i]
/-- A node whose slices lie from p on, ahead of q. -/
def NdW (eI eV : TypeId) (p q : Nat) (w : World) (n : Nd) (C : List Value) : Prop :=
  ∃ (a : Option Addr) (m c : Nat) (k N S d : Value) (F : Nat → Prop), C = ndCells n (.slice a m c) k N S d ∧ OwnN eI p w (.slice a m c) n.after ∧ (∀ b, (Value.slice a m c).ownBlock = some b → b < q ∧ ¬ F b) ∧
    Owns eV w p n.val (.agg #[k, N, S, d]) F ∧ (∀ b, F b → b < q) ∧ ndWf n
theorem NdW.cells {eI eV : TypeId} {p q : Nat} {w : World} {n : Nd} {C : List Value} (h : NdW eI eV p q w n C) : C.length = 16 := by
  obtain ⟨a, m, c, k, N, s, d, F, rfl, -⟩ := h; rfl
theorem NdW.far {eI eV : TypeId} {p q : Nat} {w w' : World} {n : Nd} {C : List Value} (h : NdW eI eV p q w n C) (hk : ∀ b, p ≤ b → b < q → w'.heap[b]? = w.heap[b]?) : NdW eI eV p q w' n C := by
  obtain ⟨a, m, c, k, N, S, d, F, rfl, h1, h2, h3, h4, h5⟩ := h
  exact ⟨a, m, c, k, N, S, d, F, rfl, ownsRow_block h1 (fun b hb => hk b (World.ownsRow.lt h1 b hb).1 (h2 b hb).1), h2, h3.kept (fun b hb => hk b (h3.bounds b hb).1 (h4 b hb)), h4, h5⟩
theorem NdW.v {eI eV : TypeId} {p q : Nat} {w : World} {n : Nd} {C : List Value} (h : NdW eI eV p q w n C) : NdV w n (.agg C.toArray) := by
  obtain ⟨a, m, c, k, N, S, d, F, rfl, h1, -, h2, -, h3⟩ := h
  obtain ⟨w1, w2, w3, w4, w5, w6, w7, w8, w9, w10, w11⟩ := h3
  exact ⟨a, m, c, k, N, S, d, rfl, h1.row w11, h2.lies, w1, w2, w3, w4, w5, w6, w7, w8, w9⟩
/-- A copy of nodes, the row ahead of lo 0, node i's slices from lo i on, ahead of lo (i + 1). -/
def CopyN (eN eI eV : TypeId) (base : Nat) (w : World) (v : Value) (l : List Nd) : Prop :=
  ∃ (cs : List (List Value)) (lo : Nat → Nat), cs.length = l.length ∧ w.ownsRow base eN 16 v l.length cs.flatten ∧ (∀ b, v.ownBlock = some b → b < lo 0) ∧ base ≤ lo 0 ∧ (∀ i, i < l.length → lo i ≤ lo (i + 1)) ∧ lo l.length ≤ w.heap.size ∧
    ∀ (i : Nat) (hi : i < l.length) (hc : i < cs.length), NdW eI eV (lo i) (lo (i + 1)) w l[i] cs[i]
/-- The first j nodes are copied. -/
def HalfN (eN eI eV : TypeId) (w0 : World) (base : Nat) (w : World) (v : Value) (l : List Nd) (j : Nat) : Prop :=
  ∃ (cs : List (List Value)) (lo : Nat → Nat), cs.length = l.length ∧ w.ownsRow base eN 16 v l.length cs.flatten ∧ (∀ b, v.ownBlock = some b → b < lo 0) ∧ base ≤ lo 0 ∧ (∀ i, i < j → lo i ≤ lo (i + 1)) ∧ lo j ≤ w.heap.size ∧
    (∀ (i : Nat) (hi : i < l.length) (hc : i < cs.length), j ≤ i → ShNd w0 l[i] cs[i]) ∧ ∀ (i : Nat) (hi : i < l.length) (hc : i < cs.length), i < j → NdW eI eV (lo i) (lo (i + 1)) w l[i] cs[i]
theorem HalfN.start {eN eI eV : TypeId} {w0 w : World} {base : Nat} {v : Value} {l : List Nd} (h : ShN eN w0 base w v l) (hw : base ≤ w.heap.size) : HalfN eN eI eV w0 base w v l 0 := by
  obtain ⟨cs, h1, h2, h3⟩ := h
  exact ⟨cs, fun _ => w.heap.size, h1, h2, fun b hb => (h2.lt b hb).2, hw, fun i hi => by omega, Nat.le_refl _, fun i hi hc _ => h3 i hi hc, fun i hi hc h => by omega⟩
theorem HalfN.full {eN eI eV : TypeId} {w0 w : World} {base : Nat} {v : Value} {l : List Nd} (h : HalfN eN eI eV w0 base w v l l.length) : CopyN eN eI eV base w v l := by
  obtain ⟨cs, lo, h1, h2, h3, h4, h5, h6, h7, h8⟩ := h
  exact ⟨cs, lo, h1, h2, h3, h4, h5, h6, fun i hi hc => h8 i hi hc hi⟩
theorem HalfN.ext {eN eI eV : TypeId} {w0 w w' : World} {base : Nat} {v : Value} {l : List Nd} {j : Nat} (h : HalfN eN eI eV w0 base w v l j) (hE : Ext w w') : HalfN eN eI eV w0 base w' v l j := by
  obtain ⟨cs, lo, h1, h2, h3, h4, h5, h6, h7, h8⟩ := h
  have hmon : ∀ k, k ≤ j → ∀ i, i ≤ k → lo i ≤ lo k := fun k => by
    induction k with
    | zero => intro _ i hi; have : i = 0 := by omega
              subst this; exact Nat.le_refl _
    | succ k ih =>
      intro hk i hi
      rcases Nat.lt_or_ge i (k + 1) with h | h
      · exact Nat.le_trans (ih (by omega) i (by omega)) (h5 k (by omega))
      · have : i = k + 1 := by omega
        subst this; exact Nat.le_refl _
  exact ⟨cs, lo, h1, hE.own h2, h3, h4, h5, Nat.le_trans h6 hE.size, h7, fun i hi hc hij => (h8 i hi hc hij).far (fun b _ hb => hE.block b (by have := hmon j (Nat.le_refl _) (i + 1) (by omega); omega))⟩
theorem set5 {n : Nd} {e k N s d e' k' N' s' d' : Value} : (((((ndCells n e k N s d).set 6 e').set 12 k').set 13 N').set 14 s').set 15 d' = ndCells n e' k' N' s' d' := rfl
theorem set5_flat {cs : List (List Value)} {j : Nat} (hj : j < cs.length) (h16 : ∀ C, C ∈ cs → C.length = 16) (e k N s d : Value) :
    ((((cs.flatten.set (j * 16 + 6) e).set (j * 16 + 12) k).set (j * 16 + 13) N).set (j * 16 + 14) s).set (j * 16 + 15) d = (cs.set j (((((cs[j].set 6 e).set 12 k).set 13 N).set 14 s).set 15 d)).flatten := by
  have step : ∀ (ds : List (List Value)) (hl : j < ds.length), (∀ C, C ∈ ds → C.length = 16) → ∀ (i : Nat) (u : Value), i < 16 → ds.flatten.set (j * 16 + i) u = (ds.set j (ds[j].set i u)).flatten := fun ds hl h i u hi => flat16_set ds j i u hl h hi
  have keep : ∀ (ds : List (List Value)) (hl : j < ds.length) (i : Nat) (u : Value), (∀ C, C ∈ ds → C.length = 16) → ∀ C, C ∈ ds.set j (ds[j].set i u) → C.length = 16 := fun ds hl i u h C hC => by
    rcases List.mem_or_eq_of_mem_set hC with h1 | h1
    · exact h C h1
    · rw [h1, List.length_set]; exact h _ (List.getElem_mem hl)
  have k1 := keep cs hj 6 e h16
  rw [step cs hj h16 6 e (by omega)]
  have l1 : j < (cs.set j (cs[j].set 6 e)).length := by simpa using hj
  have k2 := keep _ l1 12 k k1
  rw [step _ l1 k1 12 k (by omega)]
  have l2 : j < ((cs.set j (cs[j].set 6 e)).set j ((cs.set j (cs[j].set 6 e))[j].set 12 k)).length := by simpa using hj
  have k3 := keep _ l2 13 N k2
  rw [step _ l2 k2 13 N (by omega)]
  have l3 := l2
  rw [← List.length_set (i := j) (a := (((cs.set j (cs[j].set 6 e)).set j ((cs.set j (cs[j].set 6 e))[j].set 12 k))[j].set 13 N))] at l3
  have k4 := keep _ l3 14 s k3
  rw [step _ l3 k3 14 s (by omega)]
  rw [step _ (by simpa using hj) k4 15 d (by omega)]
  simp
theorem HalfN.step {eN eI eV : TypeId} {w0 wr w W : World} {base : Nat} {l : List Nd} {j g cap : Nat} (h : HalfN eN eI eV w0 base wr (.slice (some ⟨g, 0, none⟩) l.length cap) l j) (hj : j < l.length) (hE : Ext wr w) {a : Option Addr} {m c : Nat} {k N s d : Value} {F : Nat → Prop}
    (hA : OwnN eI wr.heap.size w (.slice a m c) l[j].after) (hF : ∀ b, (Value.slice a m c).ownBlock = some b → ¬ F b) (hV : Owns eV w wr.heap.size l[j].val (.agg #[k, N, s, d]) F)
    (hW : ∀ xs, w.ownsRow base eN 16 (.slice (some ⟨g, 0, none⟩) l.length cap) l.length xs → W.ownsRow base eN 16 (.slice (some ⟨g, 0, none⟩) l.length cap) l.length (((((xs.set (j * 16 + 6) (.slice a m c)).set (j * 16 + 12) k).set (j * 16 + 13) N).set (j * 16 + 14) s).set (j * 16 + 15) d))
    (hg : w.grownBy W (some g)) : HalfN eN eI eV w0 base W (.slice (some ⟨g, 0, none⟩) l.length cap) l (j + 1) := by
  obtain ⟨cs, lo, h1, h2, h3, h4, h5, h6, h7, h8⟩ := h
  have hmon : ∀ k, k ≤ j → ∀ i, i ≤ k → lo i ≤ lo k := fun k => by
    induction k with
    | zero => intro _ i hi; have : i = 0 := by omega
              subst this; exact Nat.le_refl _
    | succ k ih =>
      intro hk i hi
      rcases Nat.lt_or_ge i (k + 1) with h | h
      · exact Nat.le_trans (ih (by omega) i (by omega)) (h5 k (by omega))
      · have : i = k + 1 := by omega
        subst this; exact Nat.le_refl _
  have hgl : g < lo 0 := h3 g rfl
  have hjc : j < cs.length := by omega
  have h16 : ∀ C, C ∈ cs → C.length = 16 := fun C hC => by
    obtain ⟨i, hi, rfl⟩ := List.getElem_of_mem hC
    rcases Nat.lt_or_ge i j with h | h
    · exact (h8 i (by omega) hi h).cells
    · exact (h7 i (by omega) hi h).cells
  obtain ⟨a0, m0, c0, k0, N0, s0, d0, eC, hC, -⟩ := h7 j hj hjc (Nat.le_refl _)
  have hw := hW _ (hE.own h2)
  rw [set5_flat hjc h16, eC, set5] at hw
  have hlj := hmon j (Nat.le_refl _) 0 (by omega)
  refine ⟨cs.set j (ndCells l[j] (.slice a m c) k N s d), fun i => if i ≤ j then lo i else W.heap.size, by simp [h1], hw, ?_, ?_, fun i hi => ?_, ?_, fun i hi hc hji => ?_, fun i hi hc hij => ?_⟩
  · intro b hb; simpa using h3 b hb
  · simpa using h4
  · dsimp only
    rw [if_pos (by omega)]
    by_cases e : i + 1 ≤ j
    · rw [if_pos e]; exact h5 i (by omega)
    · rw [if_neg e]
      have : i = j := by omega
      subst this
      exact Nat.le_trans h6 (Nat.le_trans hE.size hg.size)
  · dsimp only; rw [if_neg (by omega)]; exact Nat.le_refl _
  · have hic : i < cs.length := by simpa using hc
    rw [List.getElem_set_ne (by omega)]
    exact h7 i hi hic (by omega)
  · have hic : i < cs.length := by simpa using hc
    dsimp only
    rw [if_pos (by omega)]
    by_cases e : i = j
    · subst e
      rw [if_neg (by omega), List.getElem_set_self]
      have hn : ndWf l[i] := hC.wf
      refine ⟨a, m, c, k, N, s, d, F, rfl, ?_, fun b hb => ⟨?_, hF b hb⟩, ?_, fun b hb => ?_, hn⟩
      · refine ownsRow_mono (ownsRow_block hA (fun b hb => hg.block b (World.ownsRow.lt hA b hb).2 (fun e => ?_))) h6
        have := (World.ownsRow.lt hA b hb).1
        injection e with e
        omega
      · exact Nat.lt_of_lt_of_le (World.ownsRow.lt hA b hb).2 hg.size
      · refine (hV.kept (fun b hb => hg.block b (hV.bounds b hb).2 (fun e => ?_))).mono h6
        have := (hV.bounds b hb).1
        injection e with e
        omega
      · exact Nat.lt_of_lt_of_le (hV.bounds b hb).2 hg.size
    · rw [if_pos (by omega), List.getElem_set_ne (fun h => e h.symm)]
      refine (h8 i hi hic (by omega)).far (fun b hb1 hb2 => ?_)
      have hb3 : b < lo j := Nat.lt_of_lt_of_le hb2 (hmon j (Nat.le_refl _) (i + 1) (by omega))
      have hb4 : g < b := Nat.lt_of_lt_of_le hgl (Nat.le_trans (hmon i (by omega) 0 (by omega)) hb1)
      rw [hg.block b (by have := hE.size; omega) (fun e => by injection e with e; omega)]
      exact hE.block b (by omega)
/-- The same in a world where a block ahead of the copy has changed. -/
theorem HalfN.set {eN eI eV : TypeId} {w0 w : World} {base : Nat} {v : Value} {l : List Nd} {j b : Nat} (h : HalfN eN eI eV w0 base w v l j) (hb : b < base) (o : Nat) (u : Value) : HalfN eN eI eV w0 base (w.setCell ⟨b, o, none⟩ u) v l j := by
  obtain ⟨cs, lo, h1, h2, h3, h4, h5, h6, h7, h8⟩ := h
  have hg := setOne_grown w b o u
  have hmon : ∀ i, i ≤ j → base ≤ lo i := fun i => by
    induction i with
    | zero => exact fun _ => h4
    | succ i ih => exact fun hi => Nat.le_trans (ih (by omega)) (h5 i (by omega))
  refine ⟨cs, lo, h1, ownsRow_block h2 (fun k hk => hg.block k (h2.lt k hk).2 (fun e => ?_)), h3, h4, h5, Nat.le_trans h6 hg.size, h7, fun i hi hc hij => ?_⟩
  · injection e with e
    have := (h2.lt k hk).1
    omega
  · have q := h8 i hi hc hij
    obtain ⟨a, m, c, k, N, S, d, F, rfl', k1, k2, k3, k4, k5⟩ := q
    have hbi := hmon i (by omega)
    refine ⟨a, m, c, k, N, S, d, F, rfl', ownsRow_block k1 (fun x hx => hg.block x (World.ownsRow.lt k1 x hx).2 (fun e => ?_)), k2, k3.kept (fun x hx => hg.block x (k3.bounds x hx).2 (fun e => ?_)), k4, k5⟩
    · injection e with e
      have := (World.ownsRow.lt k1 x hx).1
      omega
    · injection e with e
      have := (k3.bounds x hx).1
      omega
/-- A node that is still to be copied. -/
theorem HalfN.at {eN eI eV : TypeId} {w0 w : World} {base g cap : Nat} {l : List Nd} {j : Nat} (h : HalfN eN eI eV w0 base w (.slice (some ⟨g, 0, none⟩) l.length cap) l j) (hj : j < l.length) :
    ∃ (a : Option Addr) (m c : Nat) (k N s d : Value), NdV w0 l[j] (.agg (ndCells l[j] (.slice a m c) k N s d).toArray) ∧ (∀ i u, (ndCells l[j] (.slice a m c) k N s d)[i]? = some u → w.cell? ⟨g, j * 16 + i, none⟩ = some u) ∧ (∀ i, w.frozen? ⟨g, i, none⟩ = false) ∧ base ≤ g ∧ g < w.heap.size := by
  obtain ⟨cs, lo, h1, h2, h3, h4, h5, h6, h7, h8⟩ := h
  have hjc : j < cs.length := by omega
  have h16 : ∀ C, C ∈ cs → C.length = 16 := fun C hC => by
    obtain ⟨i, hi, rfl⟩ := List.getElem_of_mem hC
    rcases Nat.lt_or_ge i j with h | h
    · exact (h8 i (by omega) hi h).cells
    · exact (h7 i (by omega) hi h).cells
  obtain ⟨a, m, c, k, N, s, d, eC, hC, -⟩ := h7 j hj hjc (Nat.le_refl _)
  rw [eC] at hC
  refine ⟨a, m, c, k, N, s, d, hC, fun i u hu => ?_, fun i => h2.frozenAt _, (h2.lt g rfl).1, (h2.lt g rfl).2⟩
  have hi : i < 16 := (List.getElem?_eq_some_iff.1 hu).1
  have hfl := flat16_all cs h16
  rw [h2.cellAt _ (by omega), flat16 cs j i hjc h16 hi, eC]
  exact hu
theorem CopyN.mono {eN eI eV : TypeId} {base base' : Nat} {w : World} {v : Value} {l : List Nd} (h : CopyN eN eI eV base w v l) (hb : base' ≤ base) : CopyN eN eI eV base' w v l := by
  obtain ⟨cs, lo, h1, h2, h3, h4, h5⟩ := h
  exact ⟨cs, lo, h1, ownsRow_mono h2 hb, h3, Nat.le_trans hb h4, h5⟩
theorem CopyN.slice {eN eI eV : TypeId} {base : Nat} {w : World} {v : Value} {l : List Nd} (h : CopyN eN eI eV base w v l) : ∃ a c, v = .slice a l.length c := by
  obtain ⟨cs, lo, h1, h2, _⟩ := h
  rcases h2.2 with ⟨e, e2⟩ | ⟨g, cap, cur, e, _⟩
  · exact ⟨none, 0, by rw [e, e2]⟩
  · exact ⟨_, _, e⟩
theorem ShN.slice {eN : TypeId} {w0 w : World} {base : Nat} {v : Value} {l : List Nd} (h : ShN eN w0 base w v l) : (l = [] ∧ v = .slice none 0 0) ∨ ∃ g c, v = .slice (some ⟨g, 0, none⟩) l.length c ∧ l.length ≤ c := by
  obtain ⟨cs, h1, h2, _⟩ := h
  rcases h2.2 with ⟨e, e2⟩ | ⟨g, cap, cur, e, hb, hg, hl, _⟩
  · exact .inl ⟨List.eq_nil_of_length_eq_zero e2, e⟩
  · exact .inr ⟨g, cap, e, hl⟩
end Fm

/- Nodes in blocks that are open, changed and written over: plain facts. No program is imported. -/
namespace Fm
open Go Go.RowKit

/-- What lies outside the open blocks stays. -/
structure Keep (O : Nat → Prop) (w w' : World) : Prop where
  os : w'.os = w.os
  tape : w'.tape = w.tape
  output : w'.output = w.output
  size : w.heap.size ≤ w'.heap.size
  block : ∀ b, b < w.heap.size → ¬ O b → w'.heap[b]? = w.heap[b]?
theorem Keep.refl (O : Nat → Prop) (w : World) : Keep O w w := ⟨rfl, rfl, rfl, Nat.le_refl _, fun _ _ _ => rfl⟩
theorem Keep.trans {O : Nat → Prop} {a b c : World} (h : Keep O a b) (k : Keep O b c) : Keep O a c :=
  ⟨k.os.trans h.os, k.tape.trans h.tape, k.output.trans h.output, Nat.le_trans h.size k.size, fun x hx ho => (k.block x (Nat.lt_of_lt_of_le hx h.size) ho).trans (h.block x hx ho)⟩
theorem Keep.grown {O : Nat → Prop} {a b c : World} {row : Option Nat} (h : Keep O a b) (hg : b.grownBy c row) (hr : ∀ k, row = some k → O k) : Keep O a c :=
  h.trans ⟨hg.os, hg.tape, hg.output, hg.size, fun x hx ho => hg.block x hx (fun e => ho (hr x e.symm))⟩
theorem Keep.ext {O : Nat → Prop} {a b c : World} (h : Keep O a b) (hE : Ext b c) : Keep O a c := h.grown (row := none) hE.grownBy (fun k hk => by cases hk)
theorem Keep.mono {O O' : Nat → Prop} {w w' : World} (h : Keep O w w') (hO : ∀ b, O b → O' b) : Keep O' w w' := ⟨h.os, h.tape, h.output, h.size, fun b hb ho => h.block b hb (fun q => ho (hO b q))⟩
theorem Keep.toExt {O : Nat → Prop} {w0 w w' : World} (h : Keep O w w') (hE : Ext w0 w) (hO : ∀ b, b < w0.heap.size → ¬ O b) : Ext w0 w' :=
  ⟨h.os.trans hE.os, h.tape.trans hE.tape, h.output.trans hE.output, Nat.le_trans hE.size h.size, fun b hb => (h.block b (Nat.lt_of_lt_of_le hb hE.size) (hO b hb)).trans (hE.block b hb)⟩
/-- Cells that are there, and may be written. -/
def Has (w : World) (b n : Nat) : Prop := b < w.heap.size ∧ ∀ j, j < n → (∃ u, w.cell? ⟨b, j, none⟩ = some u) ∧ w.frozen? ⟨b, j, none⟩ = false
theorem Has.set {w : World} {b n : Nat} (h : Has w b n) (b' j' : Nat) (u : Value) : Has (w.setCell ⟨b', j', none⟩ u) b n := by
  refine ⟨by simp [h.1], fun j hj => ?_⟩
  obtain ⟨⟨x, hx⟩, hf⟩ := h.2 j hj
  refine ⟨?_, by rw [World.frozen?_setCell]; exact hf⟩
  by_cases e : (⟨b, j, none⟩ : Addr) = ⟨b', j', none⟩
  · rw [← e]; exact ⟨u, World.cell?_setCell_same _ _ _ hx⟩
  · exact ⟨x, (World.cell?_setCell_other w _ _ u (fun h => e h.symm)).trans hx⟩
theorem Has.block {w w' : World} {b n : Nat} (h : Has w b n) (hb : w'.heap[b]? = w.heap[b]?) (hs : w.heap.size ≤ w'.heap.size) : Has w' b n := by
  refine ⟨Nat.lt_of_lt_of_le h.1 hs, fun j hj => ?_⟩
  obtain ⟨⟨x, hx⟩, hf⟩ := h.2 j hj
  exact ⟨⟨x, (World.cell?_of_block (a := ⟨b, j, none⟩) hb).trans hx⟩, (World.frozen?_of_block (a := ⟨b, j, none⟩) hb).trans hf⟩
theorem Has.ext {w w' : World} {b n : Nat} (h : Has w b n) (hE : Ext w w') : Has w' b n := h.block (hE.block b h.1) hE.size
/-- A slice whose cells may be written, in an open block, none of two others. -/
def OpenSl (O : Nat → Prop) (w : World) (g p sz : Nat) (v : Value) : Prop :=
  ∃ a m c, v = .slice a m c ∧ m ≤ 9223372036854775807 ∧ (0 < m → ∃ b, a = some ⟨b, 0, none⟩ ∧ O b ∧ b ≠ g ∧ b ≠ p ∧ Has w b (m * sz))
theorem OpenSl.set {O : Nat → Prop} {w : World} {g p sz : Nat} {v : Value} (h : OpenSl O w g p sz v) (b' j' : Nat) (u : Value) : OpenSl O (w.setCell ⟨b', j', none⟩ u) g p sz v := by
  obtain ⟨a, m, c, h1, h2, h3⟩ := h
  refine ⟨a, m, c, h1, h2, fun hm => ?_⟩
  obtain ⟨b, k1, k2, k3, k4, k5⟩ := h3 hm
  exact ⟨b, k1, k2, k3, k4, k5.set _ _ _⟩
theorem OpenSl.ext {O : Nat → Prop} {w w' : World} {g p sz : Nat} {v : Value} (h : OpenSl O w g p sz v) (hE : Ext w w') : OpenSl O w' g p sz v := by
  obtain ⟨a, m, c, h1, h2, h3⟩ := h
  refine ⟨a, m, c, h1, h2, fun hm => ?_⟩
  obtain ⟨b, k1, k2, k3, k4, k5⟩ := h3 hm
  exact ⟨b, k1, k2, k3, k4, k5.ext hE⟩
theorem OpenSl.own {O : Nat → Prop} {w : World} {g p sz base e n : Nat} {v : Value} {xs : List Value} (h : w.ownsRow base e sz v n xs) (hO : ∀ b, v.ownBlock = some b → O b ∧ b ≠ g ∧ b ≠ p) : OpenSl O w g p sz v := by
  have hx := h.1
  rcases h.2 with ⟨e1, e2⟩ | ⟨b, cap, cur, e1, h1, h2, h3, h4, h5, h6⟩
  · exact ⟨none, 0, 0, e1, by omega, fun h => by omega⟩
  · subst e1
    obtain ⟨k1, k2, k3⟩ := hO b rfl
    refine ⟨_, _, _, rfl, by unfold maxLen at h4; omega, fun hm => ⟨b, rfl, k1, k2, k3, (h.lt b rfl).2, fun j hj => ⟨⟨_, (h.cellAt j (by omega)).trans (List.getElem?_eq_getElem (by omega))⟩, h.frozenAt j⟩⟩⟩
/-- Nodes from their cells. -/
theorem ndRow_parts {eN : TypeId} {base : Nat} {w : World} {v : Value} {l : List Nd} {cs : List (List Value)} (h1 : cs.length = l.length) (h2 : w.ownsRow base eN 16 v l.length cs.flatten)
    (h3 : ∀ (i : Nat) (hi : i < l.length) (hc : i < cs.length), cs[i].length = 16 ∧ NdV w l[i] (.agg cs[i].toArray)) : ndE.Row w l v := by
  have hc := fun g => World.ownsRow.cells h2 (g := g)
  have h16 : ∀ C, C ∈ cs → C.length = 16 := fun C hC => by
    obtain ⟨i, hi, rfl⟩ := List.getElem_of_mem hC
    exact (h3 i (by omega) hi).1
  rcases h2.2 with ⟨rfl, h0⟩ | ⟨g, cap, cur, rfl, hb, hg, hl, hm, h5, h6⟩
  · have : l = [] := List.eq_nil_of_length_eq_zero h0
    subst this
    exact Elem.Row.void ndE w none
  · refine Elem.Row.mk rfl hl hm (Array.getElem?_eq_some_iff.1 hg).1 (fun i hi => ?_)
    have hd : i < cs.length := by omega
    obtain ⟨hlen, hn⟩ := h3 i hi hd
    refine ⟨fun j => cs[i].getD j .nilFunc, ?_, fun j hj => ?_⟩
    · obtain ⟨a, m, c, k, N, S, x, e, k1, k2, k3⟩ := hn
      injection e with e
      have e := congrArg Array.toList e
      simp only at e
      rw [e]
      exact ⟨⟨rfl, rfl, rfl, rfl, rfl, rfl⟩, k1, ⟨rfl, rfl, rfl, rfl, rfl⟩, k2, k3⟩
    · have hj16 : j < 16 := hj
      have := hc g rfl (i * 16 + j) (cs[i].getD j .nilFunc) (by
        rw [flat16 cs i j hd h16 hj16, List.getD_eq_getElem?_getD, List.getElem?_eq_getElem (by omega)]; rfl)
      rw [Addr.add_lit] at this
      exact this
/-- Nodes that may be written over: their row in an open block, and what they are after and their lists too. -/
def RigN (eN : TypeId) (O : Nat → Prop) (p : Nat) (w : World) (v : Value) (l : List Nd) : Prop :=
  ∃ cs : List (List Value), cs.length = l.length ∧ w.ownsRow 0 eN 16 v l.length cs.flatten ∧ (∀ g, v.ownBlock = some g → O g ∧ g ≠ p) ∧
    ∀ (i : Nat) (hi : i < l.length) (hc : i < cs.length), cs[i].length = 16 ∧ NdV w l[i] (.agg cs[i].toArray) ∧
      ∀ g, v.ownBlock = some g → OpenSl O w g p 1 (cs[i].getD 6 .nilFunc) ∧ OpenSl O w g p 4 (cs[i].getD 15 .nilFunc)
theorem RigN.row {eN : TypeId} {O : Nat → Prop} {p : Nat} {w : World} {v : Value} {l : List Nd} (h : RigN eN O p w v l) : ndE.Row w l v := by
  obtain ⟨cs, h1, h2, h3, h4⟩ := h
  exact ndRow_parts h1 h2 (fun i hi hc => ⟨(h4 i hi hc).1, (h4 i hi hc).2.1⟩)
theorem RigN.ext {eN : TypeId} {O : Nat → Prop} {p : Nat} {w w' : World} {v : Value} {l : List Nd} (h : RigN eN O p w v l) (hE : Ext w w') : RigN eN O p w' v l := by
  obtain ⟨cs, h1, h2, h3, h4⟩ := h
  exact ⟨cs, h1, hE.own h2, h3, fun i hi hc => ⟨(h4 i hi hc).1, (h4 i hi hc).2.1.ext hE, fun g hg => ⟨((h4 i hi hc).2.2 g hg).1.ext hE, ((h4 i hi hc).2.2 g hg).2.ext hE⟩⟩⟩
/-- A copy of nodes, all its blocks from base on, ahead of top. -/
def CopyT (eN eI eV : TypeId) (base top : Nat) (w : World) (v : Value) (l : List Nd) : Prop :=
  ∃ (cs : List (List Value)) (lo : Nat → Nat), cs.length = l.length ∧ w.ownsRow base eN 16 v l.length cs.flatten ∧ (∀ b, v.ownBlock = some b → b < lo 0) ∧ base ≤ lo 0 ∧ (∀ i, i < l.length → lo i ≤ lo (i + 1)) ∧ lo l.length ≤ top ∧ top ≤ w.heap.size ∧
    ∀ (i : Nat) (hi : i < l.length) (hc : i < cs.length), NdW eI eV (lo i) (lo (i + 1)) w l[i] cs[i]
theorem CopyN.top {eN eI eV : TypeId} {base : Nat} {w : World} {v : Value} {l : List Nd} (h : CopyN eN eI eV base w v l) : CopyT eN eI eV base w.heap.size w v l := by
  obtain ⟨cs, lo, h1, h2, h3, h4, h5, h6, h7⟩ := h
  exact ⟨cs, lo, h1, h2, h3, h4, h5, h6, Nat.le_refl _, h7⟩
theorem lo_mono {lo : Nat → Nat} {n : Nat} (h5 : ∀ i, i < n → lo i ≤ lo (i + 1)) : ∀ k, k ≤ n → ∀ i, i ≤ k → lo i ≤ lo k := fun k => by
  induction k with
  | zero => intro _ i hi; have : i = 0 := by omega
            subst this; exact Nat.le_refl _
  | succ k ih =>
    intro hk i hi
    rcases Nat.lt_or_ge i (k + 1) with h | h
    · exact Nat.le_trans (ih (by omega) i (by omega)) (h5 k (by omega))
    · have : i = k + 1 := by omega
      subst this; exact Nat.le_refl _
/-- What is not within the copy's blocks may change. -/
theorem CopyT.far {eN eI eV : TypeId} {base top : Nat} {w w' : World} {v : Value} {l : List Nd} (h : CopyT eN eI eV base top w v l) (hk : ∀ b, base ≤ b → b < top → w'.heap[b]? = w.heap[b]?) (hs : w.heap.size ≤ w'.heap.size) : CopyT eN eI eV base top w' v l := by
  obtain ⟨cs, lo, h1, h2, h3, h4, h5, h6, h7, h8⟩ := h
  have hm := lo_mono h5
  refine ⟨cs, lo, h1, ownsRow_block h2 (fun b hb => hk b (h2.lt b hb).1 ?_), h3, h4, h5, h6, Nat.le_trans h7 hs, fun i hi hc => (h8 i hi hc).far (fun b hb1 hb2 => hk b ?_ ?_)⟩
  · have := h3 b hb; have := hm l.length (Nat.le_refl _) 0 (by omega); omega
  · have := hm i (by omega) 0 (by omega); omega
  · have := hm l.length (Nat.le_refl _) (i + 1) (by omega); omega
theorem CopyT.ext {eN eI eV : TypeId} {base top : Nat} {w w' : World} {v : Value} {l : List Nd} (h : CopyT eN eI eV base top w v l) (hE : Ext w w') : CopyT eN eI eV base top w' v l := by
  have ht : top ≤ w.heap.size := by obtain ⟨_, _, _, _, _, _, _, _, h7, _⟩ := h; exact h7
  exact h.far (fun b _ hb => hE.block b (by omega)) hE.size
theorem CopyT.row {eN eI eV : TypeId} {base top : Nat} {w : World} {v : Value} {l : List Nd} (h : CopyT eN eI eV base top w v l) : ndE.Row w l v := by
  obtain ⟨cs, lo, h1, h2, h3, h4, h5, h6, h7, h8⟩ := h
  exact ndRow_parts h1 h2 (fun i hi hc => ⟨(h8 i hi hc).cells, (h8 i hi hc).v⟩)
theorem CopyT.slice {eN eI eV : TypeId} {base top : Nat} {w : World} {v : Value} {l : List Nd} (h : CopyT eN eI eV base top w v l) : (l = [] ∧ v = .slice none 0 0) ∨ ∃ g c, v = .slice (some ⟨g, 0, none⟩) l.length c ∧ l.length ≤ c ∧ base ≤ g ∧ g < top := by
  obtain ⟨cs, lo, h1, h2, h3, h4, h5, h6, h7, h8⟩ := h
  rcases h2.2 with ⟨e, e2⟩ | ⟨g, cap, cur, e, hb, hg, hl, _⟩
  · exact .inl ⟨List.eq_nil_of_length_eq_zero e2, e⟩
  · subst e
    exact .inr ⟨g, cap, rfl, hl, (h2.lt g rfl).1, by have := h3 g rfl; have := lo_mono h5 l.length (Nat.le_refl _) 0 (by omega); omega⟩
/-- The slices of a node within a window. -/
theorem NdW.open {eI eV : TypeId} {p q : Nat} {w : World} {n : Nd} {C : List Value} (h : NdW eI eV p q w n C) {O : Nat → Prop} {g P : Nat} (hO : ∀ b, p ≤ b → b < q → O b ∧ b ≠ g ∧ b ≠ P) : OpenSl O w g P 1 (C.getD 6 .nilFunc) ∧ OpenSl O w g P 4 (C.getD 15 .nilFunc) := by
  obtain ⟨a, m, c, k, N, S, d, F, rfl, h1, h2, h3, h4, h5⟩ := h
  refine ⟨OpenSl.own (show w.ownsRow p eI 1 (.slice a m c) n.after.length (n.after.map (Value.int .i64)) from h1) (fun b hb => hO b (World.ownsRow.lt h1 b hb).1 (h2 b hb).1), ?_⟩
  obtain ⟨kk, nn, ss, ll, hv⟩ : ∃ kk nn ss ll, n.val = .node kk nn ss ll := by cases h : n.val with | node k n s l => exact ⟨k, n, s, l, rfl⟩
  rw [hv] at h3
  obtain ⟨d', e, -, -, C, G, hrow, hch, hF, -⟩ := h3.parts
  injection e with e
  injection e with e
  simp only [List.cons.injEq, and_true] at e
  obtain ⟨-, -, -, rfl⟩ := e
  exact OpenSl.own hrow (fun b hb => hO b (hrow.lt b hb).1 (h4 b ((hF b).2 (.inl hb))))
theorem CopyT.rig {eN eI eV : TypeId} {base top : Nat} {w : World} {v : Value} {l : List Nd} (h : CopyT eN eI eV base top w v l) {O : Nat → Prop} {p : Nat} (hO : ∀ b, base ≤ b → b < top → O b ∧ b ≠ p) : RigN eN O p w v l := by
  obtain ⟨cs, lo, h1, h2, h3, h4, h5, h6, h7, h8⟩ := h
  have hm := lo_mono h5
  have htop := hm l.length (Nat.le_refl _) 0 (by omega)
  refine ⟨cs, h1, ownsRow_base h2 (Nat.zero_le _), fun g hg => hO g (h2.lt g hg).1 (by have := h3 g hg; omega), fun i hi hc => ⟨(h8 i hi hc).cells, (h8 i hi hc).v, fun g hg => (h8 i hi hc).open (fun b hb1 hb2 => ?_)⟩⟩
  have q1 := hm i (by omega) 0 (by omega)
  have q2 := hm l.length (Nat.le_refl _) (i + 1) (by omega)
  have q3 := h3 g hg
  obtain ⟨o1, o2⟩ := hO b (by omega) (by omega)
  exact ⟨o1, by omega, o2⟩
/-- One cell of a node of a copy is written. -/
theorem CopyT.put {eN eI eV : TypeId} {base top g cap i : Nat} {w : World} {l : List Nd} (h : CopyT eN eI eV base top w (.slice (some ⟨g, 0, none⟩) l.length cap) l) (hi : i < l.length) (j : Nat) (hj : j < 16) (u : Value) (n' : Nd)
    (hN : ∀ p q C, NdW eI eV p q w l[i] C → NdW eI eV p q w n' (C.set j u)) : CopyT eN eI eV base top (w.setCell ⟨g, i * 16 + j, none⟩ u) (.slice (some ⟨g, 0, none⟩) l.length cap) (l.set i n') ∧ w.grownBy (w.setCell ⟨g, i * 16 + j, none⟩ u) (some g) := by
  obtain ⟨cs, lo, h1, h2, h3, h4, h5, h6, h7, h8⟩ := h
  have hm := lo_mono h5
  have h16 : ∀ C, C ∈ cs → C.length = 16 := fun C hC => by
    obtain ⟨k, hk, rfl⟩ := List.getElem_of_mem hC
    exact (h8 k (by omega) hk).cells
  have hic : i < cs.length := by omega
  have st := h2.stored (i * 16 + j) u
  have hg0 := h3 g rfl
  rw [flat16_set cs i j u hic h16 hj] at st
  refine ⟨⟨cs.set i (cs[i].set j u), lo, by simp [h1], by rw [List.length_set]; exact st.1, h3, h4, by rw [List.length_set]; exact h5, by rw [List.length_set]; exact h6, Nat.le_trans h7 st.2.size, fun k hk hkc => ?_⟩, st.2⟩
  have hkl : k < l.length := by simpa using hk
  have hkc' : k < cs.length := by simpa using hkc
  have key : NdW eI eV (lo k) (lo (k + 1)) w (l.set i n')[k] (cs.set i (cs[i].set j u))[k] := by
    by_cases e : i = k
    · subst e
      rw [List.getElem_set_self, List.getElem_set_self]
      exact hN _ _ _ (h8 i hi hic)
    · rw [List.getElem_set_ne e, List.getElem_set_ne e]
      exact h8 k hkl hkc'
  refine key.far (fun b hb1 hb2 => st.2.block b ?_ (fun e => ?_))
  · have := hm l.length (Nat.le_refl _) (k + 1) (by omega); omega
  · injection e with e
    have := hm k (by omega) 0 (by omega)
    omega
/-- The node's cells. -/
theorem CopyT.at {eN eI eV : TypeId} {base top g cap i : Nat} {w : World} {l : List Nd} (h : CopyT eN eI eV base top w (.slice (some ⟨g, 0, none⟩) l.length cap) l) (hi : i < l.length) :
    ∃ (a : Option Addr) (m c : Nat) (k N s d : Value), NdV w l[i] (.agg (ndCells l[i] (.slice a m c) k N s d).toArray) ∧ (∀ j u, (ndCells l[i] (.slice a m c) k N s d)[j]? = some u → w.cell? ⟨g, i * 16 + j, none⟩ = some u) ∧ (∀ j, w.frozen? ⟨g, j, none⟩ = false) ∧ base ≤ g ∧ g < top ∧ g < w.heap.size ∧
      OwnN eI base w (.slice a m c) l[i].after ∧ (∀ b, (Value.slice a m c).ownBlock = some b → b < top ∧ b ≠ g) ∧
      ∀ (O : Nat → Prop) (p : Nat) (w2 : World) (v' : Value) (n' : Nd), (∀ b, base ≤ b → b < top → O b ∧ b ≠ p) → w.grownBy w2 (Value.slice a m c).ownBlock → OwnN eI base w2 v' n'.after → (∀ b, v'.ownBlock = some b → O b ∧ b ≠ g ∧ b ≠ p) →
        ndCells n' v' k N s d = (ndCells l[i] (.slice a m c) k N s d).set 6 v' → n'.val = l[i].val → ndWf n' → (∃ a' m' c', v' = .slice a' m' c') →
        w2.cell? ⟨g, i * 16 + 6, none⟩ = some (.slice a m c) ∧ w2.frozen? ⟨g, i * 16 + 6, none⟩ = false ∧ RigN eN O p (w2.setCell ⟨g, i * 16 + 6, none⟩ v') (.slice (some ⟨g, 0, none⟩) l.length cap) (l.set i n') ∧ w2.grownBy (w2.setCell ⟨g, i * 16 + 6, none⟩ v') (some g) := by
  obtain ⟨cs, lo, h1, h2, h3, h4, h5, h6, h7, h8⟩ := h
  have hm := lo_mono h5
  have h16 : ∀ C, C ∈ cs → C.length = 16 := fun C hC => by
    obtain ⟨k, hk, rfl⟩ := List.getElem_of_mem hC
    exact (h8 k (by omega) hk).cells
  have hic : i < cs.length := by omega
  have hg0 := h3 g rfl
  have hgt : g < top := by have := hm l.length (Nat.le_refl _) 0 (by omega); omega
  have hv := (h8 i hi hic).v
  obtain ⟨a, m, c, k, N, S, d, F, eC, k1, k2, k3, k4, k5⟩ := h8 i hi hic
  have hfl := flat16_all cs h16
  have l1 := hm i (by omega) 0 (by omega)
  have l2 := hm l.length (Nat.le_refl _) (i + 1) (by omega)
  have hblk : ∀ b, (Value.slice a m c).ownBlock = some b → lo i ≤ b ∧ b < lo (i + 1) := fun b hb => ⟨(World.ownsRow.lt k1 b hb).1, (k2 b hb).1⟩
  have hcell : ∀ w2 : World, w2.ownsRow base eN 16 (.slice (some ⟨g, 0, none⟩) l.length cap) l.length cs.flatten → ∀ j u, (ndCells l[i] (.slice a m c) k N S d)[j]? = some u → w2.cell? ⟨g, i * 16 + j, none⟩ = some u := fun w2 hr j u hu => by
    have hj : j < 16 := (List.getElem?_eq_some_iff.1 hu).1
    rw [hr.cellAt _ (by omega), flat16 cs i j hic h16 hj, eC]
    exact hu
  rw [eC] at hv
  refine ⟨a, m, c, k, N, S, d, hv, hcell w h2, fun j => h2.frozenAt _, (h2.lt g rfl).1, hgt, (h2.lt g rfl).2, ownsRow_mono k1 (by omega), fun b hb => ⟨by have := hblk b hb; omega, by have := hblk b hb; omega⟩, ?_⟩
  intro O p w2 v' n' hO hg hown hv' hcs hval hwf hsl
  have r2 : w2.ownsRow base eN 16 (.slice (some ⟨g, 0, none⟩) l.length cap) l.length cs.flatten := by
    refine ownsRow_block h2 (fun b hb => hg.block b (h2.lt b hb).2 (fun e => ?_))
    have := hblk b e.symm
    have := h3 b hb
    omega
  have st := r2.stored (i * 16 + 6) v'
  rw [flat16_set cs i 6 v' hic h16 (by omega)] at st
  refine ⟨hcell w2 r2 6 _ rfl, r2.frozenAt _, ⟨cs.set i (cs[i].set 6 v'), by simp [h1], ownsRow_mono (by rw [List.length_set]; exact st.1) (Nat.zero_le _), fun b hb => ?_, fun x hx hxc => ?_⟩, st.2⟩
  · obtain rfl : g = b := by injection hb
    exact hO g (h2.lt g rfl).1 hgt
  have hxl : x < l.length := by simpa using hx
  have hxc' : x < cs.length := by simpa using hxc
  by_cases e : i = x
  · subst e
    rw [List.getElem_set_self, List.getElem_set_self, eC, ← hcs]
    obtain ⟨w1, w3, w4, w5, w6, w7, w8, w9, w10, w11, w12⟩ := hwf
    obtain ⟨a', m', c', rfl⟩ := hsl
    have o2 : OwnN eI base (w2.setCell ⟨g, i * 16 + 6, none⟩ (.slice a' m' c')) (.slice a' m' c') n'.after := ownsRow_block hown (fun b hb => st.2.block b (World.ownsRow.lt hown b hb).2 (fun e => by injection e with e; exact (hv' b hb).2.1 e))
    have v2 : Owns eV (w2.setCell ⟨g, i * 16 + 6, none⟩ (.slice a' m' c')) (lo i) l[i].val (.agg #[k, N, S, d]) F := (k3.kept (fun b hb => hg.block b (k3.bounds b hb).2 (fun e => (k2 b e.symm).2 hb))).kept (fun b hb => st.2.block b (Nat.lt_of_lt_of_le (k3.bounds b hb).2 hg.size) (fun e => by injection e with e; have := (k3.bounds b hb).1; omega))
    refine ⟨rfl, ⟨a', m', c', k, N, S, d, rfl, o2.row w12, by rw [hval]; exact v2.lies, w1, w3, w4, w5, w6, w7, w8, w9, w10⟩, fun b hb => ?_⟩
    obtain rfl : g = b := by injection hb
    refine ⟨OpenSl.own (show World.ownsRow _ base eI 1 (.slice a' m' c') n'.after.length (n'.after.map (Value.int .i64)) from o2) hv', ?_⟩
    have nw : NdW eI eV (lo i) (lo (i + 1)) (w2.setCell ⟨g, i * 16 + 6, none⟩ (.slice a' m' c')) ⟨l[i].id, l[i].name, l[i].kind, l[i].flow, l[i].owner, l[i].place, [], l[i].width, l[i].quota, l[i].stand, l[i].fails, l[i].tok, l[i].val⟩ (ndCells l[i] (.slice none 0 0) k N S d) := by
      obtain ⟨y1, y2, y3, y4, y5, y6, y7, y8, y9, y10, y11⟩ := k5
      exact ⟨none, 0, 0, k, N, S, d, F, rfl, OwnN.nil _ _ _, fun b hb => by simp [Value.ownBlock] at hb, v2, k4, y1, y2, y3, y4, y5, y6, y7, y8, y9, y10, fun z hz => by cases hz⟩
    exact (nw.open (fun b hb1 hb2 => by
      obtain ⟨o1, o2⟩ := hO b (by omega) (by omega)
      exact ⟨o1, by omega, o2⟩)).2
  · rw [List.getElem_set_ne e, List.getElem_set_ne e]
    have m1 := hm x (by omega) 0 (by omega)
    have m2 := hm l.length (Nat.le_refl _) (x + 1) (by omega)
    have nw : NdW eI eV (lo x) (lo (x + 1)) (w2.setCell ⟨g, i * 16 + 6, none⟩ v') l[x] cs[x] := by
      refine ((h8 x hxl hxc').far (w' := w2) (fun b hb1 hb2 => hg.block b (by omega) (fun e2 => ?_))).far (fun b hb1 hb2 => st.2.block b (Nat.lt_of_lt_of_le (show b < w.heap.size by omega) hg.size) (fun e2 => ?_))
      · have := hblk b e2.symm
        rcases Nat.lt_or_ge i x with q | q
        · have := hm x (by omega) (i + 1) (by omega); omega
        · have := hm i (by omega) (x + 1) (by omega); omega
      · injection e2 with e2; omega
    refine ⟨nw.cells, nw.v, fun b hb => ?_⟩
    obtain rfl : g = b := by injection hb
    exact nw.open (fun b hb1 hb2 => by
      obtain ⟨o1, o2⟩ := hO b (by omega) (by omega)
      exact ⟨o1, by omega, o2⟩)
/-- A node more. -/
theorem CopyT.grow {eN eI eV : TypeId} {base top : Nat} {w : World} {v : Value} {l : List Nd} (h : CopyT eN eI eV base top w v l) : ∃ xs : List Value, w.ownsRow base eN 16 v l.length xs ∧
    ∀ (O : Nat → Prop) (p : Nat) (w' : World) (v' : Value) (n : Nd) (C : List Value), (∀ b, base ≤ b → b < top → O b ∧ b ≠ p) → C.length = 16 → w'.ownsRow base eN 16 v' (l.length + 1) (xs ++ C) → (∀ b, base ≤ b → b < top → v.ownBlock ≠ some b → w'.heap[b]? = w.heap[b]?) →
      (∀ b, v'.ownBlock = some b → v.ownBlock = some b ∨ (O b ∧ b ≠ p ∧ top ≤ b)) → NdV w' n (.agg C.toArray) → C.getD 6 .nilFunc = .slice none 0 0 → C.getD 15 .nilFunc = .slice none 0 0 → RigN eN O p w' v' (l ++ [n]) := by
  obtain ⟨cs, lo, h1, h2, h3, h4, h5, h6', h7, h8⟩ := h
  have hm := lo_mono h5
  have htop := hm l.length (Nat.le_refl _) 0 (by omega)
  refine ⟨cs.flatten, h2, ?_⟩
  intro O p w' v' n C hO hC hrow hg hat hn h6 h15
  refine ⟨cs ++ [C], by simp [h1], ownsRow_mono (by rw [List.length_append, List.flatten_append]; simpa using hrow) (Nat.zero_le _), fun b hb => ?_, fun i hi hic => ?_⟩
  · rcases hat b hb with q | q
    · exact hO b (h2.lt b q).1 (by have := h3 b q; omega)
    · exact ⟨q.1, q.2.1⟩
  · by_cases hil : i < l.length
    · have hil2 : i < cs.length := by omega
      rw [List.getElem_append_left hil, List.getElem_append_left hil2]
      have m1 := hm i (by omega) 0 (by omega)
      have m2 := hm l.length (Nat.le_refl _) (i + 1) (by omega)
      have nw : NdW eI eV (lo i) (lo (i + 1)) w' l[i] cs[i] := (h8 i hil hil2).far (fun b hb1 hb2 => hg b (by omega) (by omega) (fun e => by have := h3 b e; omega))
      refine ⟨nw.cells, nw.v, fun g hg' => nw.open (fun b hb1 hb2 => ?_)⟩
      obtain ⟨o1, o2⟩ := hO b (by omega) (by omega)
      refine ⟨o1, ?_, o2⟩
      rcases hat g hg' with q | q
      · have := h3 g q; omega
      · omega
    · have e1 : i = l.length := by simp at hi; omega
      subst e1
      have e2 : (cs ++ [C])[l.length]'hic = C := by rw [List.getElem_append_right (by omega)]; simp [h1]
      rw [List.getElem_append_right (Nat.le_refl _), e2]
      simp only [Nat.sub_self, List.getElem_cons_zero]
      refine ⟨hC, hn, fun g hg' => ?_⟩
      rw [h6, h15]
      exact ⟨⟨none, 0, 0, rfl, by omega, fun h => by omega⟩, ⟨none, 0, 0, rfl, by omega, fun h => by omega⟩⟩
theorem CopyT.n {eN eI eV : TypeId} {base top : Nat} {w : World} {v : Value} {l : List Nd} (h : CopyT eN eI eV base top w v l) : CopyN eN eI eV base w v l := by
  obtain ⟨cs, lo, h1, h2, h3, h4, h5, h6, h7, h8⟩ := h
  exact ⟨cs, lo, h1, h2, h3, h4, h5, Nat.le_trans h6 h7, h8⟩
theorem CopyN.kept {eN eI eV : TypeId} {base : Nat} {w w' : World} {v : Value} {l : List Nd} {row : Option Nat} (h : CopyN eN eI eV base w v l) (hg : w.grownBy w' row) (hr : ∀ b, row = some b → b < base) : CopyN eN eI eV base w' v l :=
  (h.top.far (fun b hb1 hb2 => hg.block b hb2 (fun e => by have := hr b e.symm; omega)) hg.size).n
theorem CopyT.size {eN eI eV : TypeId} {base top : Nat} {w : World} {v : Value} {l : List Nd} (h : CopyT eN eI eV base top w v l) : top ≤ w.heap.size := by
  obtain ⟨_, _, _, _, _, _, _, _, h7, _⟩ := h; exact h7
theorem CopyT.low {eN eI eV : TypeId} {base top : Nat} {w : World} {v : Value} {l : List Nd} (h : CopyT eN eI eV base top w v l) : base ≤ top := by
  obtain ⟨cs, lo, h1, h2, h3, h4, h5, h6, h7, h8⟩ := h
  have := lo_mono h5 l.length (Nat.le_refl _) 0 (by omega)
  omega
theorem CopyT.block {eN eI eV : TypeId} {base top : Nat} {w : World} {v : Value} {l : List Nd} (h : CopyT eN eI eV base top w v l) (b : Nat) (hb : v.ownBlock = some b) : base ≤ b ∧ b < top := by
  obtain ⟨cs, lo, h1, h2, h3, h4, h5, h6, h7, h8⟩ := h
  have := lo_mono h5 l.length (Nat.le_refl _) 0 (by omega)
  have := h3 b hb
  exact ⟨(h2.lt b hb).1, by omega⟩
end Fm

/- Two copies of a state, and what is written over: plain facts. No program is imported. -/
namespace Fm
open Go Go.RowKit

theorem BoxL.sets {w : World} {b : Nat} {vs us : List Value} (h : BoxL w b vs) (hn : us.length ≤ vs.length) : BoxL (w.setCells b 0 us) b us :=
  ⟨Nat.lt_of_lt_of_le h.lt (setCells_grown b us 0 w).size, (fun j u hu => by
    have := World.rangeAt_setCells_same w b 0 us (h.there hn) j u hu
    rwa [Nat.zero_add] at this), (fun j => by rw [World.frozen?_setCells]; exact h.free j)⟩
/-- Two copies, each in blocks of its own, and their boxes. -/
structure Two (eN eI eV : TypeId) (w0 w : World) (u1 u2 : List Value) (l : List Nd) (b1 b2 : Nat) (v1 v2 : Value) (p1 q1 p2 q2 : Nat) : Prop where
  e : Ext w0 w
  x1 : BoxL w b1 u1
  x2 : BoxL w b2 u2
  c1 : CopyT eN eI eV p1 q1 w v1 l
  c2 : CopyT eN eI eV p2 q2 w v2 l
  n1 : w0.heap.size ≤ b1
  n2 : w0.heap.size ≤ b2
  ne : b1 ≠ b2
  lo : w0.heap.size ≤ p1
  mid : q1 ≤ p2
  f11 : b1 < p1 ∨ q1 ≤ b1
  f12 : b1 < p2 ∨ q2 ≤ b1
  f21 : b2 < p1 ∨ q1 ≤ b2
  f22 : b2 < p2 ∨ q2 ≤ b2
theorem two_of {eN eI eV : TypeId} {w0 W : World} {z1 z2 u1 u2 : List Value} {l : List Nd} {b1 b2 : Nat} {v1 v2 : Value} {p1 q1 p2 q2 : Nat} (hE : Ext w0 W) (x1 : BoxL W b1 z1) (x2 : BoxL W b2 z2) (c1 : CopyT eN eI eV p1 q1 W v1 l) (c2 : CopyT eN eI eV p2 q2 W v2 l)
    (h1 : u1.length ≤ z1.length) (h2 : u2.length ≤ z2.length) (n1 : w0.heap.size ≤ b1) (n2 : w0.heap.size ≤ b2) (ne : b1 ≠ b2) (lo : w0.heap.size ≤ p1) (mid : q1 ≤ p2) (f11 : b1 < p1 ∨ q1 ≤ b1) (f12 : b1 < p2 ∨ q2 ≤ b1) (f21 : b2 < p1 ∨ q1 ≤ b2) (f22 : b2 < p2 ∨ q2 ≤ b2) :
    Two eN eI eV w0 ((W.setCells b1 0 u1).setCells b2 0 u2) u1 u2 l b1 b2 v1 v2 p1 q1 p2 q2 := by
  have g1 := setCells_grown b1 u1 0 W
  have g2 := setCells_grown b2 u2 0 (W.setCells b1 0 u1)
  have y1 := (x1.sets h1).kept g2 (fun e => by injection e with e; exact ne e.symm)
  have y2 := (x2.kept g1 (fun e => by injection e with e; exact ne e)).sets h2
  have s1 := c1.size
  have s2 := c2.size
  have z1 := g1.size
  refine ⟨(hE.grown g1 (fun k hk => by injection hk with hk; omega)).grown g2 (fun k hk => by injection hk with hk; omega), y1, y2,
    (c1.far (fun b k1 k2 => g1.block b (by omega) (fun e => by injection e with e; omega)) z1).far (fun b k1 k2 => g2.block b (by omega) (fun e => by injection e with e; omega)) g2.size,
    (c2.far (fun b k1 k2 => g1.block b (by omega) (fun e => by injection e with e; omega)) z1).far (fun b k1 k2 => g2.block b (by omega) (fun e => by injection e with e; omega)) g2.size, n1, n2, ne, lo, mid, f11, f12, f21, f22⟩
theorem Two.ext {eN eI eV : TypeId} {w0 w w' : World} {u1 u2 : List Value} {l : List Nd} {b1 b2 : Nat} {v1 v2 : Value} {p1 q1 p2 q2 : Nat} (h : Two eN eI eV w0 w u1 u2 l b1 b2 v1 v2 p1 q1 p2 q2) (hE : Ext w w') : Two eN eI eV w0 w' u1 u2 l b1 b2 v1 v2 p1 q1 p2 q2 :=
  ⟨h.e.trans hE, h.x1.ext hE, h.x2.ext hE, h.c1.ext hE, h.c2.ext hE, h.n1, h.n2, h.ne, h.lo, h.mid, h.f11, h.f12, h.f21, h.f22⟩
/-- What is open when the first of the two is changed: all that is new, but the second, and the boxes. -/
def OpT (w0 : World) (b1 b2 p2 q2 : Nat) (b : Nat) : Prop := w0.heap.size ≤ b ∧ (b < p2 ∨ q2 ≤ b) ∧ b ≠ b1 ∧ b ≠ b2
theorem Two.openB {eN eI eV : TypeId} {w0 w : World} {u1 u2 : List Value} {l : List Nd} {b1 b2 : Nat} {v1 v2 : Value} {p1 q1 p2 q2 : Nat} (h : Two eN eI eV w0 w u1 u2 l b1 b2 v1 v2 p1 q1 p2 q2) : ∀ b, p1 ≤ b → b < q1 → OpT w0 b1 b2 p2 q2 b ∧ b ≠ b1 := fun b k1 k2 => by
  have := h.lo; have := h.mid; have := h.f11; have := h.f21
  unfold OpT
  omega
theorem Two.openN {eN eI eV : TypeId} {w0 w : World} {u1 u2 : List Value} {l : List Nd} {b1 b2 : Nat} {v1 v2 : Value} {p1 q1 p2 q2 : Nat} (h : Two eN eI eV w0 w u1 u2 l b1 b2 v1 v2 p1 q1 p2 q2) : ∀ b, w.heap.size ≤ b → OpT w0 b1 b2 p2 q2 b ∧ b ≠ b1 := fun b k1 => by
  have := h.e.size; have := h.c2.size; have := h.x1.lt; have := h.x2.lt
  unfold OpT
  omega
theorem OpT.shut {w0 : World} {b1 b2 p2 q2 : Nat} : ¬ OpT w0 b1 b2 p2 q2 b1 := fun h => h.2.2.1 rfl
/-- Behind the first one's change: the second stands, and what is old. -/
structure Aft (eN eI eV : TypeId) (w0 w : World) (u2 : List Value) (l : List Nd) (b1 b2 : Nat) (v2 : Value) (p2 q2 : Nat) : Prop where
  e : Ext w0 w
  x2 : BoxL w b2 u2
  c2 : CopyT eN eI eV p2 q2 w v2 l
  n1 : w0.heap.size ≤ b1
  n2 : w0.heap.size ≤ b2
  ne : b1 ≠ b2
  f12 : b1 < p2 ∨ q2 ≤ b1
  lo : w0.heap.size ≤ p2
theorem Two.aft {eN eI eV : TypeId} {w0 w w' : World} {u1 u2 : List Value} {l : List Nd} {b1 b2 : Nat} {v1 v2 : Value} {p1 q1 p2 q2 : Nat} (h : Two eN eI eV w0 w u1 u2 l b1 b2 v1 v2 p1 q1 p2 q2) (hk : Keep (fun b => OpT w0 b1 b2 p2 q2 b ∨ b = b1) w w') : Aft eN eI eV w0 w' u2 l b1 b2 v2 p2 q2 := by
  have s2 := h.c2.size
  have k1 := h.c1.low
  have k2 := h.lo
  have k3 := h.mid
  have k4 := h.f12
  have k5 := h.n1
  have k6 := h.ne
  have hb2 := hk.block b2 h.x2.lt (fun q => by unfold OpT at q; omega)
  exact ⟨hk.toExt h.e (fun b hb q => by unfold OpT at q; omega), ⟨Nat.lt_of_lt_of_le h.x2.lt hk.size, fun j u hu => (World.cell?_of_block (a := ⟨b2, j, none⟩) hb2).trans (h.x2.cell j u hu), fun j => (World.frozen?_of_block (a := ⟨b2, j, none⟩) hb2).trans (h.x2.free j)⟩,
    h.c2.far (fun b q1 q2 => hk.block b (by omega) (fun q => by unfold OpT at q; omega)) hk.size, h.n1, h.n2, h.ne, h.f12, by omega⟩
theorem Aft.ext {eN eI eV : TypeId} {w0 w w' : World} {u2 : List Value} {l : List Nd} {b1 b2 : Nat} {v2 : Value} {p2 q2 : Nat} (h : Aft eN eI eV w0 w u2 l b1 b2 v2 p2 q2) (hE : Ext w w') : Aft eN eI eV w0 w' u2 l b1 b2 v2 p2 q2 :=
  ⟨h.e.trans hE, h.x2.ext hE, h.c2.ext hE, h.n1, h.n2, h.ne, h.f12, h.lo⟩
theorem Aft.keep {eN eI eV : TypeId} {w0 w w' : World} {u2 : List Value} {l : List Nd} {b1 b2 : Nat} {v2 : Value} {p2 q2 : Nat} (h : Aft eN eI eV w0 w u2 l b1 b2 v2 p2 q2) {k j : Nat} {u : Value} (ho : OpT w0 b1 b2 p2 q2 k) (hw : w' = w.setCell ⟨k, j, none⟩ u) : Aft eN eI eV w0 w' u2 l b1 b2 v2 p2 q2 := by
  subst hw
  have hg := setOne_grown w k j u
  unfold OpT at ho
  have s2 := h.c2.size
  exact ⟨h.e.grown hg (fun x hx => by injection hx with hx; omega), h.x2.kept hg (fun e => by injection e with e; omega), h.c2.far (fun b q1 q2 => hg.block b (by omega) (fun e => by injection e with e; omega)) hg.size, h.n1, h.n2, h.ne, h.f12, h.lo⟩
/-- While the first one is written over. -/
structure Lp (eN eI eV : TypeId) (w0 w : World) (u1 u2 : List Value) (l : List Nd) (b1 b2 : Nat) (v2 : Value) (p2 q2 g cap : Nat) (cs : List (List Value)) : Prop where
  a : Aft eN eI eV w0 w u2 l b1 b2 v2 p2 q2
  x1 : BoxL w b1 u1
  r : w.ownsRow 0 eN 16 (.slice (some ⟨g, 0, none⟩) cs.length cap) cs.length cs.flatten
  s : ∀ (i : Nat) (hi : i < cs.length), cs[i].length = 16 ∧ OpenSl (OpT w0 b1 b2 p2 q2) w g b1 1 (cs[i].getD 6 .nilFunc) ∧ OpenSl (OpT w0 b1 b2 p2 q2) w g b1 4 (cs[i].getD 15 .nilFunc)
theorem Lp.set {eN eI eV : TypeId} {w0 w : World} {u1 u2 : List Value} {l : List Nd} {b1 b2 : Nat} {v2 : Value} {p2 q2 g cap : Nat} {cs : List (List Value)} (h : Lp eN eI eV w0 w u1 u2 l b1 b2 v2 p2 q2 g cap cs) {k : Nat} (ho : OpT w0 b1 b2 p2 q2 k) (hg : k ≠ g) (j : Nat) (u : Value) :
    Lp eN eI eV w0 (w.setCell ⟨k, j, none⟩ u) u1 u2 l b1 b2 v2 p2 q2 g cap cs := by
  have hgr := setOne_grown w k j u
  refine ⟨h.a.keep ho rfl, h.x1.kept hgr (fun e => by injection e with e; exact ho.2.2.1 e), ownsRow_block h.r (fun b hb => hgr.block b (h.r.lt b hb).2 (fun e => ?_)), fun i hi => ⟨(h.s i hi).1, (h.s i hi).2.1.set _ _ _, (h.s i hi).2.2.set _ _ _⟩⟩
  injection e with e
  have hb : g = b := by injection hb
  omega
theorem Lp.at {eN eI eV : TypeId} {w0 w : World} {u1 u2 : List Value} {l : List Nd} {b1 b2 : Nat} {v2 : Value} {p2 q2 g cap : Nat} {cs : List (List Value)} (h : Lp eN eI eV w0 w u1 u2 l b1 b2 v2 p2 q2 g cap cs) (i : Nat) (hi : i < cs.length) :
    w.cell? ⟨g, i * 16 + 6, none⟩ = some (cs[i].getD 6 .nilFunc) ∧ w.cell? ⟨g, i * 16 + 12 + 3, none⟩ = some (cs[i].getD 15 .nilFunc) := by
  have h16 : ∀ C, C ∈ cs → C.length = 16 := fun C hC => by
    obtain ⟨k, hk, rfl⟩ := List.getElem_of_mem hC
    exact (h.s k hk).1
  have hfl := flat16_all cs h16
  have hl := (h.s i hi).1
  refine ⟨?_, ?_⟩
  · rw [h.r.cellAt (i * 16 + 6) (by omega), flat16 cs i 6 hi h16 (by omega), List.getD_eq_getElem?_getD, List.getElem?_eq_getElem (by omega)]; rfl
  · show w.cell? ⟨g, i * 16 + 15, none⟩ = _
    rw [h.r.cellAt (i * 16 + 15) (by omega), flat16 cs i 15 hi h16 (by omega), List.getD_eq_getElem?_getD, List.getElem?_eq_getElem (by omega)]; rfl
theorem RigN.lp {eN eI eV : TypeId} {w0 w : World} {u1 u2 : List Value} {l l' : List Nd} {b1 b2 : Nat} {v2 : Value} {p2 q2 : Nat} {a' : Option Addr} {c' : Nat} (h : RigN eN (OpT w0 b1 b2 p2 q2) b1 w (.slice a' l'.length c') l') (ha : Aft eN eI eV w0 w u2 l b1 b2 v2 p2 q2) (hx : BoxL w b1 u1) (hl : 0 < l'.length) :
    ∃ (g : Nat) (cs : List (List Value)), a' = some ⟨g, 0, none⟩ ∧ cs.length = l'.length ∧ Lp eN eI eV w0 w u1 u2 l b1 b2 v2 p2 q2 g c' cs := by
  obtain ⟨cs, h1, h2, h3, h4⟩ := h
  rcases h2.2 with ⟨e, e2⟩ | ⟨g, cap, cur, e, _⟩
  · omega
  · injection e with e1 e2 e3
    subst e1 e3
    exact ⟨g, cs, rfl, h1, ha, hx, by rw [h1]; exact h2, fun i hi => ⟨(h4 i (by omega) hi).1, (h4 i (by omega) hi).2.2 g rfl⟩⟩
end Fm
