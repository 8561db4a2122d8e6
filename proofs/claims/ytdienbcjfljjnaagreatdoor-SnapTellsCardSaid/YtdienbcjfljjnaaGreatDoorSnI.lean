/- Walks: snap's reader: all. -/
import Derived.Test.YtdienbcjfljjnaaGreatDoorSnRm
import Derived.Test.YtdienbcjfljjnaaGreatDoorSnA
import Derived.Test.YtdienbcjfljjnaaGreatDoorBoxS
import Derived.Test.YtdienbcjfljjnaaGreatDoorShelfF
import Derived.Test.YtdienbcjfljjnaaGreatDoorFrgM
import Derived.Test.YtdienbcjfljjnaaGreatDoorWireR
namespace Fm
open Go Go.RowKit

/-- A node in memory of its own from 'base' on; block g is none of it. -/
def NdIn (eI eV : TypeId) (base : Nat) (w : World) (n : Nd) (C : List Value) (g : Option Nat) : Prop :=
  ∃ (a : Option Addr) (m c : Nat) (k N S l : Value) (F : Nat → Prop), C = ndCells n (.slice a m c) k N S l ∧ OwnN eI base w (.slice a m c) n.after ∧ (∀ b, (Value.slice a m c).ownBlock = some b → g ≠ some b) ∧
    Owns eV w base n.val (.agg #[k, N, S, l]) F ∧ (∀ b, F b → g ≠ some b) ∧ ndWf n
theorem NdIn.cells {eI eV : TypeId} {base : Nat} {w : World} {n : Nd} {C : List Value} {g : Option Nat} (h : NdIn eI eV base w n C g) : C.length = 16 := by
  obtain ⟨a, m, c, k, N, S, l, F, rfl, -⟩ := h; rfl
theorem NdIn.v {eI eV : TypeId} {base : Nat} {w : World} {n : Nd} {C : List Value} {g : Option Nat} (h : NdIn eI eV base w n C g) : NdV w n (.agg C.toArray) := by
  obtain ⟨a, m, c, k, N, S, l, F, rfl, h1, -, h2, -, h3⟩ := h
  obtain ⟨w1, w2, w3, w4, w5, w6, w7, w8, w9, w10, w11⟩ := h3
  exact ⟨a, m, c, k, N, S, l, rfl, h1.row w11, h2.lies, w1, w2, w3, w4, w5, w6, w7, w8, w9⟩
theorem NdIn.keep {eI eV : TypeId} {base : Nat} {w w' : World} {n : Nd} {C : List Value} {g g' row : Option Nat} (h : NdIn eI eV base w n C g) (hg : w.grownBy w' row) (hr : ∀ b, row = some b → b < base ∨ g = some b) (hat : ∀ b, g' = some b → g = some b ∨ w.heap.size ≤ b) : NdIn eI eV base w' n C g' := by
  obtain ⟨a, m, c, k, N, S, l, F, rfl, h1, h2, h3, h4, h5⟩ := h
  refine ⟨a, m, c, k, N, S, l, F, rfl, ?_, fun b hb e => ?_, h3.grown hg (fun b hb hF => ?_), fun b hb e => ?_, h5⟩
  · refine World.ownsRow.kept h1 hg ?_
    cases hv : (Value.slice a m c).ownBlock with
    | none => exact .inl rfl
    | some b =>
      right; intro e
      rcases hr b e.symm with q | q
      · have := (World.ownsRow.lt h1 b hv).1; omega
      · exact h2 b hv q
  · rcases hat b e with q | q
    · exact h2 b hb q
    · have := (World.ownsRow.lt h1 b hb).2; omega
  · rcases hr b hb with q | q
    · have := (h3.bounds b hF).1; omega
    · exact h4 b hF q
  · rcases hat b e with q | q
    · exact h4 b hb q
    · have := (h3.bounds b hb).2; omega
/-- Nodes in memory of their own. -/
def OwnNds (eN eI eV : TypeId) (base : Nat) (w : World) (v : Value) (l : List Nd) : Prop :=
  ∃ cs : List (List Value), cs.length = l.length ∧ w.ownsRow base eN 16 v l.length cs.flatten ∧ ∀ (i : Nat) (hi : i < l.length) (hc : i < cs.length), NdIn eI eV base w l[i] cs[i] v.ownBlock
theorem OwnNds.nil (eN eI eV : TypeId) (base : Nat) (w : World) : OwnNds eN eI eV base w (.slice none 0 0) [] := ⟨[], rfl, World.ownsRow_nil w base eN 16, fun i hi => by simp at hi⟩
theorem OwnNds.kept {eN eI eV : TypeId} {base : Nat} {w w' : World} {v : Value} {l : List Nd} {row : Option Nat} (h : OwnNds eN eI eV base w v l) (hg : w.grownBy w' row) (hr : ∀ b, row = some b → b < base) : OwnNds eN eI eV base w' v l := by
  obtain ⟨cs, h1, h2, h3⟩ := h
  have hlt := h2.lt
  refine ⟨cs, h1, h2.kept hg ?_, fun i hi hc => (h3 i hi hc).keep hg (fun b hb => .inl (hr b hb)) (fun b hb => .inl hb)⟩
  cases hv : v.ownBlock with
  | none => exact .inl rfl
  | some b => right; exact fun e => by have := hr b e.symm; have := (hlt b hv).1; omega
theorem OwnNds.ext {eN eI eV : TypeId} {base : Nat} {w w' : World} {v : Value} {l : List Nd} (h : OwnNds eN eI eV base w v l) (hE : Ext w w') : OwnNds eN eI eV base w' v l := h.kept (row := none) hE.grownBy (fun b hb => by cases hb)
theorem NdIn.mono {eI eV : TypeId} {base base' : Nat} {w : World} {n : Nd} {C : List Value} {g : Option Nat} (h : NdIn eI eV base w n C g) (hb : base' ≤ base) : NdIn eI eV base' w n C g := by
  obtain ⟨a, m, c, k, N, S, l, F, rfl, h1, h2, h3, h4, h5⟩ := h
  exact ⟨a, m, c, k, N, S, l, F, rfl, h1.mono hb, h2, h3.mono hb, h4, h5⟩
theorem OwnNds.mono {eN eI eV : TypeId} {base base' : Nat} {w : World} {v : Value} {l : List Nd} (h : OwnNds eN eI eV base w v l) (hb : base' ≤ base) : OwnNds eN eI eV base' w v l := by
  obtain ⟨cs, h1, h2, h3⟩ := h
  exact ⟨cs, h1, ownsRow_base h2 hb, fun i hi hc => (h3 i hi hc).mono hb⟩
theorem OwnNds.row_lt {eN eI eV : TypeId} {base : Nat} {w : World} {v : Value} {l : List Nd} (h : OwnNds eN eI eV base w v l) (b : Nat) (hb : v.ownBlock = some b) : base ≤ b ∧ b < w.heap.size := by
  obtain ⟨cs, h1, h2, h3⟩ := h
  exact h2.lt b hb
theorem flat16 : ∀ (cs : List (List Value)) (i j : Nat) (hi : i < cs.length), (∀ C, C ∈ cs → C.length = 16) → j < 16 → cs.flatten[i * 16 + j]? = cs[i][j]?
  | [], i, _, hi, _, _ => by simp at hi
  | C :: cs, 0, j, _, h, hj => by
    have := h C (List.mem_cons_self ..)
    rw [List.flatten_cons, List.getElem?_append_left (by omega)]
    simp
  | C :: cs, i + 1, j, hi, h, hj => by
    have hC := h C (List.mem_cons_self ..)
    have ih := flat16 cs i j (by simpa using hi) (fun D hD => h D (List.mem_cons_of_mem _ hD)) hj
    rw [List.flatten_cons, List.getElem?_append_right (by omega)]
    have e : (i + 1) * 16 + j - C.length = i * 16 + j := by omega
    rw [e, ih]
    simp
theorem OwnNds.row {eN eI eV : TypeId} {base : Nat} {w : World} {v : Value} {l : List Nd} (h : OwnNds eN eI eV base w v l) : ndE.Row w l v := by
  obtain ⟨cs, h1, h2, h3⟩ := h
  have hc := fun g => World.ownsRow.cells h2 (g := g)
  have h16 : ∀ C, C ∈ cs → C.length = 16 := fun C hC => by
    obtain ⟨i, hi, rfl⟩ := List.getElem_of_mem hC
    exact (h3 i (by omega) hi).cells
  rcases h2.2 with ⟨rfl, h0⟩ | ⟨g, cap, cur, rfl, hb, hg, hl, hm, h5, h6⟩
  · have : l = [] := List.eq_nil_of_length_eq_zero h0
    subst this
    exact Elem.Row.void ndE w none
  · refine Elem.Row.mk rfl hl hm (Array.getElem?_eq_some_iff.1 hg).1 (fun i hi => ?_)
    have hd : i < cs.length := by omega
    have hn := h3 i hi hd
    refine ⟨fun j => cs[i].getD j .nilFunc, ?_, fun j hj => ?_⟩
    · obtain ⟨a, m, c, k, N, S, x, F, e, k1, -, k2, -, k3⟩ := hn
      obtain ⟨w1, w2, w3, w4, w5, w6, w7, w8, w9, w10, w11⟩ := k3
      rw [e]
      exact ⟨⟨rfl, rfl, rfl, rfl, rfl, rfl⟩, k1.row w11, ⟨rfl, rfl, rfl, rfl, rfl⟩, k2.lies, w1, w2, w3, w4, w5, w6, w7, w8, w9⟩
    · have hj16 : j < 16 := hj
      have hlen := hn.cells
      have := hc g rfl (i * 16 + j) (cs[i].getD j .nilFunc) (by
        rw [flat16 cs i j hd h16 hj16, List.getD_eq_getElem?_getD, List.getElem?_eq_getElem (by omega)]; rfl)
      rw [Addr.add_lit] at this
      exact this
theorem OwnNds.snoc {eN eI eV : TypeId} {base : Nat} {w w' : World} {v v' : Value} {l : List Nd} {n : Nd} {C : List Value} {cs : List (List Value)} (h1 : cs.length = l.length)
    (h3 : ∀ (i : Nat) (hi : i < l.length) (hc : i < cs.length), NdIn eI eV base w l[i] cs[i] v.ownBlock) (hn : NdIn eI eV base w n C v.ownBlock)
    (hrow : w'.ownsRow base eN 16 v' (l.length + 1) (cs.flatten ++ C)) (hg : w.grownBy w' v.ownBlock) (hat : v'.ownBlock = v.ownBlock ∨ v'.ownBlock = some w.heap.size) : OwnNds eN eI eV base w' v' (l ++ [n]) := by
  have keep : ∀ (m : Nd) (D : List Value), NdIn eI eV base w m D v.ownBlock → NdIn eI eV base w' m D v'.ownBlock := fun m D h =>
    h.keep hg (fun b hb => .inr hb) (fun b hb => by
      rcases hat with e | e
      · left; rw [← e]; exact hb
      · right; rw [e] at hb; injection hb with hb; omega)
  refine ⟨cs ++ [C], by simp [h1], by rw [List.length_append, List.flatten_append]; simpa using hrow, fun i hi hid => ?_⟩
  by_cases hil : i < l.length
  · have hil2 : i < cs.length := by omega
    rw [List.getElem_append_left hil, List.getElem_append_left hil2]
    exact keep _ _ (h3 i hil hil2)
  · have e1 : i = l.length := by simp at hi; omega
    subst e1
    have e2 : (cs ++ [C])[l.length]'hid = C := by rw [List.getElem_append_right (by omega)]; simp [h1]
    rw [List.getElem_append_right (Nat.le_refl _), e2]
    simp only [Nat.sub_self, List.getElem_cons_zero]
    exact keep _ _ hn
/-- A state in memory of its own. -/
def SnOwn (eN eI eV : TypeId) (base : Nat) (w : World) (s : Sn) (v : Value) : Prop :=
  ∃ (a : Option Addr) (m c : Nat), v = .agg #[.int .i64 s.cq, .int .i64 s.cd, .int .i64 s.cw, .int .i64 s.cr, .int .i64 s.cf, .int .i64 s.flows, .slice a m c, .int .i64 s.tok] ∧ OwnNds eN eI eV base w (.slice a m c) s.nodes ∧
    isI64 s.cq ∧ isI64 s.cd ∧ isI64 s.cw ∧ isI64 s.cr ∧ isI64 s.cf ∧ isI64 s.flows ∧ isI64 s.tok
theorem SnOwn.v {eN eI eV : TypeId} {base : Nat} {w : World} {s : Sn} {v : Value} (h : SnOwn eN eI eV base w s v) : SnV w s v := by
  obtain ⟨a, m, c, h1, h2, h3⟩ := h
  exact ⟨a, m, c, h1, h2.row, h3⟩
theorem SnOwn.kept {eN eI eV : TypeId} {base : Nat} {w w' : World} {s : Sn} {v : Value} {row : Option Nat} (h : SnOwn eN eI eV base w s v) (hg : w.grownBy w' row) (hr : ∀ b, row = some b → b < base) : SnOwn eN eI eV base w' s v := by
  obtain ⟨a, m, c, h1, h2, h3⟩ := h
  exact ⟨a, m, c, h1, h2.kept hg hr, h3⟩
theorem SnOwn.ext {eN eI eV : TypeId} {base : Nat} {w w' : World} {s : Sn} {v : Value} (h : SnOwn eN eI eV base w s v) (hE : Ext w w') : SnOwn eN eI eV base w' s v := h.kept (row := none) hE.grownBy (fun b hb => by cases hb)

/-! ### Parse's steps -/
def tA (xs : List UInt8) := allR fH (some xs)
def tB (xs : List UInt8) := numR 0 hiK (tA xs).2
def tC (xs : List UInt8) := numR 0 4800 (tB xs).2
theorem sn_chain {xs ys : List UInt8} (h : (tC xs).2 = some ys) : readSn xs = (readM readNd (tC xs).1.toNat ys).bind fun d => some (mkSn (tA xs).1 (tB xs).1 d.1, d.2) := by
  obtain ⟨b, hB, eC⟩ := numR_inv h
  obtain ⟨a, hA, eB⟩ := numR_inv hB
  obtain ⟨x, hx, eA⟩ := allR_some _ _ _ hA
  injection hx with hx
  subst hx
  have eA : readN fH xs = some ((tA xs).1, a) := eA
  have eB : hdR 0 hiK a = some ((tB xs).1, b) := eB
  have eC : hdR 0 4800 b = some ((tC xs).1, ys) := eC
  unfold readSn
  rw [eA, Option.bind_some]
  simp only
  rw [eB, Option.bind_some]
  simp only
  rw [eC, Option.bind_some]
theorem sn_dead {xs : List UInt8} (h : (tC xs).2 = none) : readSn xs = none := by
  unfold readSn
  cases eA : readN fH xs with
  | none => rfl
  | some a =>
  have hA : (tA xs).2 = some a.2 := by
    unfold tA
    cases h : (allR fH (some xs)).2 with
    | none => rw [allR_none _ _ h] at eA; cases eA
    | some r =>
      obtain ⟨ys, h1, h2⟩ := allR_some _ _ _ h
      injection h1 with h1
      subst h1
      rw [eA] at h2
      injection h2 with h2
      rw [h2]
  rw [Option.bind_some]
  cases eB : hdR 0 hiK a.2 with
  | none => rfl
  | some b =>
  have hB : (tB xs).2 = some b.2 := by unfold tB; rw [hA, numR_some eB]
  rw [Option.bind_some]
  cases eC : hdR 0 4800 b.2 with
  | none => rfl
  | some c =>
    exfalso
    unfold tC at h
    rw [hB, numR_some eC] at h
    cases h
/-- One node more is read. -/
theorem nodes_step {ys r : List UInt8} {j : Nat} {l : List Nd} (h : readM readNd j ys = some (l, r)) {n : Nd} {r2 : List UInt8} (h2 : readNd r = some (n, r2)) : readM readNd (j + 1) ys = some (l ++ [n], r2) := by
  rw [readM_snoc, h, Option.bind_some, h2]; rfl
theorem nodes_stop {ys r : List UInt8} {j k : Nat} {l : List Nd} (h : readM readNd j ys = some (l, r)) (h2 : readNd r = none) (hk : j + 1 ≤ k) : readM readNd k ys = none := by
  refine readM_none readNd (i := j + 1) ?_ hk
  rw [readM_snoc, h, Option.bind_some, h2]; rfl
theorem parseS_of {xs : List UInt8} {z : Option (Sn × List UInt8)} (h : readSn xs = z) : parseS xs = z.bind fun p => if p.2 = [] then some p.1 else none := by unfold parseS; rw [h]
def snZ : Sn := ⟨0, 0, 0, 0, 0, 0, [], 0⟩

/-! ### what Parse's walk holds -/
def z8 : List Value := [.int .i64 0, .int .i64 0, .int .i64 0, .int .i64 0, .int .i64 0, .int .i64 0, .slice none 0 0, .int .i64 0]
structure PSt (w wr : World) (ss : List Value) : Prop where
  e : Ext w wr
  pb : BoxL wr w.heap.size z8
  sb : BoxL wr (w.heap.size + 1 + 1) ss
theorem PSt.then {w wr wx : World} {ss : List Value} (h : PSt w wr ss) (hE : Ext wr wx) : PSt w wx ss := ⟨h.e.trans hE, h.pb.ext hE, h.sb.ext hE⟩
theorem PSt.step {w wr wx : World} {ss : List Value} (h : PSt w wr ss) (hg : wr.grownBy wx (some (w.heap.size + 1))) : PSt w wx ss :=
  ⟨h.e.grown hg (fun k hk => by injection hk with hk; omega), h.pb.kept hg (fun e => by injection e with e; omega), h.sb.kept hg (fun e => by injection e with e; omega)⟩
theorem PSt.far {w wr wx : World} {ss : List Value} (h : PSt w wr ss) {row : Option Nat} (hg : wr.grownBy wx row) (hr : ∀ k, row = some k → w.heap.size + 1 + 1 < k) : PSt w wx ss :=
  ⟨h.e.grown hg (fun k hk => by have := hr k hk; omega), h.pb.kept hg (fun e => by have := hr _ e; omega), h.sb.kept hg (fun e => by have := hr _ e; omega)⟩
theorem PSt.set {w wr : World} {ss : List Value} (h : PSt w wr ss) (j : Nat) (hj : j < ss.length) (u : Value) : PSt w (wr.setCell ⟨w.heap.size + 1 + 1, j, none⟩ u) (ss.set j u) := by
  have hg := setOne_grown wr (w.heap.size + 1 + 1) j u
  exact ⟨h.e.grown hg (fun k hk => by injection hk with hk; omega), h.pb.kept hg (fun e => by injection e with e; omega), h.sb.set j hj u⟩
def snC (a b c d e f : Int) (l : Value) (t : Int) : List Value := [.int .i64 a, .int .i64 b, .int .i64 c, .int .i64 d, .int .i64 e, .int .i64 f, l, .int .i64 t]
def JH (w : World) (ns : List Int) (wr : World) : Prop := PSt w wr (snC (ns.getD 0 0) (ns.getD 1 0) (ns.getD 2 0) (ns.getD 3 0) (ns.getD 4 0) (ns.getD 5 0) zV 0)
theorem JH_step {w a b : World} {ns : List Int} {n : Int} {f : Fld} (h : JH w ns a) (hf : (headF (w.heap.size + 1 + 1))[ns.length]? = some f) (hg : a.grownBy b (some (w.heap.size + 1))) : JH w (ns ++ [n]) (b.setCell ⟨f.b, f.off, none⟩ (.int .i64 n)) := by
  match ns, hf with
  | [], hf => simp only [headF, List.length_nil, List.getElem?_cons_zero, Option.some.injEq] at hf; subst hf; exact (PSt.step h hg).set 0 (by simp [snC]) _
  | [x], hf => simp [headF] at hf; subst hf; exact (PSt.step h hg).set 1 (by simp [snC]) _
  | [x, y], hf => simp [headF] at hf; subst hf; exact (PSt.step h hg).set 2 (by simp [snC]) _
  | [x, y, z], hf => simp [headF] at hf; subst hf; exact (PSt.step h hg).set 3 (by simp [snC]) _
  | [x, y, z, u], hf => simp [headF] at hf; subst hf; exact (PSt.step h hg).set 4 (by simp [snC]) _
  | [x, y, z, u, v], hf => simp [headF] at hf; subst hf; exact (PSt.step h hg).set 5 (by simp [snC]) _
  | _ :: _ :: _ :: _ :: _ :: _ :: l, hf => simp [headF] at hf
theorem JH_cell {w a : World} {ns : List Int} {f : Fld} (h : JH w ns a) (hf : f ∈ headF (w.heap.size + 1 + 1)) : ∃ u, a.cell? ⟨f.b, f.off, none⟩ = some u ∧ a.frozen? ⟨f.b, f.off, none⟩ = false := by
  simp only [headF, List.mem_cons, List.not_mem_nil, or_false] at hf
  rcases hf with rfl | rfl | rfl | rfl | rfl | rfl
  · exact h.sb.has 0 (by simp [snC])
  · exact h.sb.has 1 (by simp [snC])
  · exact h.sb.has 2 (by simp [snC])
  · exact h.sb.has 3 (by simp [snC])
  · exact h.sb.has 4 (by simp [snC])
  · exact h.sb.has 5 (by simp [snC])
theorem head_far {n : Nat} {f : Fld} (hf : f ∈ headF n) : f.b = n := by
  simp only [headF, List.mem_cons, List.not_mem_nil, or_false] at hf
  rcases hf with rfl | rfl | rfl | rfl | rfl | rfl <;> rfl
/-- How far the nodes are read. -/
def Far (eN eI eV : TypeId) (w : World) (xs : List UInt8) (j : Nat) (st : Option (List UInt8)) (wr : World) (a : Option Addr) (m c : Nat) : Prop :=
  (st = none → readSn xs = none) ∧ ∀ r, st = some r → ∃ ys l, (tC xs).2 = some ys ∧ readM readNd j ys = some (l, r) ∧ OwnNds eN eI eV (w.heap.size + 1 + 1 + 1) wr (.slice a m c) l
end Fm

open Go.RowKit Go.Shelf
namespace Go.Proofs.YtdienbcjfljjnaaGreatDoor
open Go Go.Proofs Fm

theorem OwnB_far {base : Nat} {w : World} {v : Value} {xs : List UInt8} (h : OwnB base w v xs) {B : Nat} (hB : B < base) (j : Nat) (u : Value) : OwnB base (w.setCell ⟨B, j, none⟩ u) v xs := by
  refine World.ownsRow.kept h (setOne_grown w B j u) ?_
  cases hv : v.ownBlock with
  | none => exact .inl rfl
  | some b => right; intro e; injection e with e; have := (World.ownsRow.lt h b hv).1; omega
theorem OwnB.slice {base : Nat} {w : World} {v : Value} {xs : List UInt8} (h : OwnB base w v xs) : ∃ a m c, v = .slice a m c := by
  obtain ⟨a, c, e, -⟩ := h.bytes; exact ⟨a, _, c, e⟩
/-- What putting a number in a box of bytes comes to. -/
def PutPost (w : World) (B : Nat) (zs : List UInt8) (e : Ending) (w' : World) : Prop :=
  ∃ (a : Option Addr) (m c : Nat), e = .returned (.tuple #[]) ∧ w'.cell? ⟨B, 0, none⟩ = some (.slice a m c) ∧ w'.frozen? ⟨B, 0, none⟩ = false ∧ OwnB w.heap.size w' (.slice a m c) zs ∧ w.grownBy w' (some B)

set_option maxRecDepth 100000 in
set_option maxHeartbeats 4000000 in
theorem nums1_any (f : Fld) (n : Int) (w : World) (B : Nat) (v : Value) (xs : List UInt8) (hv : w.cell? ⟨B, 0, none⟩ = some v) (hf : w.frozen? ⟨B, 0, none⟩ = false) (hB : B < w.heap.size) (hx : Bytes w v xs) (hs : xs.length ≤ 1099511627776)
    (hc : w.cell? ⟨f.b, f.off, none⟩ = some (.int .i64 n)) (hb : f.b < w.heap.size) (hn : isI64 n) :
    Calls Tryz.prog 78 #[.agg #[.pointer (some ⟨f.b, f.off, none⟩), .int .i64 f.lo, .int .i64 f.hi], .pointer (some ⟨B, 0, none⟩)] w (PutPost w B (xs ++ numB n)) := by
  have h1 := BoxL.new w [.pointer (some ⟨f.b, f.off, none⟩), .int .i64 f.lo, .int .i64 f.hi] 111
  have hE := (Ext.refl w).alloc (.cells #[.pointer (some ⟨f.b, f.off, none⟩), .int .i64 f.lo, .int .i64 f.hi] 111)
  have c := (hE.cell (p := ⟨f.b, f.off, none⟩) hb).trans hc
  have d := (hE.cell (p := ⟨B, 0, none⟩) hB).trans hv
  have HF := Lib.hid ((hE.frozen (p := ⟨B, 0, none⟩) hB).trans hf)
  have HX := Lib.hid (hx.ext hE)
  obtain ⟨av, cv, rfl, -⟩ := id hx
  generalize xs.length = lx at *
  clear hc hb hv hf hx
  go_enter Tryz.func78, Tryz.ntmps78
  go_wp2_with fail
  have hz : (w.alloc (.cells #[.pointer (some ⟨f.b, f.off, none⟩), .int .i64 f.lo, .int .i64 f.hi] 111)).heap.size = w.heap.size + 1 := by simp
  generalize w.alloc (.cells #[.pointer (some ⟨f.b, f.off, none⟩), .int .i64 f.lo, .int .i64 f.hi] 111) = W1 at *
  have p0 := h1.cell 0 _ rfl
  have HE := Lib.hid hE
  clear h1 hE
  go_still_tail 5, (by kernel_rfl)
  change wpList _ _ _ _ _ W1.drew
  have hB1 : B < W1.heap.size := by omega
  have hE2 := (Ext.refl W1).drew
  have HX2 := Lib.hid (HX.out.ext hE2)
  have HF2 := Lib.hid ((hE2.frozen (p := ⟨B, 0, none⟩) hB1).trans HF.out)
  have d2 := (hE2.cell (p := ⟨B, 0, none⟩) hB1).trans d
  have hz2 := hE2.size
  have HE2 := Lib.hid (HE.out.trans hE2)
  clear c d HX HF HE p0 hE2
  generalize W1.drew = W2 at *
  go_wp2_with fail
  refine (num_any _ xs W2 HX2.out (by have := HX2.out; have := this.length_le; obtain ⟨_, _, e, _⟩ := HX2.out; injection e with _ e; omega) n hn).mono ?_
  rintro e w3 ⟨v3, rfl, r3⟩
  have HO3 := Lib.hid r3.own
  obtain ⟨a3, m3, c3, rfl⟩ := r3.own.slice
  have hE3 := r3.2
  have hB2 : B < W2.heap.size := by omega
  have f3 := (hE3.frozen (p := ⟨B, 0, none⟩) hB2).trans HF2.out
  have d3 := (hE3.cell (p := ⟨B, 0, none⟩) hB2).trans d2
  have HP : Hid (PutPost w B (xs ++ numB n) (.returned (.tuple #[])) (w3.setCell ⟨B, 0, none⟩ (.slice a3 m3 c3))) := Lib.hid
    ⟨a3, m3, c3, rfl, World.cell?_setCell_same _ _ _ d3, by rw [World.frozen?_setCell]; exact f3, (OwnB_far HO3.out (by omega) 0 _).mono (by omega), grown_trans (grown_ext (HE2.out.trans hE3) _) (setOne_grown w3 B 0 _)⟩
  clear r3 hE3 HX2 HF2 d2 HE2 HO3
  go_wp2
  exact bodyPost_end (by simp [results, Tryz.results78, go_sem]) rfl HP.out

set_option maxRecDepth 100000 in
set_option maxHeartbeats 4000000 in
theorem nums_any (fs : List Fld) (ns : List Int) (w : World) (b v : Value) (xs : List UInt8) (hb : Bytes w b xs) (hr : fdE.Row w fs v) (hp : Pts w fs ns) (h0 : 0 < fs.length) (hs : xs.length + (numsB ns).length ≤ 1000000000) :
    Calls Tryz.prog 32 #[b, v] w (RetBytes w (xs ++ numsB ns)) := by
  obtain ⟨a, cap, rfl, h1, h2⟩ := hr.slice
  obtain ⟨av, cv, rfl, -⟩ := id hb
  have HR := Lib.hid hr
  have HP := Lib.hid hp
  have hll : fs.length ≤ 9223372036854775807 := by omega
  have hE0 := (Ext.refl w).alloc (.cells #[.slice av xs.length cv] 27)
  have h3 := BoxL.new w [.slice av xs.length cv] 27
  have HB0 := Lib.hid (hb.ext hE0)
  have HX0 := Lib.hid (show Ext w (w.alloc (.cells #[.slice av xs.length cv] 27)) from hE0)
  have HC0 := Lib.hid (h3.cell 0 _ rfl)
  have HF0 := Lib.hid (h3.free 0)
  have hz0 : (w.alloc (.cells #[.slice av xs.length cv] 27)).heap.size = w.heap.size + 1 := by simp
  clear hr hp hb h1 h2 hE0 h3
  go_enter Tryz.func32, Tryz.ntmps32
  go_wp2_with fail
  generalize w.alloc (.cells #[.slice av xs.length cv] 27) = W0 at *
  go_loopw [11] (fun i wr => ∃ j : Nat, j ≤ fs.length ∧ i = .int .i64 j ∧ ∃ u, Hid (wr.cell? ⟨w.heap.size, 0, none⟩ = some u) ∧ Hid (wr.frozen? ⟨w.heap.size, 0, none⟩ = false) ∧ Hid (Bytes wr u (xs ++ numsB (ns.take j))) ∧ Hid (0 < j → OwnB w.heap.size wr u (xs ++ numsB (ns.take j))) ∧ Hid (Ext w wr) ∧ w.heap.size < wr.heap.size) (fun i _ => fs.length - (intOf i).toNat)
  case atStart => exact ⟨0, by omega, rfl, _, HC0, HF0, Lib.hid (by rw [List.take_zero, numsB_nil, List.append_nil]; exact HB0.out), Lib.hid (fun h => by omega), HX0, by omega⟩
  case round =>
    clear HB0 HC0 HF0 HX0
    obtain ⟨j, hj, rfl, u, HC, HF, HB, HO, HE, hz⟩ := hrel
    by_cases hlt : j < fs.length
    · obtain ⟨fb, off, rfl, hfb, c0, c1, c2⟩ := fd_at HR.out HE.out j hlt
      have hn : j < ns.length := by rw [HP.out.1]; exact hlt
      have HPj := Lib.hid ((HP.out.ext HE.out).2 j hlt hn)
      have HS : Hid ((xs ++ numsB (ns.take j)).length ≤ 1099511627776) := Lib.hid (by
        have := flat_take_le numB ns j
        unfold numsB at hs ⊢
        rw [List.length_append]; omega)
      have HN : Hid (xs ++ numsB (ns.take j) ++ numB ns[j] = xs ++ numsB (ns.take (j + 1))) := Lib.hid (by
        unfold numsB
        rw [flat_at numB ns j hn, List.append_assoc])
      have hj0 : (0 : Int) ≤ (j : Int) := by omega
      go_wp2_with fail
      have hE1 := (Ext.refl wr).alloc (.cells #[.pointer (some ⟨fs[j].b, fs[j].off, none⟩), .int .i64 fs[j].lo, .int .i64 fs[j].hi] 111)
      generalize wr.alloc (.cells #[.pointer (some ⟨fs[j].b, fs[j].off, none⟩), .int .i64 fs[j].lo, .int .i64 fs[j].hi] 111) = W1 at *
      have hz1 := hE1.size
      have HW1 := Lib.hid (HE.out.trans hE1)
      refine (nums1_any fs[j] ns[j] W1 w.heap.size u _ ((hE1.cell (p := ⟨w.heap.size, 0, none⟩) hz).trans HC.out) ((hE1.frozen (p := ⟨w.heap.size, 0, none⟩) hz).trans HF.out) (by omega) (HB.out.ext hE1) HS.out
        ((hE1.cell (p := ⟨fs[j].b, fs[j].off, none⟩) HPj.out.2.1).trans HPj.out.1) (Nat.lt_of_lt_of_le HPj.out.2.1 hz1) HPj.out.2.2).mono ?_
      rintro e w2 ⟨a2, m2, k2, rfl, d2, f2, o2, g2⟩
      rw [HN.out] at o2
      have HC2 := Lib.hid d2
      have HF2 := Lib.hid f2
      have HO2 := Lib.hid (o2.mono (show w.heap.size ≤ W1.heap.size by omega))
      have HE2 := Lib.hid (HW1.out.grown g2 (fun x hx => by injection hx with hx; omega))
      have hz2 := g2.size
      clear d2 f2 o2 g2 hE1 c0 c1 c2 HC HF HB HO HE HW1
      go_wp2
      go_roundw
      case rel => exact ⟨j + 1, by omega, by go_num, _, HC2, HF2, Lib.hid HO2.out.bytes, Lib.hid (fun _ => HO2.out), HE2, by omega⟩
      case measure => simp [intOf]; omega
    · have hjn : j = fs.length := by omega
      have hO := HO.out (by omega)
      rw [hjn, ← HP.out.1, List.take_length] at hO
      obtain ⟨a2, m2, k2, hu⟩ := hO.slice
      have c := HC.out
      rw [hu] at c hO
      have HX : Hid (RetBytes w (xs ++ numsB ns) (.returned (.slice a2 m2 k2)) wr) := Lib.hid ⟨_, rfl, hO, HE.out⟩
      clear hO hjn HC HF HB HO HE hu
      go_wp2
      go_ret
      exact HX.out
end Go.Proofs.YtdienbcjfljjnaaGreatDoor

open Go.RowKit Go.Shelf
namespace Go.Proofs.YtdienbcjfljjnaaGreatDoor
open Go Go.Proofs Fm

set_option maxRecDepth 100000 in
set_option maxHeartbeats 2000000 in
theorem snum_any (low high : Int) {w0 w : World} {R : Nat} {s : Option (List UInt8)} (h : RdS w0 w R s) :
    Calls Tryz.prog 47 #[.pointer (some ⟨R, 0, none⟩), .int .i64 low, .int .i64 high] w (RdfPost w0 w R (.int .i64 (numR low high s).1) (numR low high s).2) := by
  obtain ⟨v, ys, hF, hys⟩ := h
  have H := Lib.hid hF
  have HY := Lib.hid hys
  have c0 := hF.c0
  have c1 := hF.c1
  have f0 := hF.f0
  have f1 := hF.f1
  clear hF hys
  obtain ⟨b, hb⟩ : ∃ b, b = s.isNone := ⟨_, rfl⟩
  have HB := Lib.hid hb
  rw [← hb] at c1
  clear hb
  go_enter Tryz.func47, Tryz.ntmps47
  go_wp2_with fail
  refine (takeNum_any v ys w (H.out.bytes.ext H.out.ext)).mono ?_
  intro e w1 hp
  unfold TakeNumPost at hp
  cases hN : takeN ys with
  | none =>
    rw [hN] at hp
    obtain ⟨rfl, rfl⟩ := hp
    have HX : Hid (numR low high s = (0, none)) := Lib.hid (by
      cases s with
      | none => rfl
      | some xs =>
        obtain rfl := HY.out xs rfl
        exact numR_bad (hdR_none (hdN_none hN)))
    have HP : Hid (RdfPost w0 w R (.int .i64 (numR low high s).1) (numR low high s).2 (.returned (.int .i64 0)) (w.setCell ⟨R, 1, none⟩ (.bool true))) := Lib.hid (by
      rw [HX.out]
      exact ⟨rfl, ⟨v, ys, H.out.setBad true, fun xs h => by cases h⟩, setOne_grown w R 1 _⟩)
    clear hN
    cases b
    all_goals
      go_wp2
      go_ret
      exact HP.out
  | some p =>
    obtain ⟨n, k⟩ := p
    rw [hN] at hp
    obtain ⟨nq, rfl, rfl⟩ := hp
    have hE : Ext w (w.drewN nq) := (Ext.refl w).drewN nq
    have hr := H.out.then hE
    have HR := Lib.hid hr
    have c0' := hr.c0
    have c1' := hr.c1
    have f0' := hr.f0
    have f1' := hr.f1
    rw [← HB.out] at c1'
    have HBad : Hid (numR low high s = (0, none) → RdfPost w0 w R (.int .i64 (numR low high s).1) (numR low high s).2 (.returned (.int .i64 0)) ((w.drewN nq).setCell ⟨R, 1, none⟩ (.bool true))) := Lib.hid (fun hx => by
      rw [hx]
      exact ⟨rfl, ⟨v, ys, HR.out.setBad true, fun xs h => by cases h⟩, grown_trans (grown_ext hE _) (setOne_grown _ R 1 _)⟩)
    cases s with
    | none =>
      have HP := Lib.hid (HBad.out (numR_none low high))
      obtain rfl : b = true := HB.out
      clear hN c0 c1 f0 f1 hE hr HBad
      go_wp2
      go_ret
      exact HP.out
    | some xs =>
      obtain rfl := HY.out xs rfl
      obtain rfl : b = false := HB.out
      have hNb : hdN ys = some (n, ys.drop k) := hdN_some hN
      by_cases hlo : n < low
      · have HP := Lib.hid (HBad.out (numR_bad (hdR_bad hNb (.inl hlo))))
        clear hN c0 c1 f0 f1 hE hr HBad hNb
        go_wp2
        go_ret
        exact HP.out
      by_cases hhi : high < n
      · have HP := Lib.hid (HBad.out (numR_bad (hdR_bad hNb (.inr hhi))))
        clear hN c0 c1 f0 f1 hE hr HBad hNb
        go_wp2
        go_ret
        exact HP.out
      have HX : Hid (numR low high (some ys) = (n, some (ys.drop k))) := Lib.hid (numR_some (hdR_some hNb hlo hhi))
      have hb2 := hr.bytes.drop (k := k) (takeN_inv hN).2.2.2.1
      generalize dropV v k = v2 at *
      obtain ⟨a2, cap2, rfl, -⟩ := id hb2
      have HP : Hid (RdfPost w0 w R (.int .i64 (numR low high (some ys)).1) (numR low high (some ys)).2 (.returned (.int .i64 n)) (((w.drewN nq).setCell ⟨R, 1, none⟩ (.bool (decide (n < low) || decide (high < n)))).setCell ⟨R, 0, none⟩ (.slice a2 (ys.drop k).length cap2))) := Lib.hid (by
        rw [HX.out, show (decide (n < low) || decide (high < n)) = false by simp; omega]
        exact ⟨rfl, ⟨_, _, (HR.out.setBad false).setLeft hb2, fun xs h => by injection h⟩, grown_trans (grown_ext hE _) (grown_trans (setOne_grown _ R 1 _) (setOne_grown _ R 0 _))⟩)
      generalize (ys.drop k).length = ly at *
      clear hN c0 c1 f0 f1 hE hr HBad hNb hb2
      go_wp2
      go_ret
      exact HP.out

set_option maxRecDepth 100000 in
set_option maxHeartbeats 2000000 in
theorem stext_any (top : Int) (ht : isI64 top) {w0 w : World} {R : Nat} {s : Option (List UInt8)} (h : RdS w0 w R s) :
    Calls Tryz.prog 91 #[.pointer (some ⟨R, 0, none⟩), .int .i64 top] w (RdfPost w0 w R (.string (str (textR top s).1)) (textR top s).2) := by
  obtain ⟨v, ys, hF, hys⟩ := h
  have H := Lib.hid hF
  have HY := Lib.hid hys
  have c0 := hF.c0
  have c1 := hF.c1
  have f0 := hF.f0
  have f1 := hF.f1
  clear hF hys
  obtain ⟨b, hb⟩ : ∃ b, b = s.isNone := ⟨_, rfl⟩
  have HB := Lib.hid hb
  rw [← hb] at c1
  clear hb
  go_enter Tryz.func91, Tryz.ntmps91
  go_wp2_with fail
  refine (takeText_any v ys top ht w (H.out.bytes.ext H.out.ext)).mono ?_
  intro e w1 hp
  unfold TakeTextPost at hp
  cases hN : takeT ys top with
  | none =>
    rw [hN] at hp
    obtain ⟨nq, rfl, rfl⟩ := hp
    have hE : Ext w (w.drewN nq) := (Ext.refl w).drewN nq
    have hr := H.out.then hE
    have HR := Lib.hid hr
    have c0' := hr.c0
    have c1' := hr.c1
    have f0' := hr.f0
    have f1' := hr.f1
    rw [← HB.out] at c1'
    have HX : Hid (textR top s = ([], none)) := Lib.hid (by
      cases s with
      | none => rfl
      | some xs =>
        obtain rfl := HY.out xs rfl
        exact textR_bad (hdX_none hN))
    have HP : Hid (RdfPost w0 w R (.string (str (textR top s).1)) (textR top s).2 (.returned (.string { data := #[] })) ((w.drewN nq).setCell ⟨R, 1, none⟩ (.bool true))) := Lib.hid (by
      rw [HX.out]
      exact ⟨rfl, ⟨v, ys, HR.out.setBad true, fun xs h => by cases h⟩, grown_trans (grown_ext hE _) (setOne_grown _ R 1 _)⟩)
    clear hN c0 c1 f0 f1 hE hr
    cases b
    all_goals
      go_wp2
      go_ret
      exact HP.out
  | some p =>
    obtain ⟨k, n⟩ := p
    rw [hN] at hp
    obtain ⟨nq, rfl, rfl⟩ := hp
    have hE : Ext w (w.drewN nq) := (Ext.refl w).drewN nq
    have hr := H.out.then hE
    have HR := Lib.hid hr
    have c0' := hr.c0
    have c1' := hr.c1
    have f0' := hr.f0
    have f1' := hr.f1
    rw [← HB.out] at c1'
    cases s with
    | none =>
      have HP : Hid (RdfPost w0 w R (.string (str (textR top none).1)) (textR top none).2 (.returned (.string { data := #[] })) ((w.drewN nq).setCell ⟨R, 1, none⟩ (.bool true))) := Lib.hid
        ⟨rfl, ⟨v, ys, HR.out.setBad true, fun xs h => by cases h⟩, grown_trans (grown_ext hE _) (setOne_grown _ R 1 _)⟩
      obtain rfl : b = true := HB.out
      clear hN c0 c1 f0 f1 hE hr
      go_wp2
      go_ret
      exact HP.out
    | some xs =>
      obtain rfl := HY.out xs rfl
      obtain rfl : b = false := HB.out
      have HX : Hid (textR top (some ys) = ((ys.drop k).take n, some ((ys.drop k).drop n))) := Lib.hid (textR_some (hdX_some hN))
      obtain ⟨_, _, hkn⟩ := takeT_inv hN
      have hb2 := (hr.bytes.drop (k := k) (by omega)).drop (k := n) (by simp; omega)
      generalize dropV (dropV v k) n = v2 at *
      obtain ⟨a2, cap2, rfl, -⟩ := id hb2
      have HP : Hid (RdfPost w0 w R (.string (str (textR top (some ys)).1)) (textR top (some ys)).2 (.returned (.string (str ((ys.drop k).take n)))) (((w.drewN nq).setCell ⟨R, 1, none⟩ (.bool false)).setCell ⟨R, 0, none⟩ (.slice a2 ((ys.drop k).drop n).length cap2))) := Lib.hid (by
        rw [HX.out]
        exact ⟨rfl, ⟨_, _, (HR.out.setBad false).setLeft hb2, fun xs h => by injection h⟩, grown_trans (grown_ext hE _) (grown_trans (setOne_grown _ R 1 _) (setOne_grown _ R 0 _))⟩)
      generalize ((ys.drop k).drop n).length = ly at *
      generalize str ((ys.drop k).take n) = sx at *
      clear hN c0 c1 f0 f1 hE hr hb2 hkn
      go_wp2
      go_ret
      exact HP.out
end Go.Proofs.YtdienbcjfljjnaaGreatDoor

open Go.RowKit Go.Shelf
namespace Go.Proofs.YtdienbcjfljjnaaGreatDoor
open Go Go.Proofs Fm

/-- What taking one number in comes to. -/
def All1 (w0 w : World) (R : Nat) (f : Fld) (s : Option (List UInt8)) (e : Ending) (w' : World) : Prop :=
  e = .returned (.tuple #[]) ∧ ∃ w1, RdS w0 w1 R (numR f.lo f.hi s).2 ∧ w.grownBy w1 (some R) ∧ w' = w1.setCell ⟨f.b, f.off, none⟩ (.int .i64 (numR f.lo f.hi s).1)

set_option maxRecDepth 100000 in
set_option maxHeartbeats 4000000 in
theorem all1_any (f : Fld) {w0 w : World} {R TB : Nat} {s : Option (List UInt8)} (h : RdS w0 w R s) (hT : w.cell? ⟨TB, 0, none⟩ = some (.pointer (some ⟨R, 0, none⟩))) (hTl : TB < w.heap.size) (hTR : TB ≠ R)
    (u : Value) (hc : w.cell? ⟨f.b, f.off, none⟩ = some u) (hfz : w.frozen? ⟨f.b, f.off, none⟩ = false) (hb : f.b < w.heap.size) (hbR : f.b ≠ R) (hBT : f.b ≠ TB) :
    Calls Tryz.prog 89 #[.agg #[.pointer (some ⟨f.b, f.off, none⟩), .int .i64 f.lo, .int .i64 f.hi], .pointer (some ⟨TB, 0, none⟩)] w (All1 w0 w R f s) := by
  have HX : Hid (∀ e w', e = .returned (.tuple #[]) → (∃ w1, RdS w0 w1 R (numR f.lo f.hi s).2 ∧ w.grownBy w1 (some R) ∧ w' = w1.setCell ⟨f.b, f.off, none⟩ (.int .i64 (numR f.lo f.hi s).1)) → All1 w0 w R f s e w') := Lib.hid (fun e w' a b => ⟨a, b⟩)
  have hRl := h.lt
  have h1 := BoxL.new w [.pointer (some ⟨f.b, f.off, none⟩), .int .i64 f.lo, .int .i64 f.hi] 111
  have hE := (Ext.refl w).alloc (.cells #[.pointer (some ⟨f.b, f.off, none⟩), .int .i64 f.lo, .int .i64 f.hi] 111)
  have hz : (w.alloc (.cells #[.pointer (some ⟨f.b, f.off, none⟩), .int .i64 f.lo, .int .i64 f.hi] 111)).heap.size = w.heap.size + 1 := by simp
  generalize f.b = B at *
  generalize f.off = O at *
  generalize f.lo = L at *
  generalize f.hi = H at *
  go_enter Tryz.func89, Tryz.ntmps89
  go_upto_region 1 with (fail)
  generalize w.alloc (.cells #[.pointer (some ⟨B, O, none⟩), .int .i64 L, .int .i64 H] 111) = W1 at *
  have hE0 := hE.drew
  have hD := (Ext.refl W1).drew
  have h1 := h1.ext hD
  have HE0 : Hid (Ext w W1.drew) := Lib.hid hE0
  have HR0 : Hid (RdS w0 W1.drew R s) := Lib.hid (h.then hE0)
  have HC0 : Hid (W1.drew.cell? ⟨B, O, none⟩ = some u) := Lib.hid ((hE0.cell (p := ⟨B, O, none⟩) hb).trans hc)
  have HF0 : Hid (W1.drew.frozen? ⟨B, O, none⟩ = false) := Lib.hid ((hE0.frozen (p := ⟨B, O, none⟩) hb).trans hfz)
  have HS0 : Hid (W1.drew.cell? ⟨w.heap.size, 0, none⟩ = some (.pointer (some ⟨B, O, none⟩)) ∧ W1.drew.cell? ⟨w.heap.size, 1, none⟩ = some (.int .i64 L) ∧ W1.drew.cell? ⟨w.heap.size, 2, none⟩ = some (.int .i64 H) ∧ W1.drew.cell? ⟨TB, 0, none⟩ = some (.pointer (some ⟨R, 0, none⟩))) := Lib.hid ⟨h1.cell 0 _ rfl, h1.cell 1 _ rfl, h1.cell 2 _ rfl, (hE0.cell (p := ⟨TB, 0, none⟩) hTl).trans hT⟩
  have hsz := hE0.size
  have hqz : w.heap.size < W1.drew.heap.size := h1.lt
  have hTz : TB < W1.drew.heap.size := Nat.lt_of_lt_of_le hTl hsz
  have hBz : B < W1.drew.heap.size := Nat.lt_of_lt_of_le hb hsz
  have hqR : w.heap.size ≠ R := by omega
  clear hE hE0 hD h1 h hT hc hfz hz
  refine wp_region_held_drew (S := (fun w' => w'.cell? ⟨w.heap.size, 0, none⟩ = some (.pointer (some ⟨B, O, none⟩)) ∧ w'.cell? ⟨w.heap.size, 1, none⟩ = some (.int .i64 L) ∧ w'.cell? ⟨w.heap.size, 2, none⟩ = some (.int .i64 H) ∧ w'.cell? ⟨TB, 0, none⟩ = some (.pointer (some ⟨R, 0, none⟩)))) (by kernel_rfl) ?_ (fun hHeld => ?_)
  · (try dsimp only)
    (first | exact HS0.out | exact HS1.out | exact HS2.out)
  refine take_w 0 (some 3) (v := ?_) (by kernel_rfl) (by kernel_rfl) (by kernel_rfl) (by kernel_rfl) (by kernel_rfl) (fun _ _ _ h => h) (by rfl) ?_ (by assumption) ?_
  rotate_left
  · (intro w hSw; (try dsimp only at hSw); go_simp; try with_reducible rfl)
  try simp only [Act.put, List.setIfInBounds_toArray, List.set_cons_zero, List.set_cons_succ]
  refine take_w 1 (some 4) (v := ?_) (by kernel_rfl) (by kernel_rfl) (by kernel_rfl) (by kernel_rfl) (by kernel_rfl) (fun _ _ _ h => h) (by rfl) ?_ (by assumption) ?_
  rotate_left
  · (intro w hSw; (try dsimp only at hSw); go_simp; try with_reducible rfl)
  try simp only [Act.put, List.setIfInBounds_toArray, List.set_cons_zero, List.set_cons_succ]
  refine take_w 2 (some 5) (v := ?_) (by kernel_rfl) (by kernel_rfl) (by kernel_rfl) (by kernel_rfl) (by kernel_rfl) (fun _ _ _ h => h) (by rfl) ?_ (by assumption) ?_
  rotate_left
  · (intro w hSw; (try dsimp only at hSw); go_simp; try with_reducible rfl)
  try simp only [Act.put, List.setIfInBounds_toArray, List.set_cons_zero, List.set_cons_succ]
  refine take_w 3 (some 6) (v := ?_) (by kernel_rfl) (by kernel_rfl) (by kernel_rfl) (by kernel_rfl) (by kernel_rfl) (fun _ _ _ h => h) (by rfl) ?_ (by assumption) ?_
  rotate_left
  · (intro w hSw; (try dsimp only at hSw); go_simp; try with_reducible rfl)
  try simp only [Act.put, List.setIfInBounds_toArray, List.set_cons_zero, List.set_cons_succ]
  refine take_w 4 (some 7) (v := ?_) (by kernel_rfl) (by kernel_rfl) (by kernel_rfl) (by kernel_rfl) (by kernel_rfl) (fun _ _ _ h => h) (by rfl) ?_ (by assumption) ?_
  rotate_left
  · (intro w hSw; (try dsimp only at hSw); go_simp; try with_reducible rfl)
  try simp only [Act.put, List.setIfInBounds_toArray, List.set_cons_zero, List.set_cons_succ]
  refine take_w 5 (some 8) (v := ?_) (by kernel_rfl) (by kernel_rfl) (by kernel_rfl) (by kernel_rfl) (by kernel_rfl) (fun _ _ _ h => h) (by rfl) ?_ (by assumption) ?_
  rotate_left
  · (intro w hSw; (try dsimp only at hSw); go_simp; try with_reducible rfl)
  try simp only [Act.put, List.setIfInBounds_toArray, List.set_cons_zero, List.set_cons_succ]
  refine take_w 6 (some 9) (v := ?_) (by kernel_rfl) (by kernel_rfl) (by kernel_rfl) (by kernel_rfl) (by kernel_rfl) (fun _ _ _ h => h) (by rfl) ?_ (by assumption) ?_
  rotate_left
  · (intro w hSw; (try dsimp only at hSw); go_simp; try with_reducible rfl)
  try simp only [Act.put, List.setIfInBounds_toArray, List.set_cons_zero, List.set_cons_succ]
  refine ready_one 7 (by kernel_rfl) (by kernel_rfl) (by rfl) (fun Kc hKc => ?_)
  go_simp
  refine (snum_any L H HR0.out).mono ?_
  rintro e y1 ⟨rfl, hr1, hg1⟩
  have HR1 := Lib.hid hr1
  have HG1 := Lib.hid (grown_trans (grown_ext HE0.out (some R)) hg1)
  have HS1 : Hid (y1.cell? ⟨w.heap.size, 0, none⟩ = some (.pointer (some ⟨B, O, none⟩)) ∧ y1.cell? ⟨w.heap.size, 1, none⟩ = some (.int .i64 L) ∧ y1.cell? ⟨w.heap.size, 2, none⟩ = some (.int .i64 H) ∧ y1.cell? ⟨TB, 0, none⟩ = some (.pointer (some ⟨R, 0, none⟩))) := Lib.hid (by
    obtain ⟨a0, a1, a2, a3⟩ := HS0.out
    exact ⟨(hg1.cell_far ⟨w.heap.size, 0, none⟩ hqz (fun e => hqR (by injection e))).trans a0, (hg1.cell_far ⟨w.heap.size, 1, none⟩ hqz (fun e => hqR (by injection e))).trans a1, (hg1.cell_far ⟨w.heap.size, 2, none⟩ hqz (fun e => hqR (by injection e))).trans a2, (hg1.cell_far ⟨TB, 0, none⟩ hTz (fun e => hTR (by injection e))).trans a3⟩)
  have c1 := (hg1.cell_far ⟨B, O, none⟩ hBz (fun e => hbR (by injection e))).trans HC0.out
  have f1 := (hg1.frozen_far ⟨B, O, none⟩ hBz (fun e => hbR (by injection e))).trans HF0.out
  clear hr1 hg1
  try go_wp2_with fail
  refine hKc.out _ _ ?_ (fun hHeld => ?_)
  · (try dsimp only)
    (first | exact HS0.out | exact HS1.out | exact HS2.out)
  clear hKc Kc
  try simp only [Act.put, List.setIfInBounds_toArray, List.set_cons_zero, List.set_cons_succ]
  refine take_w 8 (some 11) (v := ?_) (by kernel_rfl) (by kernel_rfl) (by kernel_rfl) (by kernel_rfl) (by kernel_rfl) (fun _ _ _ h => h) (by rfl) ?_ (by assumption) ?_
  rotate_left
  · (intro w hSw; (try dsimp only at hSw); go_simp; try with_reducible rfl)
  try simp only [Act.put, List.setIfInBounds_toArray, List.set_cons_zero, List.set_cons_succ]
  refine ready_one 9 (by kernel_rfl) (by kernel_rfl) (by rfl) (fun Kc hKc => ?_)
  go_simp
  have HS2 : Hid ((y1.setCell ⟨B, O, none⟩ (.int .i64 (numR L H s).1)).cell? ⟨w.heap.size, 0, none⟩ = some (.pointer (some ⟨B, O, none⟩)) ∧ (y1.setCell ⟨B, O, none⟩ (.int .i64 (numR L H s).1)).cell? ⟨w.heap.size, 1, none⟩ = some (.int .i64 L) ∧ (y1.setCell ⟨B, O, none⟩ (.int .i64 (numR L H s).1)).cell? ⟨w.heap.size, 2, none⟩ = some (.int .i64 H) ∧ (y1.setCell ⟨B, O, none⟩ (.int .i64 (numR L H s).1)).cell? ⟨TB, 0, none⟩ = some (.pointer (some ⟨R, 0, none⟩))) := Lib.hid (by
    obtain ⟨a0, a1, a2, a3⟩ := HS1.out
    exact ⟨(World.cell?_setCell_other y1 _ _ _ (fun e => by injection e with e _ _; omega)).trans a0, (World.cell?_setCell_other y1 _ _ _ (fun e => by injection e with e _ _; omega)).trans a1, (World.cell?_setCell_other y1 _ _ _ (fun e => by injection e with e _ _; omega)).trans a2, (World.cell?_setCell_other y1 _ _ _ (fun e => hBT (by injection e with e _ _))).trans a3⟩)
  try go_wp2_with fail
  refine hKc.out _ _ ?_ (fun hHeld => ?_)
  · (try dsimp only)
    (first | exact HS0.out | exact HS1.out | exact HS2.out)
  clear hKc Kc
  try simp only [Act.put, List.setIfInBounds_toArray, List.set_cons_zero, List.set_cons_succ]
  refine wpAnyH_done (by kernel_rfl) ?_ _

  have HP := Lib.hid (HX.out _ _ rfl ⟨y1, HR1.out, HG1.out, rfl⟩)
  clear HX HR0 HR1 HG1 HS0 HS1 HS2 HC0 HF0 c1 f1
  go_wp2
  exact bodyPost_end (by simp [results, Tryz.results89, go_sem]) rfl HP.out

set_option maxRecDepth 100000 in
set_option maxHeartbeats 4000000 in
theorem all_any {w0 w : World} {R : Nat} {s : Option (List UInt8)} (fs : List Fld) (FB : Nat) (J : List Int → World → Prop) (hr : RdS w0 w R s) (h0 : J [] w) (hl : fs.length ≤ 1000) (hFR : FB ≠ R) (hF : FRow w FB fs)
    (hext : ∀ ns a b, J ns a → Ext a b → J ns b)
    (hstep : ∀ ns a b n f, J ns a → fs[ns.length]? = some f → a.grownBy b (some R) → isI64 n → J (ns ++ [n]) (b.setCell ⟨f.b, f.off, none⟩ (.int .i64 n)))
    (hcell : ∀ ns a f, J ns a → f ∈ fs → ∃ u, a.cell? ⟨f.b, f.off, none⟩ = some u ∧ a.frozen? ⟨f.b, f.off, none⟩ = false)
    (hfs : ∀ f, f ∈ fs → f.b ≠ R ∧ w0.heap.size ≤ f.b ∧ f.b < w.heap.size ∧ f.b ≠ FB) :
    Calls Tryz.prog 46 #[.pointer (some ⟨R, 0, none⟩), .slice (some ⟨FB, 0, none⟩) fs.length fs.length] w fun e w' => e = .returned (.tuple #[]) ∧ RdS w0 w' R (allR (fs.map bnd) s).2 ∧ J (allR (fs.map bnd) s).1 w' := by
  have hE0 := (Ext.refl w).alloc (.cells #[.pointer (some ⟨R, 0, none⟩)] 78)
  have h3 := BoxL.new w [.pointer (some ⟨R, 0, none⟩)] 78
  have HR0 := Lib.hid (hr.then hE0)
  have HJ0 := Lib.hid (hext _ _ _ h0 hE0)
  have HF0 := Lib.hid (hF.ext hE0)
  have HC0 := Lib.hid (h3.cell 0 _ rfl)
  have hRl := hr.lt
  have hRo := hr.old
  have hz0 : (w.alloc (.cells #[.pointer (some ⟨R, 0, none⟩)] 78)).heap.size = w.heap.size + 1 := by simp
  have HX1 := Lib.hid hext
  have HX2 := Lib.hid hstep
  have HX3 := Lib.hid hcell
  have HX4 := Lib.hid hfs
  have HS0 := Lib.hid (show w.heap.size < (w.alloc (.cells #[.pointer (some ⟨R, 0, none⟩)] 78)).heap.size by omega)
  have HXF : Hid (∀ (j : Nat) (hj : j < fs.length), allR ((fs.take (j + 1)).map bnd) s = ((allR ((fs.take j).map bnd) s).1 ++ [(numR fs[j].lo fs[j].hi (allR ((fs.take j).map bnd) s).2).1], (numR fs[j].lo fs[j].hi (allR ((fs.take j).map bnd) s).2).2)) := Lib.hid (fun j hj => by
    rw [List.take_add_one, List.getElem?_eq_getElem hj, Option.toList_some, List.map_append, List.map_cons, List.map_nil, allR_snoc]; rfl)
  clear hr h0 hF hext hstep hcell hfs h3 hE0
  go_enter Tryz.func46, Tryz.ntmps46
  go_wp2_with fail
  generalize w.alloc (.cells #[.pointer (some ⟨R, 0, none⟩)] 78) = W0 at *
  go_loopw [10] (fun i wr => ∃ j : Nat, j ≤ fs.length ∧ i = .int .i64 j ∧ Hid (wr.cell? ⟨w.heap.size, 0, none⟩ = some (.pointer (some ⟨R, 0, none⟩))) ∧ Hid (FRow wr FB fs) ∧ Hid (RdS w0 wr R (allR ((fs.take j).map bnd) s).2) ∧ Hid (J (allR ((fs.take j).map bnd) s).1 wr) ∧ w.heap.size < wr.heap.size) (fun i _ => fs.length - (intOf i).toNat)
  case atStart => exact ⟨0, by omega, rfl, HC0, HF0, HR0, HJ0, HS0.out⟩
  case round =>
    clear HC0 HF0 HR0 HJ0 HS0 hz0
    obtain ⟨j, hj, rfl, HC, HF, HR, HJ, hz⟩ := hrel
    by_cases hlt : j < fs.length
    · obtain ⟨c0, c1, c2⟩ := HF.out.three j hlt
      have hj0 : (0 : Int) ≤ (j : Int) := by omega
      have HM := Lib.hid (List.getElem_mem hlt)
      obtain ⟨g1, g2, g3, g4⟩ := HX4.out _ HM.out
      have HFb := Lib.hid HF.out.1
      have HXj := Lib.hid (HXF.out j hlt)
      have HLj : Hid (fs[(allR ((fs.take j).map bnd) s).1.length]? = some fs[j]) := Lib.hid (by rw [allR_len, List.length_map, List.length_take, Nat.min_eq_left (by omega)]; exact List.getElem?_eq_getElem hlt)
      generalize allR ((fs.take j).map bnd) s = AJ at *
      go_wp2_with fail
      have hE1 := (Ext.refl wr).alloc (.cells #[.pointer (some ⟨fs[j].b, fs[j].off, none⟩), .int .i64 fs[j].lo, .int .i64 fs[j].hi] 111)
      generalize wr.alloc (.cells #[.pointer (some ⟨fs[j].b, fs[j].off, none⟩), .int .i64 fs[j].lo, .int .i64 fs[j].hi] 111) = W1 at *
      have hz1 := hE1.size
      have HJ1 := Lib.hid (HX1.out _ _ _ HJ.out hE1)
      obtain ⟨u, hu, huf⟩ := HX3.out _ _ _ HJ1.out HM.out
      have HF1 := Lib.hid (HF.out.ext hE1)
      have HC1 := Lib.hid ((hE1.cell (p := ⟨w.heap.size, 0, none⟩) hz).trans HC.out)
      have hFz := HFb.out
      refine (all1_any fs[j] (HR.out.then hE1) HC1.out (by omega) (by omega) u hu huf (by omega) g1 (by omega)).mono ?_
      rintro e w2 ⟨rfl, w3, hr3, hg3, rfl⟩
      have hg4 := setOne_grown w3 fs[j].b fs[j].off (.int .i64 (numR fs[j].lo fs[j].hi AJ.2).1)
      have hz3 := hg3.size
      have HR2 := Lib.hid (hr3.kept hg4 (fun k hk => by injection hk with hk; omega))
      have HJ2 := Lib.hid (HX2.out AJ.1 W1 w3 (numR fs[j].lo fs[j].hi AJ.2).1 fs[j] HJ1.out HLj.out hg3 (numR_i64 _ _ _))
      have HF2 := Lib.hid ((HF1.out.kept hg3 (fun e => hFR (by injection e with e; exact e.symm))).kept hg4 (fun e => g4 (by injection e)))
      have HC2 := Lib.hid ((hg4.cell_far ⟨w.heap.size, 0, none⟩ (by show w.heap.size < w3.heap.size; omega) (fun e => by injection e with e; have e : w.heap.size = fs[j].b := e; omega)).trans ((hg3.cell_far ⟨w.heap.size, 0, none⟩ (by show w.heap.size < W1.heap.size; omega) (fun e => by injection e with e; have e : w.heap.size = R := e; omega)).trans HC1.out))
      have hz4 := hg4.size
      have hzn : w.heap.size < (w3.setCell ⟨fs[j].b, fs[j].off, none⟩ (.int .i64 (numR fs[j].lo fs[j].hi AJ.2).1)).heap.size := by omega
      generalize w3.setCell ⟨fs[j].b, fs[j].off, none⟩ (.int .i64 (numR fs[j].lo fs[j].hi AJ.2).1) = W4 at *
      clear hr3 hg3 hg4 hu huf hE1 c0 c1 c2 HC HF HR HJ HC1 HF1 HJ1 g1 g2 g3 g4
      go_wp2
      go_roundw
      case rel => exact ⟨j + 1, by omega, by go_num, HC2, HF2, by rw [HXj.out]; exact HR2, by rw [HXj.out]; exact HJ2, hzn⟩
      case measure => simp [intOf]; omega
    · have hjn : j = fs.length := by omega
      have hQ : RdS w0 wr R (allR (fs.map bnd) s).2 ∧ J (allR (fs.map bnd) s).1 wr := by
        have a := HR.out
        have b := HJ.out
        rw [hjn, List.take_length] at a b
        exact ⟨a, b⟩
      have HQ := Lib.hid hQ
      clear hQ hjn HC HF HR HJ
      go_wp2
      exact bodyPost_end (by simp [results, Tryz.results46, go_sem]) rfl ⟨rfl, HQ.out⟩
end Go.Proofs.YtdienbcjfljjnaaGreatDoor
