/- Nodes and states in memory of their own; what Parse reads: plain facts. No program is imported. -/
import Derived.Test.YtdienbcjfljjnaaDoorPlN
namespace Fm
open Go Go.RowKit

/-- A node in memory of its own from 'base' on; block g is none of it. -/
def NdIn (eI eV : TypeId) (base : Nat) (w : World) (n : Nd) (C : List Value) (g : Option Nat) : Prop :=
  ∃ (a : Option Addr) (m c : Nat) (k N S l : Value) (F : Nat → Prop), C = ndCells n (.slice a m c) k N S l ∧ OwnN eI base w (.slice a m c) n.after ∧ (∀ b, (Value.slice a m c).ownBlock = some b → g ≠ some b) ∧
    Owns eV w base n.val (.agg #[k, N, S, l]) F ∧ (∀ b, F b → g ≠ some b) ∧ ndWf n
theorem NdIn.cells {eI eV : TypeId} {base : Nat} {w : World} {n : Nd} {C : List Value} {g : Option Nat} (h : NdIn eI eV base w n C g) : C.length = 16 := by
  obtain ⟨a, m, c, k, N, S, l, F, rfl, -⟩ := h; rfl
theorem NdIn.v {eI eV : TypeId} {base : Nat} {w : World} {n : Nd} {C : List Value} {g : Option Nat} (h : NdIn eI eV base w n C g) : NdV w n (.agg C.toArray) := by
  obtain ⟨a, m, c, k, N, S, l, F, rfl, h1, -, h2, -, h3⟩ := h
  obtain ⟨w1, w2, w3, w4, w5, w6, w7, w8, w9, w10, w11⟩ := h3
  exact ⟨a, m, c, k, N, S, l, rfl, h1.row w11, h2.lies, w1, w2, w3, w4, w5, w6, w7, w8, w9⟩
theorem NdIn.keep {eI eV : TypeId} {base : Nat} {w w' : World} {n : Nd} {C : List Value} {g g' row : Option Nat} (h : NdIn eI eV base w n C g) (hg : w.grownBy w' row) (hr : ∀ b, row = some b → b < base ∨ g = some b) (hat : ∀ b, g' = some b → g = some b ∨ w.heap.size ≤ b) : NdIn eI eV base w' n C g' := by
  obtain ⟨a, m, c, k, N, S, l, F, rfl, h1, h2, h3, h4, h5⟩ := h
  refine ⟨a, m, c, k, N, S, l, F, rfl, ?_, fun b hb e => ?_, h3.grown hg (fun b hb hF => ?_), fun b hb e => ?_, h5⟩
  · refine World.ownsRow.kept h1 hg ?_
    cases hv : (Value.slice a m c).ownBlock with
    | none => exact .inl rfl
    | some b =>
      right; intro e
      rcases hr b e.symm with q | q
      · have := (World.ownsRow.lt h1 b hv).1; omega
      · exact h2 b hv q
  · rcases hat b e with q | q
    · exact h2 b hb q
    · have := (World.ownsRow.lt h1 b hb).2; omega
  · rcases hr b hb with q | q
    · have := (h3.bounds b hF).1; omega
    · exact h4 b hF q
  · rcases hat b e with q | q
    · exact h4 b hb q
    · have := (h3.bounds b hb).2; omega
/-- Nodes in memory of their own. -/
def OwnNds (eN eI eV : TypeId) (base : Nat) (w : World) (v : Value) (l : List Nd) : Prop :=
  ∃ cs : List (List Value), cs.length = l.length ∧ w.ownsRow base eN 16 v l.length cs.flatten ∧ ∀ (i : Nat) (hi : i < l.length) (hc : i < cs.length), NdIn eI eV base w l[i] cs[i] v.ownBlock
theorem OwnNds.nil (eN eI eV : TypeId) (base : Nat) (w : World) : OwnNds eN eI eV base w (.slice none 0 0) [] := ⟨[], rfl, World.ownsRow_nil w base eN 16, fun i hi => by simp at hi⟩
theorem OwnNds.kept {eN eI eV : TypeId} {base : Nat} {w w' : World} {v : Value} {l : List Nd} {row : Option Nat} (h : OwnNds eN eI eV base w v l) (hg : w.grownBy w' row) (hr : ∀ b, row = some b → b < base) : OwnNds eN eI eV base w' v l := by
  obtain ⟨cs, h1, h2, h3⟩ := h
  have hlt := h2.lt
  refine ⟨cs, h1, h2.kept hg ?_, fun i hi hc => (h3 i hi hc).keep hg (fun b hb => .inl (hr b hb)) (fun b hb => .inl hb)⟩
  cases hv : v.ownBlock with
  | none => exact .inl rfl
  | some b => right; exact fun e => by have := hr b e.symm; have := (hlt b hv).1; omega
theorem OwnNds.ext {eN eI eV : TypeId} {base : Nat} {w w' : World} {v : Value} {l : List Nd} (h : OwnNds eN eI eV base w v l) (hE : Ext w w') : OwnNds eN eI eV base w' v l := h.kept (row := none) hE.grownBy (fun b hb => by cases hb)
theorem NdIn.mono {eI eV : TypeId} {base base' : Nat} {w : World} {n : Nd} {C : List Value} {g : Option Nat} (h : NdIn eI eV base w n C g) (hb : base' ≤ base) : NdIn eI eV base' w n C g := by
  obtain ⟨a, m, c, k, N, S, l, F, rfl, h1, h2, h3, h4, h5⟩ := h
  exact ⟨a, m, c, k, N, S, l, F, rfl, h1.mono hb, h2, h3.mono hb, h4, h5⟩
theorem OwnNds.mono {eN eI eV : TypeId} {base base' : Nat} {w : World} {v : Value} {l : List Nd} (h : OwnNds eN eI eV base w v l) (hb : base' ≤ base) : OwnNds eN eI eV base' w v l := by
  obtain ⟨cs, h1, h2, h3⟩ := h
  exact ⟨cs, h1, ownsRow_base h2 hb, fun i hi hc => (h3 i hi hc).mono hb⟩
theorem OwnNds.row_lt {eN eI eV : TypeId} {base : Nat} {w : World} {v : Value} {l : List Nd} (h : OwnNds eN eI eV base w v l) (b : Nat) (hb : v.ownBlock = some b) : base ≤ b ∧ b < w.heap.size := by
  obtain ⟨cs, h1, h2, h3⟩ := h
  exact h2.lt b hb
theorem flat16 : ∀ (cs : List (List Value)) (i j : Nat) (hi : i < cs.length), (∀ C, C ∈ cs → C.length = 16) → j < 16 → cs.flatten[i * 16 + j]? = cs[i][j]?
  | [], i, _, hi, _, _ => by simp at hi
  | C :: cs, 0, j, _, h, hj => by
    have := h C (List.mem_cons_self ..)
    rw [List.flatten_cons, List.getElem?_append_left (by omega)]
    simp
  | C :: cs, i + 1, j, hi, h, hj => by
    have hC := h C (List.mem_cons_self ..)
    have ih := flat16 cs i j (by simpa using hi) (fun D hD => h D (List.mem_cons_of_mem _ hD)) hj
    rw [List.flatten_cons, List.getElem?_append_right (by omega)]
    have e : (i + 1) * 16 + j - C.length = i * 16 + j := by omega
    rw [e, ih]
    simp
theorem OwnNds.row {eN eI eV : TypeId} {base : Nat} {w : World} {v : Value} {l : List Nd} (h : OwnNds eN eI eV base w v l) : ndE.Row w l v := by
  obtain ⟨cs, h1, h2, h3⟩ := h
  have hc := fun g => World.ownsRow.cells h2 (g := g)
  have h16 : ∀ C, C ∈ cs → C.length = 16 := fun C hC => by
    obtain ⟨i, hi, rfl⟩ := List.getElem_of_mem hC
    exact (h3 i (by omega) hi).cells
  rcases h2.2 with ⟨rfl, h0⟩ | ⟨g, cap, cur, rfl, hb, hg, hl, hm, h5, h6⟩
  · have : l = [] := List.eq_nil_of_length_eq_zero h0
    subst this
    exact Elem.Row.void ndE w none
  · refine Elem.Row.mk rfl hl hm (Array.getElem?_eq_some_iff.1 hg).1 (fun i hi => ?_)
    have hd : i < cs.length := by omega
    have hn := h3 i hi hd
    refine ⟨fun j => cs[i].getD j .nilFunc, ?_, fun j hj => ?_⟩
    · obtain ⟨a, m, c, k, N, S, x, F, e, k1, -, k2, -, k3⟩ := hn
      obtain ⟨w1, w2, w3, w4, w5, w6, w7, w8, w9, w10, w11⟩ := k3
      rw [e]
      exact ⟨⟨rfl, rfl, rfl, rfl, rfl, rfl⟩, k1.row w11, ⟨rfl, rfl, rfl, rfl, rfl⟩, k2.lies, w1, w2, w3, w4, w5, w6, w7, w8, w9⟩
    · have hj16 : j < 16 := hj
      have hlen := hn.cells
      have := hc g rfl (i * 16 + j) (cs[i].getD j .nilFunc) (by
        rw [flat16 cs i j hd h16 hj16, List.getD_eq_getElem?_getD, List.getElem?_eq_getElem (by omega)]; rfl)
      rw [Addr.add_lit] at this
      exact this
theorem OwnNds.snoc {eN eI eV : TypeId} {base : Nat} {w w' : World} {v v' : Value} {l : List Nd} {n : Nd} {C : List Value} {cs : List (List Value)} (h1 : cs.length = l.length)
    (h3 : ∀ (i : Nat) (hi : i < l.length) (hc : i < cs.length), NdIn eI eV base w l[i] cs[i] v.ownBlock) (hn : NdIn eI eV base w n C v.ownBlock)
    (hrow : w'.ownsRow base eN 16 v' (l.length + 1) (cs.flatten ++ C)) (hg : w.grownBy w' v.ownBlock) (hat : v'.ownBlock = v.ownBlock ∨ v'.ownBlock = some w.heap.size) : OwnNds eN eI eV base w' v' (l ++ [n]) := by
  have keep : ∀ (m : Nd) (D : List Value), NdIn eI eV base w m D v.ownBlock → NdIn eI eV base w' m D v'.ownBlock := fun m D h =>
    h.keep hg (fun b hb => .inr hb) (fun b hb => by
      rcases hat with e | e
      · left; rw [← e]; exact hb
      · right; rw [e] at hb; injection hb with hb; omega)
  refine ⟨cs ++ [C], by simp [h1], by rw [List.length_append, List.flatten_append]; simpa using hrow, fun i hi hid => ?_⟩
  by_cases hil : i < l.length
  · have hil2 : i < cs.length := by omega
    rw [List.getElem_append_left hil, List.getElem_append_left hil2]
    exact keep _ _ (h3 i hil hil2)
  · have e1 : i = l.length := by simp at hi; omega
    subst e1
    have e2 : (cs ++ [C])[l.length]'hid = C := by rw [List.getElem_append_right (by omega)]; simp [h1]
    rw [List.getElem_append_right (Nat.le_refl _), e2]
    simp only [Nat.sub_self, List.getElem_cons_zero]
    exact keep _ _ hn
/-- A state in memory of its own. -/
def SnOwn (eN eI eV : TypeId) (base : Nat) (w : World) (s : Sn) (v : Value) : Prop :=
  ∃ (a : Option Addr) (m c : Nat), v = .agg #[.int .i64 s.cq, .int .i64 s.cd, .int .i64 s.cw, .int .i64 s.cr, .int .i64 s.cf, .int .i64 s.flows, .slice a m c, .int .i64 s.tok] ∧ OwnNds eN eI eV base w (.slice a m c) s.nodes ∧
    isI64 s.cq ∧ isI64 s.cd ∧ isI64 s.cw ∧ isI64 s.cr ∧ isI64 s.cf ∧ isI64 s.flows ∧ isI64 s.tok
theorem SnOwn.v {eN eI eV : TypeId} {base : Nat} {w : World} {s : Sn} {v : Value} (h : SnOwn eN eI eV base w s v) : SnV w s v := by
  obtain ⟨a, m, c, h1, h2, h3⟩ := h
  exact ⟨a, m, c, h1, h2.row, h3⟩
theorem SnOwn.kept {eN eI eV : TypeId} {base : Nat} {w w' : World} {s : Sn} {v : Value} {row : Option Nat} (h : SnOwn eN eI eV base w s v) (hg : w.grownBy w' row) (hr : ∀ b, row = some b → b < base) : SnOwn eN eI eV base w' s v := by
  obtain ⟨a, m, c, h1, h2, h3⟩ := h
  exact ⟨a, m, c, h1, h2.kept hg hr, h3⟩
theorem SnOwn.ext {eN eI eV : TypeId} {base : Nat} {w w' : World} {s : Sn} {v : Value} (h : SnOwn eN eI eV base w s v) (hE : Ext w w') : SnOwn eN eI eV base w' s v := h.kept (row := none) hE.grownBy (fun b hb => by cases hb)

/-! ### Parse's steps -/
def tA (xs : List UInt8) := allR fH (some xs)
def tB (xs : List UInt8) := numR 0 hiK (tA xs).2
def tC (xs : List UInt8) := numR 0 4800 (tB xs).2
theorem sn_chain {xs ys : List UInt8} (h : (tC xs).2 = some ys) : readSn xs = (readM readNd (tC xs).1.toNat ys).bind fun d => some (mkSn (tA xs).1 (tB xs).1 d.1, d.2) := by
  obtain ⟨b, hB, eC⟩ := numR_inv h
  obtain ⟨a, hA, eB⟩ := numR_inv hB
  obtain ⟨x, hx, eA⟩ := allR_some _ _ _ hA
  injection hx with hx
  subst hx
  have eA : readN fH xs = some ((tA xs).1, a) := eA
  have eB : hdR 0 hiK a = some ((tB xs).1, b) := eB
  have eC : hdR 0 4800 b = some ((tC xs).1, ys) := eC
  unfold readSn
  rw [eA, Option.bind_some]
  simp only
  rw [eB, Option.bind_some]
  simp only
  rw [eC, Option.bind_some]
theorem sn_dead {xs : List UInt8} (h : (tC xs).2 = none) : readSn xs = none := by
  unfold readSn
  cases eA : readN fH xs with
  | none => rfl
  | some a =>
  have hA : (tA xs).2 = some a.2 := by
    unfold tA
    cases h : (allR fH (some xs)).2 with
    | none => rw [allR_none _ _ h] at eA; cases eA
    | some r =>
      obtain ⟨ys, h1, h2⟩ := allR_some _ _ _ h
      injection h1 with h1
      subst h1
      rw [eA] at h2
      injection h2 with h2
      rw [h2]
  rw [Option.bind_some]
  cases eB : hdR 0 hiK a.2 with
  | none => rfl
  | some b =>
  have hB : (tB xs).2 = some b.2 := by unfold tB; rw [hA, numR_some eB]
  rw [Option.bind_some]
  cases eC : hdR 0 4800 b.2 with
  | none => rfl
  | some c =>
    exfalso
    unfold tC at h
    rw [hB, numR_some eC] at h
    cases h
/-- One node more is read. -/
theorem nodes_step {ys r : List UInt8} {j : Nat} {l : List Nd} (h : readM readNd j ys = some (l, r)) {n : Nd} {r2 : List UInt8} (h2 : readNd r = some (n, r2)) : readM readNd (j + 1) ys = some (l ++ [n], r2) := by
  rw [readM_snoc, h, Option.bind_some, h2]; rfl
theorem nodes_stop {ys r : List UInt8} {j k : Nat} {l : List Nd} (h : readM readNd j ys = some (l, r)) (h2 : readNd r = none) (hk : j + 1 ≤ k) : readM readNd k ys = none := by
  refine readM_none readNd (i := j + 1) ?_ hk
  rw [readM_snoc, h, Option.bind_some, h2]; rfl
theorem parseS_of {xs : List UInt8} {z : Option (Sn × List UInt8)} (h : readSn xs = z) : parseS xs = z.bind fun p => if p.2 = [] then some p.1 else none := by unfold parseS; rw [h]
def snZ : Sn := ⟨0, 0, 0, 0, 0, 0, [], 0⟩

/-! ### what Parse's walk holds -/
def z8 : List Value := [.int .i64 0, .int .i64 0, .int .i64 0, .int .i64 0, .int .i64 0, .int .i64 0, .slice none 0 0, .int .i64 0]
structure PSt (w wr : World) (ss : List Value) : Prop where
  e : Ext w wr
  pb : BoxL wr w.heap.size z8
  sb : BoxL wr (w.heap.size + 1 + 1) ss
theorem PSt.then {w wr wx : World} {ss : List Value} (h : PSt w wr ss) (hE : Ext wr wx) : PSt w wx ss := ⟨h.e.trans hE, h.pb.ext hE, h.sb.ext hE⟩
theorem PSt.step {w wr wx : World} {ss : List Value} (h : PSt w wr ss) (hg : wr.grownBy wx (some (w.heap.size + 1))) : PSt w wx ss :=
  ⟨h.e.grown hg (fun k hk => by injection hk with hk; omega), h.pb.kept hg (fun e => by injection e with e; omega), h.sb.kept hg (fun e => by injection e with e; omega)⟩
theorem PSt.far {w wr wx : World} {ss : List Value} (h : PSt w wr ss) {row : Option Nat} (hg : wr.grownBy wx row) (hr : ∀ k, row = some k → w.heap.size + 1 + 1 < k) : PSt w wx ss :=
  ⟨h.e.grown hg (fun k hk => by have := hr k hk; omega), h.pb.kept hg (fun e => by have := hr _ e; omega), h.sb.kept hg (fun e => by have := hr _ e; omega)⟩
theorem PSt.set {w wr : World} {ss : List Value} (h : PSt w wr ss) (j : Nat) (hj : j < ss.length) (u : Value) : PSt w (wr.setCell ⟨w.heap.size + 1 + 1, j, none⟩ u) (ss.set j u) := by
  have hg := setOne_grown wr (w.heap.size + 1 + 1) j u
  exact ⟨h.e.grown hg (fun k hk => by injection hk with hk; omega), h.pb.kept hg (fun e => by injection e with e; omega), h.sb.set j hj u⟩
def snC (a b c d e f : Int) (l : Value) (t : Int) : List Value := [.int .i64 a, .int .i64 b, .int .i64 c, .int .i64 d, .int .i64 e, .int .i64 f, l, .int .i64 t]
def JH (w : World) (ns : List Int) (wr : World) : Prop := PSt w wr (snC (ns.getD 0 0) (ns.getD 1 0) (ns.getD 2 0) (ns.getD 3 0) (ns.getD 4 0) (ns.getD 5 0) zV 0)
theorem JH_step {w a b : World} {ns : List Int} {n : Int} {f : Fld} (h : JH w ns a) (hf : (headF (w.heap.size + 1 + 1))[ns.length]? = some f) (hg : a.grownBy b (some (w.heap.size + 1))) : JH w (ns ++ [n]) (b.setCell ⟨f.b, f.off, none⟩ (.int .i64 n)) := by
  match ns, hf with
  | [], hf => simp only [headF, List.length_nil, List.getElem?_cons_zero, Option.some.injEq] at hf; subst hf; exact (PSt.step h hg).set 0 (by simp [snC]) _
  | [x], hf => simp [headF] at hf; subst hf; exact (PSt.step h hg).set 1 (by simp [snC]) _
  | [x, y], hf => simp [headF] at hf; subst hf; exact (PSt.step h hg).set 2 (by simp [snC]) _
  | [x, y, z], hf => simp [headF] at hf; subst hf; exact (PSt.step h hg).set 3 (by simp [snC]) _
  | [x, y, z, u], hf => simp [headF] at hf; subst hf; exact (PSt.step h hg).set 4 (by simp [snC]) _
  | [x, y, z, u, v], hf => simp [headF] at hf; subst hf; exact (PSt.step h hg).set 5 (by simp [snC]) _
  | _ :: _ :: _ :: _ :: _ :: _ :: l, hf => simp [headF] at hf
theorem JH_cell {w a : World} {ns : List Int} {f : Fld} (h : JH w ns a) (hf : f ∈ headF (w.heap.size + 1 + 1)) : ∃ u, a.cell? ⟨f.b, f.off, none⟩ = some u ∧ a.frozen? ⟨f.b, f.off, none⟩ = false := by
  simp only [headF, List.mem_cons, List.not_mem_nil, or_false] at hf
  rcases hf with rfl | rfl | rfl | rfl | rfl | rfl
  · exact h.sb.has 0 (by simp [snC])
  · exact h.sb.has 1 (by simp [snC])
  · exact h.sb.has 2 (by simp [snC])
  · exact h.sb.has 3 (by simp [snC])
  · exact h.sb.has 4 (by simp [snC])
  · exact h.sb.has 5 (by simp [snC])
theorem head_far {n : Nat} {f : Fld} (hf : f ∈ headF n) : f.b = n := by
  simp only [headF, List.mem_cons, List.not_mem_nil, or_false] at hf
  rcases hf with rfl | rfl | rfl | rfl | rfl | rfl <;> rfl
/-- How far the nodes are read. -/
def Far (eN eI eV : TypeId) (w : World) (xs : List UInt8) (j : Nat) (st : Option (List UInt8)) (wr : World) (a : Option Addr) (m c : Nat) : Prop :=
  (st = none → readSn xs = none) ∧ ∀ r, st = some r → ∃ ys l, (tC xs).2 = some ys ∧ readM readNd j ys = some (l, r) ∧ OwnNds eN eI eV (w.heap.size + 1 + 1 + 1) wr (.slice a m c) l
end Fm
