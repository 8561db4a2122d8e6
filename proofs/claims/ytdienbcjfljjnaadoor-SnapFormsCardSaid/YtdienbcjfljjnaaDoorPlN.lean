/- What the reader of states reads: a node: plain facts. No program is imported. -/
import Derived.Test.YtdienbcjfljjnaaDoorPlR
import Derived.Deep.MidRow
namespace Fm
open Go Go.RowKit

/-- The state behind a node. -/
def nodeS (s : Option (List UInt8)) : Option (List UInt8) := s.bind fun xs => (readNd xs).map Prod.snd
/-- The steps. -/
def sA (s : Option (List UInt8)) := textR 400 s
def sB (s : Option (List UInt8)) := textR 20 (sA s).2
def sC (s : Option (List UInt8)) := allR fF (sB s).2
def sD (s : Option (List UInt8)) := numR 0 21 (sC s).2
def sE (s : Option (List UInt8)) := repR 0 4799 (sD s).1.toNat (sD s).2
def sF (s : Option (List UInt8)) := allR fL (sE s).2
def sG (s : Option (List UInt8)) := numR 0 hiK (sF s).2
def ndOf (s : Option (List UInt8)) (v : Tr) : Nd := mkNd (sA s).1 (sB s).1 (sC s).1 (sE s).1 (sF s).1 (sG s).1 v
theorem node_chain {s : Option (List UInt8)} {g : List UInt8} (hG : (sG s).2 = some g) :
    ∃ xs, s = some xs ∧ readNd xs = (takeV' g).bind fun h => if ndB (ndOf s h.1) = true then some (ndOf s h.1, h.2) else none := by
  obtain ⟨f, hF, eG⟩ := numR_inv hG
  obtain ⟨e, hE, eF⟩ := allR_some _ _ _ hF
  obtain ⟨d, hD, eE⟩ := allR_some _ _ _ hE
  rw [readN_rep] at eE
  obtain ⟨c, hC, eD⟩ := numR_inv hD
  obtain ⟨b, hB, eC⟩ := allR_some _ _ _ hC
  obtain ⟨a, hA, eB⟩ := textR_inv hB
  obtain ⟨xs, hs, eA⟩ := textR_inv hA
  refine ⟨xs, hs, ?_⟩
  have eA : hdX 400 xs = some ((sA s).1, a) := eA
  have eB : hdX 20 a = some ((sB s).1, b) := eB
  have eC : readN fF b = some ((sC s).1, c) := eC
  have eD : hdR 0 21 c = some ((sD s).1, d) := eD
  have eE : readM (hdR 0 4799) (sD s).1.toNat d = some ((sE s).1, e) := eE
  have eF : readN fL e = some ((sF s).1, f) := eF
  have eG : hdR 0 hiK f = some ((sG s).1, g) := eG
  unfold readNd
  rw [eA, Option.bind_some]
  simp only
  rw [eB, Option.bind_some]
  simp only
  rw [eC, Option.bind_some]
  simp only
  rw [eD, Option.bind_some]
  simp only
  rw [eE, Option.bind_some]
  simp only
  rw [eF, Option.bind_some]
  simp only
  rw [eG, Option.bind_some]
  rfl
theorem repR_dead (lo hi : Int) (k : Nat) : (repR lo hi k none).2 = none := allR_dead _
theorem node_dead {s : Option (List UInt8)} (hG : (sG s).2 = none) : nodeS s = none := by
  cases s with
  | none => rfl
  | some xs =>
    unfold nodeS
    rw [Option.bind_some]
    unfold readNd
    cases eA : hdX 400 xs with
    | none => rfl
    | some a =>
    have hA : sA (some xs) = (a.1, some a.2) := textR_some eA
    rw [Option.bind_some]
    cases eB : hdX 20 a.2 with
    | none => rfl
    | some b =>
    have hB : sB (some xs) = (b.1, some b.2) := by unfold sB; rw [hA]; exact textR_some eB
    rw [Option.bind_some]
    cases eC : readN fF b.2 with
    | none => rfl
    | some c =>
    have hC : (sC (some xs)).2 = some c.2 ∧ (sC (some xs)).1 = c.1 := by
      unfold sC; rw [hB]
      cases h : (allR fF (some b.2)).2 with
      | none => rw [allR_none _ _ h] at eC; cases eC
      | some r =>
        obtain ⟨ys, h1, h2⟩ := allR_some _ _ _ h
        injection h1 with h1
        subst h1
        rw [eC] at h2
        injection h2 with h2
        rw [h2]
        exact ⟨rfl, rfl⟩
    rw [Option.bind_some]
    cases eD : hdR 0 21 c.2 with
    | none => rfl
    | some d =>
    have hD : sD (some xs) = (d.1, some d.2) := by unfold sD; rw [hC.1]; exact numR_some eD
    rw [Option.bind_some]
    cases eE : readM (hdR 0 4799) d.1.toNat d.2 with
    | none => rfl
    | some e =>
    have hE : (sE (some xs)).2 = some e.2 := by
      unfold sE repR; rw [hD]
      cases h : (allR (List.replicate d.1.toNat (0, 4799)) (some d.2)).2 with
      | none => have := allR_none _ _ h; rw [readN_rep, eE] at this; cases this
      | some r =>
        obtain ⟨ys, h1, h2⟩ := allR_some _ _ _ h
        injection h1 with h1
        subst h1
        rw [readN_rep, eE] at h2
        injection h2 with h2
        rw [h2]
    rw [Option.bind_some]
    cases eF : readN fL e.2 with
    | none => rfl
    | some f =>
    have hF : (sF (some xs)).2 = some f.2 := by
      unfold sF; rw [hE]
      cases h : (allR fL (some e.2)).2 with
      | none => rw [allR_none _ _ h] at eF; cases eF
      | some r =>
        obtain ⟨ys, h1, h2⟩ := allR_some _ _ _ h
        injection h1 with h1
        subst h1
        rw [eF] at h2
        injection h2 with h2
        rw [h2]
    rw [Option.bind_some]
    cases eG : hdR 0 hiK f.2 with
    | none => rfl
    | some g =>
      exfalso
      unfold sG at hG
      rw [hF, numR_some eG] at hG
      cases hG
theorem node_some {s : Option (List UInt8)} {g : List UInt8} (hG : (sG s).2 = some g) : nodeS s = (takeV' g).bind fun h => if ndB (ndOf s h.1) = true then some h.2 else none := by
  obtain ⟨xs, rfl, h⟩ := node_chain hG
  unfold nodeS
  rw [Option.bind_some, h]
  cases takeV' g with
  | none => rfl
  | some p =>
    rw [Option.bind_some, Option.bind_some]
    split <;> rfl

/-! ### what the node's walk holds -/
structure NSt (w wr : World) (R : Nat) (ps vs ks : List Value) : Prop where
  g : w.grownBy wr (some R)
  pb : BoxL wr w.heap.size ps
  bv : BoxL wr (w.heap.size + 1) vs
  bk : BoxL wr (w.heap.size + 1 + 1) ks
  hR : R < w.heap.size
theorem NSt.then {w wr wx : World} {R : Nat} {ps vs ks : List Value} (h : NSt w wr R ps vs ks) (hE : Ext wr wx) : NSt w wx R ps vs ks :=
  ⟨grown_trans h.g (grown_ext hE _), h.pb.ext hE, h.bv.ext hE, h.bk.ext hE, h.hR⟩
theorem NSt.step {w wr wx : World} {R : Nat} {ps vs ks : List Value} (h : NSt w wr R ps vs ks) (hg : wr.grownBy wx (some R)) : NSt w wx R ps vs ks := by
  have a := h.hR
  exact ⟨grown_trans h.g hg, h.pb.kept hg (fun e => by injection e with e; omega), h.bv.kept hg (fun e => by injection e with e; omega), h.bk.kept hg (fun e => by injection e with e; omega), a⟩
theorem NSt.far {w wr wx : World} {R : Nat} {ps vs ks : List Value} (h : NSt w wr R ps vs ks) {row : Option Nat} (hg : wr.grownBy wx row) (hr : ∀ k, row = some k → w.heap.size + 1 + 1 < k) : NSt w wx R ps vs ks := by
  have a := h.hR
  exact ⟨grown_row' h.g hg (fun x hx => by have := hr x hx; omega), h.pb.kept hg (fun e => by have := hr _ e; omega), h.bv.kept hg (fun e => by have := hr _ e; omega), h.bk.kept hg (fun e => by have := hr _ e; omega), a⟩
theorem NSt.setV {w wr : World} {R : Nat} {ps vs ks : List Value} (h : NSt w wr R ps vs ks) (j : Nat) (hj : j < vs.length) (u : Value) : NSt w (wr.setCell ⟨w.heap.size + 1, j, none⟩ u) R ps (vs.set j u) ks := by
  have hg := setOne_grown wr (w.heap.size + 1) j u
  have a := h.hR
  exact ⟨grown_row' h.g hg (fun x hx => by injection hx with hx; omega), h.pb.kept hg (fun e => by injection e with e; omega), h.bv.set j hj u, h.bk.kept hg (fun e => by injection e with e; omega), a⟩
theorem NSt.setK {w wr : World} {R : Nat} {ps vs ks : List Value} (h : NSt w wr R ps vs ks) (j : Nat) (hj : j < ks.length) (u : Value) : NSt w (wr.setCell ⟨w.heap.size + 1 + 1, j, none⟩ u) R ps vs (ks.set j u) := by
  have hg := setOne_grown wr (w.heap.size + 1 + 1) j u
  have a := h.hR
  exact ⟨grown_row' h.g hg (fun x hx => by injection hx with hx; omega), h.pb.kept hg (fun e => by injection e with e; omega), h.bv.kept hg (fun e => by injection e with e; omega), h.bk.set j hj u, a⟩
def ndZ : List Value := [.string { data := #[] }, .string { data := #[] }, .int .u8 0, .int .i64 0, .int .i64 0, .int .i64 0, .slice none 0 0, .int .i64 0, .int .i64 0, .int .u8 0, .int .i64 0, .int .i64 0, .int .u8 0, .int .i64 0, .string { data := #[] }, .slice none 0 0]

/-- The node's cells on their way. -/
def ndV (A B : List UInt8) (k f o p : Int) (d : Value) (wd q st fa tk : Int) (v0 v1 v2 v3 : Value) : List Value :=
  [.string (str A), .string (str B), .int .u8 k, .int .i64 f, .int .i64 o, .int .i64 p, d, .int .i64 wd, .int .i64 q, .int .u8 st, .int .i64 fa, .int .i64 tk, v0, v1, v2, v3]
def zV : Value := .slice none 0 0
/-- The first numbers, one by one. -/
def J1 (w : World) (R : Nat) (A B : List UInt8) (ns : List Int) (wr : World) : Prop :=
  NSt w wr R ndZ (ndV A B 0 (ns.getD 1 0) (ns.getD 2 0) (ns.getD 3 0) zV 0 0 0 0 0 (.int .u8 0) (.int .i64 0) (.string { data := #[] }) zV) [.int .i64 (ns.getD 0 0), .int .i64 0]
theorem J1_step {w a b : World} {R : Nat} {A B : List UInt8} {ns : List Int} {n : Int} {f : Fld} (h : J1 w R A B ns a) (hf : (firstF (w.heap.size + 1) (w.heap.size + 1 + 1))[ns.length]? = some f) (hg : a.grownBy b (some R)) : J1 w R A B (ns ++ [n]) (b.setCell ⟨f.b, f.off, none⟩ (.int .i64 n)) := by
  match ns, hf with
  | [], hf => simp only [firstF, List.length_nil, List.getElem?_cons_zero, Option.some.injEq] at hf; subst hf; exact (NSt.step h hg).setK 0 (by simp) _
  | [x], hf => simp [firstF] at hf; subst hf; exact (NSt.step h hg).setV 3 (by simp [ndV]) _
  | [x, y], hf => simp [firstF] at hf; subst hf; exact (NSt.step h hg).setV 4 (by simp [ndV]) _
  | [x, y, z], hf => simp [firstF] at hf; subst hf; exact (NSt.step h hg).setV 5 (by simp [ndV]) _
  | _ :: _ :: _ :: _ :: l, hf => simp [firstF] at hf
theorem BoxL.has {w : World} {b : Nat} {vs : List Value} (h : BoxL w b vs) (j : Nat) (hj : j < vs.length) : ∃ u, w.cell? ⟨b, j, none⟩ = some u ∧ w.frozen? ⟨b, j, none⟩ = false :=
  ⟨_, h.cell j _ (List.getElem?_eq_getElem hj), h.free j⟩
theorem J1_cell {w a : World} {R : Nat} {A B : List UInt8} {ns : List Int} {f : Fld} (h : J1 w R A B ns a) (hf : f ∈ firstF (w.heap.size + 1) (w.heap.size + 1 + 1)) : ∃ u, a.cell? ⟨f.b, f.off, none⟩ = some u ∧ a.frozen? ⟨f.b, f.off, none⟩ = false := by
  simp only [firstF, List.mem_cons, List.not_mem_nil, or_false] at hf
  rcases hf with rfl | rfl | rfl | rfl
  · exact h.bk.has 0 (by simp)
  · exact h.bv.has 3 (by simp [ndV])
  · exact h.bv.has 4 (by simp [ndV])
  · exact h.bv.has 5 (by simp [ndV])
theorem first_far {n k : Nat} {f : Fld} (hf : f ∈ firstF n k) : f.b = n ∨ f.b = k := by
  simp only [firstF, List.mem_cons, List.not_mem_nil, or_false] at hf
  rcases hf with rfl | rfl | rfl | rfl <;> simp
theorem last_far {n k : Nat} {f : Fld} (hf : f ∈ lastF n k) : f.b = n ∨ f.b = k := by
  simp only [lastF, List.mem_cons, List.not_mem_nil, or_false] at hf
  rcases hf with rfl | rfl | rfl | rfl <;> simp
/-- Numbers in a row of one's own. -/
def OwnN (e : TypeId) (base : Nat) (w : World) (v : Value) (l : List Int) : Prop := w.ownsRow base e 1 v l.length (l.map (Value.int .i64))
theorem OwnN.nil (e : TypeId) (base : Nat) (w : World) : OwnN e base w (.slice none 0 0) [] := World.ownsRow_nil w base e 1
theorem OwnN.ext {e : TypeId} {base : Nat} {w w' : World} {v : Value} {l : List Int} (h : OwnN e base w v l) (hE : Ext w w') : OwnN e base w' v l := hE.own h
theorem OwnN.mono {e : TypeId} {base base' : Nat} {w : World} {v : Value} {l : List Int} (h : OwnN e base w v l) (hb : base' ≤ base) : OwnN e base' w v l := ownsRow_base h hb
theorem OwnN.kept {e : TypeId} {base : Nat} {w w' : World} {v : Value} {l : List Int} {row : Option Nat} (h : OwnN e base w v l) (hg : w.grownBy w' row) (hr : ∀ b, row = some b → b < base) : OwnN e base w' v l := by
  refine World.ownsRow.kept h hg ?_
  cases hv : v.ownBlock with
  | none => exact .inl rfl
  | some b => right; intro e; have := hr b e.symm; have := (World.ownsRow.lt h b hv).1; omega
theorem OwnN.row {e : TypeId} {base : Nat} {w : World} {v : Value} {l : List Int} (h : OwnN e base w v l) (hl : ∀ i, i ∈ l → isI64 i) : intE.Row w l v := by
  have hc := fun g => World.ownsRow.cells h (g := g)
  rcases h.2 with ⟨rfl, h0⟩ | ⟨g, cap, cur, rfl, hb, hg, h1, h2, h5, h6⟩
  · have : l = [] := List.eq_nil_of_length_eq_zero h0
    subst this
    exact Elem.Row.void intE w none
  · refine Elem.Row.mk rfl h1 h2 (Array.getElem?_eq_some_iff.1 hg).1 (fun i hi => ⟨fun _ => .int .i64 l[i], ⟨rfl, hl _ (List.getElem_mem hi)⟩, fun j hj => ?_⟩)
    have hj0 : j = 0 := by have : j < 1 := hj; omega
    subst hj0
    have := hc g rfl i (.int .i64 l[i]) (by simp [hi])
    rw [Addr.add_lit] at this
    show w.cell? ⟨g, 0 + (i * 1 + 0), none⟩ = _
    rw [show 0 + (i * 1 + 0) = 0 + i by omega]
    exact this
/-- The last numbers, one by one. -/
def J2 (e : TypeId) (w : World) (R : Nat) (A B : List UInt8) (f o p : Int) (d : Value) (l : List Int) (K0 : Value) (ns : List Int) (wr : World) : Prop :=
  NSt w wr R ndZ (ndV A B 0 f o p d (ns.getD 0 0) (ns.getD 1 0) 0 (ns.getD 3 0) 0 (.int .u8 0) (.int .i64 0) (.string { data := #[] }) zV) [K0, .int .i64 (ns.getD 2 0)] ∧ OwnN e (w.heap.size + 1 + 1 + 1) wr d l
theorem J2_step {e : TypeId} {w a b : World} {R : Nat} {A B : List UInt8} {f o p : Int} {d : Value} {l : List Int} {K0 : Value} {ns : List Int} {n : Int} {g : Fld} (h : J2 e w R A B f o p d l K0 ns a) (hf : (lastF (w.heap.size + 1) (w.heap.size + 1 + 1))[ns.length]? = some g) (hg : a.grownBy b (some R)) : J2 e w R A B f o p d l K0 (ns ++ [n]) (b.setCell ⟨g.b, g.off, none⟩ (.int .i64 n)) := by
  have hR := h.1.hR
  have ho : OwnN e (w.heap.size + 1 + 1 + 1) (b.setCell ⟨g.b, g.off, none⟩ (.int .i64 n)) d l := by
    refine (h.2.kept hg (fun k hk => by injection hk with hk; omega)).kept (setOne_grown b g.b g.off _) (fun k hk => ?_)
    injection hk with hk
    have := last_far (List.mem_of_getElem? hf)
    omega
  refine ⟨?_, ho⟩
  match ns, hf with
  | [], hf => simp only [lastF, List.length_nil, List.getElem?_cons_zero, Option.some.injEq] at hf; subst hf; exact (NSt.step h.1 hg).setV 7 (by simp [ndV]) _
  | [x], hf => simp [lastF] at hf; subst hf; exact (NSt.step h.1 hg).setV 8 (by simp [ndV]) _
  | [x, y], hf => simp [lastF] at hf; subst hf; exact (NSt.step h.1 hg).setK 1 (by simp) _
  | [x, y, z], hf => simp [lastF] at hf; subst hf; exact (NSt.step h.1 hg).setV 10 (by simp [ndV]) _
  | _ :: _ :: _ :: _ :: l, hf => simp [lastF] at hf
theorem J2_cell {e : TypeId} {w a : World} {R : Nat} {A B : List UInt8} {f o p : Int} {d : Value} {l : List Int} {K0 : Value} {ns : List Int} {g : Fld} (h : J2 e w R A B f o p d l K0 ns a) (hf : g ∈ lastF (w.heap.size + 1) (w.heap.size + 1 + 1)) : ∃ u, a.cell? ⟨g.b, g.off, none⟩ = some u ∧ a.frozen? ⟨g.b, g.off, none⟩ = false := by
  simp only [lastF, List.mem_cons, List.not_mem_nil, or_false] at hf
  rcases hf with rfl | rfl | rfl | rfl
  · exact h.1.bv.has 7 (by simp [ndV])
  · exact h.1.bv.has 8 (by simp [ndV])
  · exact h.1.bk.has 1 (by simp)
  · exact h.1.bv.has 10 (by simp [ndV])

theorem setCells_grown (b : Nat) : ∀ (vs : List Value) (o : Nat) (w : World), w.grownBy (w.setCells b o vs) (some b)
  | [], o, w => ⟨rfl, rfl, rfl, Nat.le_refl _, fun _ _ _ => rfl⟩
  | v :: r, o, w => by rw [World.setCells]; exact grown_trans (setOne_grown w b o v) (setCells_grown b r (o + 1) _)
theorem BoxL.range {w : World} {b : Nat} {vs : List Value} (h : BoxL w b vs) : w.rangeAt b 0 vs := fun j v hv => by rw [Nat.zero_add]; exact h.cell j v hv
theorem BoxL.there {w : World} {b n : Nat} {vs : List Value} (h : BoxL w b vs) (hn : n ≤ vs.length) : w.there b 0 n := fun j hj => by
  rw [Nat.zero_add]
  exact ⟨by rw [h.cell j _ (List.getElem?_eq_getElem (by omega))]; rfl, h.free j⟩
/-- The node's cells are the node's. -/
theorem ndV_cells {s : Option (List UInt8)} {A B : List UInt8} {c0 c1 c2 c3 f0 f1 f2 f3 G : Int} {t : Tr} {d k n x l : Value} (hA : (sA s).1 = A) (hB : (sB s).1 = B) (hC : (sC s).1 = [c0, c1, c2, c3]) (hF : (sF s).1 = [f0, f1, f2, f3]) (hG : G = (sG s).1)
    (h0 : 0 ≤ c0) (h1 : c0 ≤ 255) (h2 : 0 ≤ f2) (h3 : f2 ≤ 255) : ndV A B c0 c1 c2 c3 d f0 f1 f2 f3 G k n x l = ndCells (ndOf s t) d k n x l := by
  unfold ndV ndCells ndOf mkNd
  rw [hA, hB, hC, hF, ← hG]
  simp only [List.getD_cons_zero, List.getD_cons_succ]
  rw [show ((UInt8.ofNat c0.toNat).toNat : Int) = c0 by rw [UInt8.toNat_ofNat']; omega, show ((UInt8.ofNat f2.toNat).toNat : Int) = f2 by rw [UInt8.toNat_ofNat']; omega]
theorem ndOf_wf {s : Option (List UInt8)} {t : Tr} {c0 c1 c2 c3 f0 f1 f2 f3 : Int} (hA : (sA s).1.length ≤ 400) (hB : (sB s).1.length ≤ 20) (hC : (sC s).1 = [c0, c1, c2, c3]) (hF : (sF s).1 = [f0, f1, f2, f3]) (ci : isI64 c0 ∧ isI64 c1 ∧ isI64 c2 ∧ isI64 c3) (fi : isI64 f0 ∧ isI64 f1 ∧ isI64 f2 ∧ isI64 f3) (ht : NumsT t) : ndWf (ndOf s t) := by
  unfold ndWf ndOf mkNd
  rw [hC, hF]
  simp only [List.getD_cons_zero, List.getD_cons_succ]
  exact ⟨by omega, by omega, ci.2.1, ci.2.2.1, ci.2.2.2, fi.1, fi.2.1, fi.2.2.2, numR_i64 _ _ _, ht, fun i hi => repR_i64 _ _ _ _ i hi⟩
end Fm
