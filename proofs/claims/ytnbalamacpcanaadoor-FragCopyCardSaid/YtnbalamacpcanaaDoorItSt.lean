/- What item of frag's reader holds on its way: plain facts. No program is imported. -/
import Derived.Test.YtnbalamacpcanaaDoorRdF
import Derived.Test.YtnbalamacpcanaaDoorOwnF
import Derived.Test.YtnbalamacpcanaaDoorBoxL
namespace Fm
open Go Go.RowKit

theorem grown_row' {a b c : World} {r1 row : Option Nat} (h : a.grownBy b r1) (k : b.grownBy c row) (hr : ∀ x, row = some x → a.heap.size ≤ x) : a.grownBy c r1 :=
  ⟨k.os.trans h.os, k.tape.trans h.tape, k.output.trans h.output, Nat.le_trans h.size k.size,
    fun i hi hne => (k.block i (Nat.lt_of_lt_of_le hi h.size) (fun e => by have := hr i e.symm; omega)).trans (h.block i hi hne)⟩
/-- The reader's state; the result's box; the item's box. -/
structure ItSt (w0 w wr : World) (R Pb V : Nat) (s : Option (List UInt8)) (zs vs : List Value) : Prop where
  rd : RdS w0 wr R s
  g : w.grownBy wr (some R)
  pb : BoxL wr Pb zs
  bv : BoxL wr V vs
  hR : R < w.heap.size
  hP : w.heap.size ≤ Pb
  hV : Pb < V
theorem ItSt.step {w0 w wr wx : World} {R Pb V : Nat} {s s' : Option (List UInt8)} {zs vs : List Value} (h : ItSt w0 w wr R Pb V s zs vs) (hr : RdS w0 wx R s') (hg : wr.grownBy wx (some R)) : ItSt w0 w wx R Pb V s' zs vs :=
  ⟨hr, grown_trans h.g hg, h.pb.kept hg (fun e => by injection e with e; have := h.hR; have := h.hP; omega), h.bv.kept hg (fun e => by injection e with e; have := h.hR; have := h.hP; have := h.hV; omega), h.hR, h.hP, h.hV⟩
theorem ItSt.then {w0 w wr wx : World} {R Pb V : Nat} {s : Option (List UInt8)} {zs vs : List Value} (h : ItSt w0 w wr R Pb V s zs vs) (hE : Ext wr wx) : ItSt w0 w wx R Pb V s zs vs :=
  ⟨h.rd.then hE, grown_trans h.g (grown_ext hE _), h.pb.ext hE, h.bv.ext hE, h.hR, h.hP, h.hV⟩
theorem ItSt.set {w0 w wr : World} {R Pb V : Nat} {s : Option (List UInt8)} {zs vs : List Value} (h : ItSt w0 w wr R Pb V s zs vs) (j : Nat) (hj : j < vs.length) (u : Value) : ItSt w0 w (wr.setCell ⟨V, j, none⟩ u) R Pb V s zs (vs.set j u) := by
  have hg := setOne_grown wr V j u
  have a := h.hR; have b := h.hP; have c := h.hV
  have d := h.rd.old
  exact ⟨h.rd.kept hg (fun k hk => by injection hk with hk; omega), grown_row' h.g hg (fun x hx => by injection hx with hx; omega), h.pb.kept hg (fun e => by injection e with e; omega), h.bv.set j hj u, a, b, c⟩
theorem ItSt.setP {w0 w wr : World} {R Pb V : Nat} {s : Option (List UInt8)} {zs vs : List Value} (h : ItSt w0 w wr R Pb V s zs vs) (j : Nat) (hj : j < zs.length) (u : Value) : ItSt w0 w (wr.setCell ⟨Pb, j, none⟩ u) R Pb V s (zs.set j u) vs := by
  have hg := setOne_grown wr Pb j u
  have a := h.hR; have b := h.hP; have c := h.hV
  have d := h.rd.old
  exact ⟨h.rd.kept hg (fun k hk => by injection hk with hk; omega), grown_row' h.g hg (fun x hx => by injection hx with hx; omega), h.pb.set j hj u, h.bv.kept hg (fun e => by injection e with e; omega), a, b, c⟩
/-- The mark is set. -/
theorem ItSt.bad {w0 w wr : World} {R Pb V : Nat} {s : Option (List UInt8)} {zs vs : List Value} (h : ItSt w0 w wr R Pb V s zs vs) (b : Bool) (s' : Option (List UInt8)) (hb : b = s'.isNone) (hs : ∀ xs, s' = some xs → s = some xs) : ItSt w0 w (wr.setCell ⟨R, 1, none⟩ (.bool b)) R Pb V s' zs vs := by
  obtain ⟨v, ys, hF, hys⟩ := h.rd
  subst hb
  exact h.step ⟨v, ys, hF.setBad _, fun xs hx => hys xs (hs xs hx)⟩ (setOne_grown wr R 1 _)
theorem RdS.mark {w0 w : World} {R : Nat} {s : Option (List UInt8)} (h : RdS w0 w R s) : w.cell? ⟨R, 1, none⟩ = some (.bool s.isNone) := let ⟨_, _, h, _⟩ := h; h.c1
theorem RdS.free {w0 w : World} {R : Nat} {s : Option (List UInt8)} (h : RdS w0 w R s) : w.frozen? ⟨R, 1, none⟩ = false := let ⟨_, _, h, _⟩ := h; h.f1
/-- The results' six cells are written. -/
def set6W (w : World) (B : Nat) (c0 c1 c2 c3 c4 c5 : Value) : World := (((((w.setCell ⟨B, 0, none⟩ c0).setCell ⟨B, 1, none⟩ c1).setCell ⟨B, 2, none⟩ c2).setCell ⟨B, 3, none⟩ c3).setCell ⟨B, 4, none⟩ c4).setCell ⟨B, 5, none⟩ c5
theorem ItSt.done {w0 w wr : World} {R Pb V : Nat} {s : Option (List UInt8)} {z0 z1 z2 z3 z4 z5 : Value} {vs : List Value} (h : ItSt w0 w wr R Pb V s [z0, z1, z2, z3, z4, z5] vs) (c0 c1 c2 c3 c4 c5 : Value) :
    ItSt w0 w (set6W wr Pb c0 c1 c2 c3 c4 c5) R Pb V s [c0, c1, c2, c3, c4, c5] vs :=
  (((((h.setP 0 (by simp) c0).setP 1 (by simp) c1).setP 2 (by simp) c2).setP 3 (by simp) c3).setP 4 (by simp) c4).setP 5 (by simp) c5
end Fm
