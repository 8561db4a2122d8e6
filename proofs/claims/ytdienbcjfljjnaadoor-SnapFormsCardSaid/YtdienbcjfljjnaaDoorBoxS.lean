/- A struct's value into a box that was made last, in one step; whole structs out of and into slices. -/
import Derived.Test.YtdienbcjfljjnaaDoorPlA
import Derived.Deep.WholeRow
import Derived.Deep.MidRow
open Go.RowKit
namespace Fm
open Go Go.RowKit
/-- 'x := v' of a struct, the cells whatever: the box was made last. -/
theorem wpList_storeBox {P : Program} {ops : Array Oper} {rest : List Oper} {op : Oper} {a : Act} {w : World} {Q : Exit → Act → World → Prop} (hgd : op.guard = none) (ty : TypeId) (x y : Operand) (ho : op.op = .store ty x y)
    (w0 : World) (c : Array Value) (cs : List Value) (b : Nat) (hw : w = w0.alloc (.cells c ty)) (hb : b = w0.heap.size) (hx : a.eval x = .pointer (some ⟨b, 0, none⟩)) (hy : a.eval y = .agg cs.toArray)
    {n : Nat} (hi : (P.info? ty).map (·.size) = some n) (hc : c.size = n) (hn : cs.length = n) (h1 : ∀ u, u ∈ cs → u.oneCell' = true)
    (h : wpList P ops Q rest (a.put op.dst undef) (w0.alloc (.cells cs.toArray ty))) : wpList P ops Q (op :: rest) a w :=
  wpList_plain hgd fun _ hK => by
    subst hw hb hn
    unfold Oper.wp execOp
    simp only [ho, hx, hy, Instr.storeAt, Instr.sureAddr, Sem.run_bind, Sem.run_pure, Result.andThen_ok, run_storeVar_new w0 ty c cs.toArray (by simpa using hi) (by simpa using hc) (all_oneCell_toArray h1)]
    exact hK _ _ h
theorem rangeAt_new (w : World) (cs : List Value) (e : TypeId) : (w.alloc (.cells cs.toArray e)).rangeAt w.heap.size 0 cs := fun j v hv => by
  rw [Nat.zero_add]; exact (BoxL.new w cs e).cell j v hv
theorem rangeAt_ext {w w' : World} {b o : Nat} {cs : List Value} (h : w.rangeAt b o cs) (hE : Ext w w') (hb : b < w.heap.size) : w'.rangeAt b o cs := fun j v hv => (hE.cell (p := ⟨b, o + j, none⟩) hb).trans (h j v hv)
end Fm
