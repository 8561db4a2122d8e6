/- Walks: op.Right. -/
import Derived.Test.YtdienbcjfljjnaaDoorOpA
import Derived.Test.YtdienbcjfljjnaaDoorVaH
import Derived.Test.YtdienbcjfljjnaaDoorTake
open Go.RowKit Go.Shelf
namespace Go.Proofs.YtdienbcjfljjnaaDoor
open Go Go.Proofs Fm

theorem kinds_all (P : UInt8 → Prop) (h1 : P 1) (h2 : P 2) (h3 : P 3) (h4 : P 4) (h5 : P 5) (h : ∀ k : UInt8, oN k = 0 → oK k = false → oF k = false → oQ k = false → oI k = false → oT k = false → oV k = false → P k) (k : UInt8) : P k := by
  by_cases e1 : k = 1
  · rw [e1]; exact h1
  by_cases e2 : k = 2
  · rw [e2]; exact h2
  by_cases e3 : k = 3
  · rw [e3]; exact h3
  by_cases e4 : k = 4
  · rw [e4]; exact h4
  by_cases e5 : k = 5
  · rw [e5]; exact h5
  refine h k (by unfold oN; rw [if_neg e1, if_neg e2, if_neg e3, if_neg e4, if_neg e5]) ?_ (by unfold oF; simp [e1, e3]) (by unfold oQ; simp [e1]) (by unfold oI; simp [e2, e3, e4, e5]) (by unfold oT; simp [e3, e4]) (by unfold oV; simp [e3])
  have n1 : k.toNat ≠ 1 := fun e => e1 (u8_is (by decide) e)
  have n2 : k.toNat ≠ 2 := fun e => e2 (u8_is (by decide) e)
  have n3 : k.toNat ≠ 3 := fun e => e3 (u8_is (by decide) e)
  have n4 : k.toNat ≠ 4 := fun e => e4 (u8_is (by decide) e)
  have n5 : k.toNat ≠ 5 := fun e => e5 (u8_is (by decide) e)
  unfold oK
  simp only [Bool.and_eq_false_iff, decide_eq_false_iff_not]
  omega
theorem bitsK (k : UInt8) : (oN k != 0) = oK k := kinds_all (fun k => (oN k != 0) = oK k) (by decide) (by decide) (by decide) (by decide) (by decide) (fun k h hk _ _ _ _ _ => by rw [h, hk]; rfl) k
theorem bitsF (k : UInt8) : (bits BinOp.and IntKind.u8 (oN k) 1 != 0) = oF k := kinds_all (fun k => (bits BinOp.and IntKind.u8 (oN k) 1 != 0) = oF k) (by decide) (by decide) (by decide) (by decide) (by decide) (fun k h _ hk _ _ _ _ => by rw [h, hk]; rfl) k
theorem bitsQ (k : UInt8) : (bits BinOp.and IntKind.u8 (oN k) 2 != 0) = oQ k := kinds_all (fun k => (bits BinOp.and IntKind.u8 (oN k) 2 != 0) = oQ k) (by decide) (by decide) (by decide) (by decide) (by decide) (fun k h _ _ hk _ _ _ => by rw [h, hk]; rfl) k
theorem bitsI (k : UInt8) : (bits BinOp.and IntKind.u8 (oN k) 4 != 0) = oI k := kinds_all (fun k => (bits BinOp.and IntKind.u8 (oN k) 4 != 0) = oI k) (by decide) (by decide) (by decide) (by decide) (by decide) (fun k h _ _ _ hk _ _ => by rw [h, hk]; rfl) k
theorem bitsT (k : UInt8) : (bits BinOp.and IntKind.u8 (oN k) 8 != 0) = oT k := kinds_all (fun k => (bits BinOp.and IntKind.u8 (oN k) 8 != 0) = oT k) (by decide) (by decide) (by decide) (by decide) (by decide) (fun k h _ _ _ _ hk _ => by rw [h, hk]; rfl) k
theorem bitsV (k : UInt8) : (bits BinOp.and IntKind.u8 (oN k) 16 != 0) = oV k := kinds_all (fun k => (bits BinOp.and IntKind.u8 (oN k) 16 != 0) = oV k) (by decide) (by decide) (by decide) (by decide) (by decide) (fun k h _ _ _ _ _ hk => by rw [h, hk]; rfl) k
/-- The five things that an operation of a kind has, or has not. -/
def r1O (o : Opn) : Bool := bif oF o.what then fragB o.frg else decide (o.frg.length = 0)
def r2O (o : Opn) : Bool := bif oQ o.what then decide (0 ≤ o.quo) && decide (o.quo ≤ 400) else decide (o.quo = 0)
def r3O (o : Opn) : Bool := bif oI o.what then idB o.id else decide (o.id.length = 0)
def r4O (o : Opn) : Bool := bif oT o.what then decide (1 ≤ o.tok) else decide (o.tok = 0)
noncomputable def r5O (o : Opn) : Bool := bif oV o.what then rightT o.val else eqT o.val zT
theorem Lies_zT (w : World) : Lies w zT (.agg #[.int .u8 0, .int .i64 0, .string { data := #[] }, .slice none 0 0]) := Lies.mk (k := 0) (s := []) (by unfold isI64; omega) (by simp) (LiesS.nil w none)

end Go.Proofs.YtdienbcjfljjnaaDoor
