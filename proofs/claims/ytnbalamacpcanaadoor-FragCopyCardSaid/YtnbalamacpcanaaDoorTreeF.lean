/- The room's cell, and what fits does to it: plain facts. No program is imported. -/
import Derived.Test.YtnbalamacpcanaaDoorTreeB
import Derived.Deep.AppendLies
namespace Fm
open Go Go.RowKit

theorem grown_trans {a b c : World} {row : Option Nat} (h : a.grownBy b row) (k : b.grownBy c row) : a.grownBy c row :=
  ⟨k.os.trans h.os, k.tape.trans h.tape, k.output.trans h.output, Nat.le_trans h.size k.size,
    fun i hi hne => (k.block i (Nat.lt_of_lt_of_le hi h.size) hne).trans (h.block i hi hne)⟩
theorem grown_ext {a b : World} (h : Ext a b) (row : Option Nat) : a.grownBy b row := by
  have := h.grownBy
  exact ⟨this.os, this.tape, this.output, this.size, fun i hi _ => this.block i hi (by simp)⟩

/-- Block R is the room's: so much is left. -/
structure RoomAt (w0 w : World) (R : Nat) (left : Int) : Prop where
  ext : Ext w0 w
  old : w0.heap.size ≤ R
  lt : R < w.heap.size
  cell : w.cell? ⟨R, 0, none⟩ = some (.int .i64 left)
  free : w.frozen? ⟨R, 0, none⟩ = false
theorem RoomAt.then {w0 w w' : World} {R : Nat} {left : Int} (h : RoomAt w0 w R left) (hE : Ext w w') : RoomAt w0 w' R left :=
  ⟨h.ext.trans hE, h.old, Nat.lt_of_lt_of_le h.lt hE.size, (hE.cell (p := ⟨R, 0, none⟩) h.lt).trans h.cell, (hE.frozen (p := ⟨R, 0, none⟩) h.lt).trans h.free⟩
theorem RoomAt.set {w0 w : World} {R : Nat} {left : Int} (h : RoomAt w0 w R left) (x : Int) : RoomAt w0 (w.setCell ⟨R, 0, none⟩ (.int .i64 x)) R x ∧ w.grownBy (w.setCell ⟨R, 0, none⟩ (.int .i64 x)) (some R) := by
  refine ⟨⟨h.ext.setCell h.old _, h.old, by simp [h.lt], ?_, ?_⟩, ?_⟩
  · apply World.cell?_setCell_same; exact h.cell
  · rw [World.frozen?_setCell]; exact h.free
  · exact ⟨rfl, rfl, rfl, by simp [World.setCell], fun k _ hk => Below.heap_setCell _ _ _ _ (fun e => hk (by simp [e]))⟩

/-- What fits answers, and leaves. -/
def FitsPost (w0 w : World) (R : Nat) (left : Int) (t : Tr) (d : Nat) (e : Ending) (w' : World) : Prop :=
  ∃ (b : Bool) (left' : Int), e = .returned (.bool b) ∧ (b = true ↔ kindsT t = true ∧ deepT t ≤ d ∧ (partsT t : Int) ≤ left) ∧ (b = true → left' = left - partsT t) ∧ -1 ≤ left' ∧ left' ≤ left ∧ RoomAt w0 w' R left' ∧ w.grownBy w' (some R)

/-- The four cells of an element in a world that has grown, and the element in the old one. -/
theorem elem4o {w wr : World} {l : List Tr} {b off : Nat} {C : Nat → Nat → Value} (hE : Ext w wr) (hb : b < w.heap.size)
    (hc : ∀ i j, i < l.length → j < 4 → w.cell? ⟨b, off + (i * 4 + j), none⟩ = some (C i j)) (h5 : ∀ (i : Nat) (hi : i < l.length), Lies w l[i] (.agg #[C i 0, C i 1, C i 2, C i 3])) (k : Nat) (hk : k < l.length) :
    ∃ (k0 : Int) (n0 : Int) (s0 : ByteArray) (a0 : Option Addr) (m0 c0 : Nat), wr.cell? ⟨b, off + k * 4, none⟩ = some (.int .u8 k0) ∧ wr.cell? ⟨b, off + k * 4 + 1, none⟩ = some (.int .i64 n0) ∧ wr.cell? ⟨b, off + k * 4 + 2, none⟩ = some (.string s0) ∧ wr.cell? ⟨b, off + k * 4 + 3, none⟩ = some (.slice a0 m0 c0) ∧
      Lies w l[k] (.agg #[.int .u8 k0, .int .i64 n0, .string s0, .slice a0 m0 c0]) := by
  obtain ⟨k0, n0, s0, a0, m0, c0, e0, e1, e2, e3, hx⟩ := elem4 (Ext.refl w) hb hc h5 k hk
  exact ⟨k0, n0, s0, a0, m0, c0, (hE.cell (p := ⟨b, _, none⟩) hb).trans e0, (hE.cell (p := ⟨b, _, none⟩) hb).trans e1, (hE.cell (p := ⟨b, _, none⟩) hb).trans e2, (hE.cell (p := ⟨b, _, none⟩) hb).trans e3, hx⟩
theorem deepL_mem (l : List Tr) (k : Nat) (hk : k < l.length) : deepT l[k] ≤ deepL l := by
  have h := deepL_at l k hk
  have := deepL_take_le l (k + 1)
  omega
theorem all_mem (l : List Tr) (k : Nat) (hk : k < l.length) (h : l.all kindsT = true) : kindsT l[k] = true := List.all_eq_true.1 h _ (List.getElem_mem hk)

/-- What is asked of a list, and so much is left. -/
def ListPost (w0 w : World) (R : Nat) (left : Int) (l : List Tr) (d : Nat) (b : Bool) (w' : World) : Prop :=
  ∃ left' : Int, (b = true ↔ l.all kindsT = true ∧ deepL l ≤ d ∧ (partsL l : Int) ≤ left) ∧ (b = true → left' = left - partsL l) ∧ -1 ≤ left' ∧ left' ≤ left ∧ RoomAt w0 w' R left' ∧ w.grownBy w' (some R)
end Fm
