/- The reader of fragments: its state, and what it reads: plain facts. No program is imported. -/
import Derived.Test.YtnbalamacpcanaaDoorFr
import Derived.Test.YtnbalamacpcanaaDoorTreeF
namespace Fm
open Go Go.RowKit

/-- Block R is the reader's: so much is left; is it bad? -/
structure RdF (w0 w : World) (R : Nat) (v : Value) (xs : List UInt8) (bad : Bool) : Prop where
  ext : Ext w0 w
  old : w0.heap.size ≤ R
  lt : R < w.heap.size
  c0 : w.cell? ⟨R, 0, none⟩ = some v
  c1 : w.cell? ⟨R, 1, none⟩ = some (.bool bad)
  f0 : w.frozen? ⟨R, 0, none⟩ = false
  f1 : w.frozen? ⟨R, 1, none⟩ = false
  bytes : Bytes w0 v xs
theorem RdF.then {w0 w w' : World} {R : Nat} {v : Value} {xs : List UInt8} {bad : Bool} (h : RdF w0 w R v xs bad) (hE : Ext w w') : RdF w0 w' R v xs bad :=
  ⟨h.ext.trans hE, h.old, Nat.lt_of_lt_of_le h.lt hE.size, (hE.cell (p := ⟨R, 0, none⟩) h.lt).trans h.c0, (hE.cell (p := ⟨R, 1, none⟩) h.lt).trans h.c1, (hE.frozen (p := ⟨R, 0, none⟩) h.lt).trans h.f0, (hE.frozen (p := ⟨R, 1, none⟩) h.lt).trans h.f1, h.bytes⟩
theorem RdF.kept {w0 w w' : World} {R : Nat} {v : Value} {xs : List UInt8} {bad : Bool} {row : Option Nat} (h : RdF w0 w R v xs bad) (hg : w.grownBy w' row) (hr : ∀ k, row = some k → w0.heap.size ≤ k ∧ k ≠ R) : RdF w0 w' R v xs bad := by
  have hne : some R ≠ row := fun e => (hr R e.symm).2 rfl
  exact ⟨h.ext.grown hg (fun k hk => (hr k hk).1), h.old, Nat.lt_of_lt_of_le h.lt hg.size, (hg.cell_far ⟨R, 0, none⟩ h.lt hne).trans h.c0, (hg.cell_far ⟨R, 1, none⟩ h.lt hne).trans h.c1, (hg.frozen_far ⟨R, 0, none⟩ h.lt hne).trans h.f0, (hg.frozen_far ⟨R, 1, none⟩ h.lt hne).trans h.f1, h.bytes⟩
theorem setOne_grown (w : World) (R j : Nat) (u : Value) : w.grownBy (w.setCell ⟨R, j, none⟩ u) (some R) :=
  ⟨rfl, rfl, rfl, by simp [World.setCell], fun k _ hk => Below.heap_setCell _ _ _ _ (fun e => hk (by simp [e]))⟩
theorem RdF.setBad {w0 w : World} {R : Nat} {v : Value} {xs : List UInt8} {bad : Bool} (h : RdF w0 w R v xs bad) (b : Bool) : RdF w0 (w.setCell ⟨R, 1, none⟩ (.bool b)) R v xs b := by
  refine ⟨h.ext.setCell h.old _, h.old, by simp [h.lt], ?_, World.cell?_setCell_same _ _ _ h.c1, by rw [World.frozen?_setCell]; exact h.f0, by rw [World.frozen?_setCell]; exact h.f1, h.bytes⟩
  exact (World.cell?_setCell_other w _ _ _ (fun e => by injection e with _ e _; omega)).trans h.c0
theorem RdF.setLeft {w0 w : World} {R : Nat} {v v' : Value} {xs ys : List UInt8} {bad : Bool} (h : RdF w0 w R v xs bad) (hb : Bytes w0 v' ys) : RdF w0 (w.setCell ⟨R, 0, none⟩ v') R v' ys bad := by
  refine ⟨h.ext.setCell h.old _, h.old, by simp [h.lt], World.cell?_setCell_same _ _ _ h.c0, ?_, by rw [World.frozen?_setCell]; exact h.f0, by rw [World.frozen?_setCell]; exact h.f1, hb⟩
  exact (World.cell?_setCell_other w _ _ _ (fun e => by injection e with _ e _; omega)).trans h.c1

/-- The state: what is left; none: it is bad. -/
def RdS (w0 w : World) (R : Nat) (s : Option (List UInt8)) : Prop := ∃ v ys, RdF w0 w R v ys s.isNone ∧ ∀ xs, s = some xs → ys = xs
theorem RdS.then {w0 w w' : World} {R : Nat} {s : Option (List UInt8)} (h : RdS w0 w R s) (hE : Ext w w') : RdS w0 w' R s := let ⟨v, ys, h, k⟩ := h; ⟨v, ys, h.then hE, k⟩
theorem RdS.kept {w0 w w' : World} {R : Nat} {s : Option (List UInt8)} {row : Option Nat} (h : RdS w0 w R s) (hg : w.grownBy w' row) (hr : ∀ k, row = some k → w0.heap.size ≤ k ∧ k ≠ R) : RdS w0 w' R s :=
  let ⟨v, ys, h, k⟩ := h; ⟨v, ys, h.kept hg hr, k⟩
theorem RdS.lt {w0 w : World} {R : Nat} {s : Option (List UInt8)} (h : RdS w0 w R s) : R < w.heap.size := let ⟨_, _, h, _⟩ := h; h.lt
theorem RdS.ext {w0 w : World} {R : Nat} {s : Option (List UInt8)} (h : RdS w0 w R s) : Ext w0 w := let ⟨_, _, h, _⟩ := h; h.ext
theorem RdS.old {w0 w : World} {R : Nat} {s : Option (List UInt8)} (h : RdS w0 w R s) : w0.heap.size ≤ R := let ⟨_, _, h, _⟩ := h; h.old

/-- A number from 0 to another one. -/
def numS (high : Int) (s : Option (List UInt8)) : Int × Option (List UInt8) := match s.bind (hdB high) with | some (n, r) => (n, some r) | none => (0, none)
/-- A text. -/
def textS (s : Option (List UInt8)) : List UInt8 × Option (List UInt8) := match s.bind (hdX 20) with | some (t, r) => (t, some r) | none => ([], none)
theorem numS_none (high : Int) : numS high none = (0, none) := rfl
theorem textS_none : textS none = ([], none) := rfl
theorem numS_some {high : Int} {xs r : List UInt8} {n : Int} (h : hdB high xs = some (n, r)) : numS high (some xs) = (n, some r) := by unfold numS; rw [Option.bind_some, h]
theorem numS_bad {high : Int} {xs : List UInt8} (h : hdB high xs = none) : numS high (some xs) = (0, none) := by unfold numS; rw [Option.bind_some, h]
theorem textS_some {xs r t : List UInt8} (h : hdX 20 xs = some (t, r)) : textS (some xs) = (t, some r) := by unfold textS; rw [Option.bind_some, h]
theorem textS_bad {xs : List UInt8} (h : hdX 20 xs = none) : textS (some xs) = ([], none) := by unfold textS; rw [Option.bind_some, h]
theorem numS_range (high : Int) (hh : 0 ≤ high) (s : Option (List UInt8)) : 0 ≤ (numS high s).1 ∧ (numS high s).1 ≤ high := by
  unfold numS
  cases h : s.bind (hdB high) with
  | none => exact ⟨by simp, by simpa using hh⟩
  | some p =>
    obtain ⟨n, r⟩ := p
    obtain ⟨xs, _, h⟩ := Option.bind_eq_some_iff.1 h
    obtain ⟨a, b, _⟩ := hdB_inv h
    exact ⟨a, b⟩
theorem textS_len (s : Option (List UInt8)) : (textS s).1.length ≤ 20 := by
  unfold textS
  cases h : s.bind (hdX 20) with
  | none => simp
  | some p =>
    obtain ⟨n, r⟩ := p
    obtain ⟨xs, _, h⟩ := Option.bind_eq_some_iff.1 h
    have := (hdX_inv h).1
    simp only; omega
/-- So many: each is taken in, as long as it is not bad. -/
def loopS {α : Type} (f : Option (List UInt8) → α × Option (List UInt8)) : Nat → List α → Option (List UInt8) → List α × Option (List UInt8)
  | 0, acc, s => (acc, s)
  | n + 1, acc, s => loopS f n (if (f s).2.isNone then acc else acc ++ [(f s).1]) (f s).2
def manyS {α : Type} (high : Int) (f : Option (List UInt8) → α × Option (List UInt8)) (s : Option (List UInt8)) : List α × Option (List UInt8) := loopS f (numS high s).1.toNat [] (numS high s).2
/-- An item. -/
def itemS (s : Option (List UInt8)) : It × Option (List UInt8) :=
  let a := textS s
  let b := numS 1 a.2
  let c := manyS 20 textS b.2
  let d := numS 400 c.2
  let e := if b.1 = 1 then textS d.2 else ([], d.2)
  let f := if b.1 = 1 then numS 40 e.2 else (0, e.2)
  let x : It := ⟨a.1, UInt8.ofNat b.1.toNat, c.1, e.1, f.1, d.1⟩
  (x, if f.2.isNone || !itB x then none else f.2)
/-- All of it. -/
def fragS (s : Option (List UInt8)) : List It × Option (List UInt8) := manyS 40 itemS s
end Fm
