/- The reader of states: its state, and what it reads: plain facts. No program is imported. -/
import Derived.Test.YtdienbcjfljjnaaDoorPlS
import Derived.Test.YtdienbcjfljjnaaDoorPlF
namespace Fm
open Go Go.RowKit

/-- A number from one to another one. -/
def numR (lo hi : Int) (s : Option (List UInt8)) : Int × Option (List UInt8) := match s.bind (hdR lo hi) with | some (n, r) => (n, some r) | none => (0, none)
/-- A text. -/
def textR (top : Int) (s : Option (List UInt8)) : List UInt8 × Option (List UInt8) := match s.bind (hdX top) with | some (t, r) => (t, some r) | none => ([], none)
theorem numR_none (lo hi : Int) : numR lo hi none = (0, none) := rfl
theorem textR_none (top : Int) : textR top none = ([], none) := rfl
theorem numR_some {lo hi : Int} {xs r : List UInt8} {n : Int} (h : hdR lo hi xs = some (n, r)) : numR lo hi (some xs) = (n, some r) := by unfold numR; rw [Option.bind_some, h]
theorem numR_bad {lo hi : Int} {xs : List UInt8} (h : hdR lo hi xs = none) : numR lo hi (some xs) = (0, none) := by unfold numR; rw [Option.bind_some, h]
theorem textR_some {top : Int} {xs r t : List UInt8} (h : hdX top xs = some (t, r)) : textR top (some xs) = (t, some r) := by unfold textR; rw [Option.bind_some, h]
theorem textR_bad {top : Int} {xs : List UInt8} (h : hdX top xs = none) : textR top (some xs) = ([], none) := by unfold textR; rw [Option.bind_some, h]
theorem numR_inv {lo hi : Int} {s : Option (List UInt8)} {r : List UInt8} (h : (numR lo hi s).2 = some r) : ∃ xs, s = some xs ∧ hdR lo hi xs = some ((numR lo hi s).1, r) := by
  cases s with
  | none => cases h
  | some xs =>
    cases hq : hdR lo hi xs with
    | none => rw [numR_bad hq] at h; cases h
    | some p =>
      obtain ⟨n, r2⟩ := p
      rw [numR_some hq] at h ⊢
      injection h with h
      subst h
      exact ⟨xs, rfl, hq⟩
theorem textR_inv {top : Int} {s : Option (List UInt8)} {r : List UInt8} (h : (textR top s).2 = some r) : ∃ xs, s = some xs ∧ hdX top xs = some ((textR top s).1, r) := by
  cases s with
  | none => cases h
  | some xs =>
    cases hq : hdX top xs with
    | none => rw [textR_bad hq] at h; cases h
    | some p =>
      obtain ⟨n, r2⟩ := p
      rw [textR_some hq] at h ⊢
      injection h with h
      subst h
      exact ⟨xs, rfl, hq⟩
/-- A number is 0, or where it may be. -/
theorem numR_range (lo hi : Int) (s : Option (List UInt8)) : (numR lo hi s).1 = 0 ∨ (lo ≤ (numR lo hi s).1 ∧ (numR lo hi s).1 ≤ hi) := by
  cases s with
  | none => exact .inl rfl
  | some xs =>
    cases hq : hdR lo hi xs with
    | none => rw [numR_bad hq]; exact .inl rfl
    | some p =>
      obtain ⟨n, r⟩ := p
      rw [numR_some hq]
      obtain ⟨a, b, _⟩ := hdR_inv hq
      exact .inr ⟨a, b⟩
theorem numR_i64 (lo hi : Int) (s : Option (List UInt8)) : isI64 (numR lo hi s).1 := by
  cases s with
  | none => exact (by unfold isI64; omega : isI64 0)
  | some xs =>
    cases hq : hdR lo hi xs with
    | none => rw [numR_bad hq]; exact (by unfold isI64; omega : isI64 0)
    | some p =>
      obtain ⟨n, r⟩ := p
      rw [numR_some hq]
      exact (hdR_inv hq).2.2.1
theorem textR_len (top : Int) (h0 : 0 ≤ top) (s : Option (List UInt8)) : ((textR top s).1.length : Int) ≤ top := by
  cases s with
  | none => exact h0
  | some xs =>
    cases hq : hdX top xs with
    | none => rw [textR_bad hq]; exact h0
    | some p =>
      obtain ⟨n, r⟩ := p
      rw [textR_some hq]
      exact (hdX_inv hq).1
/-- Numbers, one behind the other. -/
def allR : List (Int × Int) → Option (List UInt8) → List Int × Option (List UInt8)
  | [], s => ([], s)
  | f :: fs, s => ((numR f.1 f.2 s).1 :: (allR fs (numR f.1 f.2 s).2).1, (allR fs (numR f.1 f.2 s).2).2)
theorem allR_len : ∀ (fs : List (Int × Int)) (s : Option (List UInt8)), (allR fs s).1.length = fs.length
  | [], s => rfl
  | f :: fs, s => by rw [allR]; simp only [List.length_cons]; rw [allR_len fs]
theorem allR_i64 : ∀ (fs : List (Int × Int)) (s : Option (List UInt8)) (n : Int), n ∈ (allR fs s).1 → isI64 n
  | [], s, n, h => by cases h
  | f :: fs, s, n, h => by
    rw [allR] at h
    rcases List.mem_cons.1 h with rfl | h
    · exact numR_i64 _ _ _
    · exact allR_i64 fs _ n h
theorem allR_snoc : ∀ (fs : List (Int × Int)) (f : Int × Int) (s : Option (List UInt8)), allR (fs ++ [f]) s = ((allR fs s).1 ++ [(numR f.1 f.2 (allR fs s).2).1], (numR f.1 f.2 (allR fs s).2).2)
  | [], f, s => rfl
  | g :: fs, f, s => by
    rw [List.cons_append, allR, allR_snoc fs f, allR]
    rfl
theorem allR_some : ∀ (fs : List (Int × Int)) (s : Option (List UInt8)) (r : List UInt8), (allR fs s).2 = some r → ∃ xs, s = some xs ∧ readN fs xs = some ((allR fs s).1, r)
  | [], s, r, h => ⟨r, h, rfl⟩
  | f :: fs, s, r, h => by
    rw [allR] at h ⊢
    obtain ⟨ys, h1, h2⟩ := allR_some fs _ r h
    obtain ⟨xs, h3, h4⟩ := numR_inv h1
    refine ⟨xs, h3, ?_⟩
    rw [readN, h4, Option.bind_some]
    simp only
    rw [h2]
    rfl
theorem allR_none : ∀ (fs : List (Int × Int)) (xs : List UInt8), (allR fs (some xs)).2 = none → readN fs xs = none
  | [], xs, h => by cases h
  | f :: fs, xs, h => by
    rw [allR] at h
    rw [readN]
    cases hq : hdR f.1 f.2 xs with
    | none => rfl
    | some p =>
      obtain ⟨n, r⟩ := p
      rw [numR_some hq] at h
      rw [Option.bind_some]
      simp only
      rw [allR_none fs r h]
      rfl
theorem allR_dead : ∀ (fs : List (Int × Int)), (allR fs none).2 = none
  | [] => rfl
  | f :: fs => by rw [allR, numR_none]; exact allR_dead fs
/-- So many numbers of one kind. -/
def repR (lo hi : Int) (k : Nat) (s : Option (List UInt8)) : List Int × Option (List UInt8) := allR (List.replicate k (lo, hi)) s
theorem repR_snoc (lo hi : Int) (k : Nat) (s : Option (List UInt8)) : repR lo hi (k + 1) s = ((repR lo hi k s).1 ++ [(numR lo hi (repR lo hi k s).2).1], (numR lo hi (repR lo hi k s).2).2) := by
  unfold repR
  rw [List.replicate_succ', allR_snoc]
theorem repR_zero (lo hi : Int) (s : Option (List UInt8)) : repR lo hi 0 s = ([], s) := rfl
theorem repR_len (lo hi : Int) (k : Nat) (s : Option (List UInt8)) : (repR lo hi k s).1.length = k := by unfold repR; rw [allR_len, List.length_replicate]
theorem repR_i64 (lo hi : Int) (k : Nat) (s : Option (List UInt8)) (n : Int) (h : n ∈ (repR lo hi k s).1) : isI64 n := allR_i64 _ _ n h
theorem readN_rep (lo hi : Int) : ∀ (k : Nat) (xs : List UInt8), readN (List.replicate k (lo, hi)) xs = readM (hdR lo hi) k xs
  | 0, xs => rfl
  | k + 1, xs => by
    rw [List.replicate_succ, readN, readM]
    simp only
    congr 1
    funext p
    rw [readN_rep lo hi k p.2]

/-! ### fields in a block of their own -/
def FRow (w : World) (B : Nat) (fs : List Fld) : Prop := B < w.heap.size ∧ ∀ (i j : Nat) (hi : i < fs.length), j < 3 → w.cell? ⟨B, i * 3 + j, none⟩ = (fdCells fs[i])[j]?
theorem FRow.kept {w w' : World} {B : Nat} {fs : List Fld} {row : Option Nat} (h : FRow w B fs) (hg : w.grownBy w' row) (hr : row ≠ some B) : FRow w' B fs :=
  ⟨Nat.lt_of_lt_of_le h.1 hg.size, fun i j hi hj => (hg.cell_far ⟨B, _, none⟩ h.1 (fun e => hr e.symm)).trans (h.2 i j hi hj)⟩
theorem FRow.ext {w w' : World} {B : Nat} {fs : List Fld} (h : FRow w B fs) (hE : Ext w w') : FRow w' B fs :=
  ⟨Nat.lt_of_lt_of_le h.1 hE.size, fun i j hi hj => (hE.cell (p := ⟨B, _, none⟩) h.1).trans (h.2 i j hi hj)⟩
theorem FRow.new (w : World) (fs : List Fld) (e : TypeId) : FRow (w.alloc (.cells (fdsCells fs).toArray e)) w.heap.size fs := by
  refine ⟨by simp, fun i j hi hj => ?_⟩
  have := heap_alloc_new w (.cells (fdsCells fs).toArray e)
  simp only [World.cell?, this]
  show (fdsCells fs).toArray[i * 3 + j]? = _
  rw [List.getElem?_toArray, fdsCells_at fs i j hi hj]
theorem FRow.three {w : World} {B : Nat} {fs : List Fld} (h : FRow w B fs) (i : Nat) (hi : i < fs.length) :
    w.cell? ⟨B, i * 3, none⟩ = some (.pointer (some ⟨fs[i].b, fs[i].off, none⟩)) ∧ w.cell? ⟨B, i * 3 + 1, none⟩ = some (.int .i64 fs[i].lo) ∧ w.cell? ⟨B, i * 3 + 2, none⟩ = some (.int .i64 fs[i].hi) :=
  ⟨h.2 i 0 hi (by omega), h.2 i 1 hi (by omega), h.2 i 2 hi (by omega)⟩
/-- Fields that are told, in a new block. -/
def FdsNew (w : World) (fs : List Fld) (e : Ending) (w' : World) : Prop :=
  ∃ B, e = .returned (.slice (some ⟨B, 0, none⟩) fs.length fs.length) ∧ w.heap.size ≤ B ∧ FRow w' B fs ∧ fdE.Row w' fs (.slice (some ⟨B, 0, none⟩) fs.length fs.length) ∧ Ext w w'
theorem FdsNew.new (w w2 : World) (fs : List Fld) (e : TypeId) (h : Ext w w2) (hl : fs.length ≤ 1000) : FdsNew w fs (.returned (.slice (some ⟨w2.heap.size, 0, none⟩) fs.length fs.length)) (w2.alloc (.cells (fdsCells fs).toArray e)) :=
  ⟨w2.heap.size, rfl, h.size, FRow.new w2 fs e, fdRow_new w2 fs e hl, h.alloc _⟩
theorem FdsNew.post {w : World} {fs : List Fld} {e : Ending} {w' : World} (h : FdsNew w fs e w') : FdsPost w fs e w' := by
  obtain ⟨B, h1, h2, h3, h4, h5⟩ := h
  exact ⟨_, h1, h4, h5⟩
end Fm
