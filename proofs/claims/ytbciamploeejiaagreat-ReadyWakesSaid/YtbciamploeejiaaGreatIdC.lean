/- Walks of package ident: step. -/
import Derived.Test.YtbciamploeejiaaGreatPlO
import Derived.Shelf.LaysM
import Derived.Shelf.Strings.SlTrimAscii
import Derived.Shelf.Strings.Repeat
import Derived.Shelf.Slices.Equal
import Derived.Shelf.Slices.Empties2
import Derived.Shelf.Slices.Clone
import Derived.Test.YtbciamploeejiaaGreatProg
import Derived.WalkLawsBesides
import Derived.WalkSpells
import Derived.Lib.Hide
import Derived.BigQuiet
import Derived.Deep.QuietTactic
import Derived.RangeFuncNested
import Derived.RangeFuncBound
import Derived.RangeFuncCalls
import Derived.RangeFuncLeaves
import Derived.OwnWalkIn
import Derived.TacticsInMore
import Derived.LoopNIn
import Derived.LoopIn
import Derived.Maps.AppendAt
import Derived.Shelf.Abstract
import Derived.Deep.RegionHeld3
import Derived.IntWalk
import Derived.StillTailTactics
import Derived.Deep.RegionWith
import Derived.Deep.RegionLaw
import Derived.Defers
import Derived.Recover
import Derived.Shelf.Strings.Builder1
import Derived.Shelf.Strconv.Itoa4
import Derived.Lib.ConvBytes
import Derived.Laws.BitsLemmas
import Derived.Shelf.LaysC
import Derived.Shelf.Strconv.AtoiAll
import Derived.Shelf.Strings.Search3
import Derived.Shelf.Small.Wraps
namespace Fm
open Go Go.RowKit

/-- A node. -/
structure Nd where
  id : List UInt8
  name : List UInt8
  kind : UInt8
  flow : Int
  owner : Int
  place : Int
  after : List Int
  width : Int
  quota : Int
  stand : UInt8
  fails : Int
  tok : Int
  val : Tr
/-- A state. -/
structure Sn where
  cq : Int
  cd : Int
  cw : Int
  cr : Int
  cf : Int
  flows : Int
  nodes : List Nd
  tok : Int

def fL : List (Int × Int) := [(0, 40), (0, 400), (0, 6), (0, 10)]
/-- Numbers that 64 bits hold. -/
def ndWf (n : Nd) : Prop := n.id.length ≤ 9223372036854775807 ∧ n.name.length ≤ 9223372036854775807 ∧ isI64 n.flow ∧ isI64 n.owner ∧ isI64 n.place ∧ isI64 n.width ∧ isI64 n.quota ∧ isI64 n.fails ∧ isI64 n.tok ∧ NumsT n.val ∧ ∀ i, i ∈ n.after → isI64 i
def snWf (s : Sn) : Prop := isI64 s.cq ∧ isI64 s.cd ∧ isI64 s.cw ∧ isI64 s.cr ∧ isI64 s.cf ∧ isI64 s.flows ∧ isI64 s.tok ∧ ∀ n, n ∈ s.nodes → ndWf n

/-! ### bytes -/
theorem four {l : List Int} (h : l.length = 4) : ∃ a b c d, l = [a, b, c, d] := by
  match l, h with
  | [a, b, c, d], _ => exact ⟨a, b, c, d, rfl⟩
/-- How a node lies in cells. -/
def ndE : Elem Nd where
  sz := 16
  R w x c := (c 0 = .string (str x.id) ∧ c 1 = .string (str x.name) ∧ c 2 = .int .u8 (x.kind.toNat : Int) ∧ c 3 = .int .i64 x.flow ∧ c 4 = .int .i64 x.owner ∧ c 5 = .int .i64 x.place) ∧ intE.Row w x.after (c 6) ∧
    (c 7 = .int .i64 x.width ∧ c 8 = .int .i64 x.quota ∧ c 9 = .int .u8 (x.stand.toNat : Int) ∧ c 10 = .int .i64 x.fails ∧ c 11 = .int .i64 x.tok) ∧ Lies w x.val (.agg #[c 12, c 13, c 14, c 15]) ∧
    x.id.length ≤ 9223372036854775807 ∧ x.name.length ≤ 9223372036854775807 ∧ isI64 x.flow ∧ isI64 x.owner ∧ isI64 x.place ∧ isI64 x.width ∧ isI64 x.quota ∧ isI64 x.fails ∧ isI64 x.tok
  ext hx h := ⟨h.1, h.2.1.ext hx, h.2.2.1, h.2.2.2.1.ext hx, h.2.2.2.2⟩
  loc {w x c d} hc h := by
    obtain ⟨⟨a0, a1, a2, a3, a4, a5⟩, a6, ⟨a7, a8, a9, a10, a11⟩, a12, a13⟩ := h
    refine ⟨⟨?_, ?_, ?_, ?_, ?_, ?_⟩, ?_, ⟨?_, ?_, ?_, ?_, ?_⟩, ?_, a13⟩
    · rw [← hc 0 (by omega)]; exact a0
    · rw [← hc 1 (by omega)]; exact a1
    · rw [← hc 2 (by omega)]; exact a2
    · rw [← hc 3 (by omega)]; exact a3
    · rw [← hc 4 (by omega)]; exact a4
    · rw [← hc 5 (by omega)]; exact a5
    · rw [← hc 6 (by omega)]; exact a6
    · rw [← hc 7 (by omega)]; exact a7
    · rw [← hc 8 (by omega)]; exact a8
    · rw [← hc 9 (by omega)]; exact a9
    · rw [← hc 10 (by omega)]; exact a10
    · rw [← hc 11 (by omega)]; exact a11
    · rw [← hc 12 (by omega), ← hc 13 (by omega), ← hc 14 (by omega), ← hc 15 (by omega)]; exact a12
/-- A node's cells. -/
def ndCells (n : Nd) (d k v s l : Value) : List Value := [.string (str n.id), .string (str n.name), .int .u8 (n.kind.toNat : Int), .int .i64 n.flow, .int .i64 n.owner, .int .i64 n.place, d, .int .i64 n.width, .int .i64 n.quota, .int .u8 (n.stand.toNat : Int), .int .i64 n.fails, .int .i64 n.tok, k, v, s, l]
/-- A node that is handed in. -/
def NdV (w : World) (n : Nd) (v : Value) : Prop :=
  ∃ (a : Option Addr) (m c : Nat) (k N s l : Value), v = .agg (ndCells n (.slice a m c) k N s l).toArray ∧ intE.Row w n.after (.slice a m c) ∧ Lies w n.val (.agg #[k, N, s, l]) ∧
    n.id.length ≤ 9223372036854775807 ∧ n.name.length ≤ 9223372036854775807 ∧ isI64 n.flow ∧ isI64 n.owner ∧ isI64 n.place ∧ isI64 n.width ∧ isI64 n.quota ∧ isI64 n.fails ∧ isI64 n.tok
theorem NdV.ext {w w' : World} {n : Nd} {v : Value} (h : NdV w n v) (hE : Ext w w') : NdV w' n v := by
  obtain ⟨a, m, c, k, N, s, l, h1, h2, h3, h4⟩ := h
  exact ⟨a, m, c, k, N, s, l, h1, h2.ext hE, h3.ext hE, h4⟩
theorem intRow_i64 {w : World} {l : List Int} {v : Value} (h : intE.Row w l v) : ∀ i, i ∈ l → isI64 i := by
  obtain ⟨a, cap, hv, h1, h2, h3, C, h4, h5⟩ := h
  intro i hi
  obtain ⟨j, hj, rfl⟩ := List.getElem_of_mem hi
  exact (h5 j hj).2
theorem NdV.wf {w : World} {n : Nd} {v : Value} (h : NdV w n v) : ndWf n := by
  obtain ⟨a, m, c, k, N, s, l, h1, h2, h3, h4, h5, h6, h7, h8, h9, h10, h11, h12⟩ := h
  exact ⟨h4, h5, h6, h7, h8, h9, h10, h11, h12, h3.nums, intRow_i64 h2⟩
/-- A state that is handed in. -/
def SnV (w : World) (s : Sn) (v : Value) : Prop :=
  ∃ (a : Option Addr) (m c : Nat), v = .agg #[.int .i64 s.cq, .int .i64 s.cd, .int .i64 s.cw, .int .i64 s.cr, .int .i64 s.cf, .int .i64 s.flows, .slice a m c, .int .i64 s.tok] ∧ ndE.Row w s.nodes (.slice a m c) ∧
    isI64 s.cq ∧ isI64 s.cd ∧ isI64 s.cw ∧ isI64 s.cr ∧ isI64 s.cf ∧ isI64 s.flows ∧ isI64 s.tok
theorem SnV.ext {w w' : World} {s : Sn} {v : Value} (h : SnV w s v) (hE : Ext w w') : SnV w' s v := by
  obtain ⟨a, m, c, h1, h2, h3⟩ := h
  exact ⟨a, m, c, h1, h2.ext hE, h3⟩
/-- An element of a slice of nodes, in a world that has grown. -/
theorem nd_at {w wr : World} {l : List Nd} {a : Option Addr} {n cap : Nat} (h : ndE.Row w l (.slice a n cap)) (hE : Ext w wr) (i : Nat) (hi : i < l.length) :
    ∃ (b off : Nat), a = some ⟨b, off, none⟩ ∧ b < w.heap.size ∧ ∃ (aa : Option Addr) (m c : Nat) (k N s d : Value), (∀ j v, (ndCells l[i] (.slice aa m c) k N s d)[j]? = some v → wr.cell? ⟨b, off + (i * 16 + j), none⟩ = some v) ∧
      NdV w l[i] (.agg (ndCells l[i] (.slice aa m c) k N s d).toArray) := by
  obtain ⟨hn, b, off, ha, hb, hc⟩ := h.at (by omega)
  obtain ⟨c, hR, hcell⟩ := hc i hi
  obtain ⟨⟨a0, a1, a2, a3, a4, a5⟩, a6, ⟨a7, a8, a9, a10, a11⟩, a12, a13⟩ := hR
  obtain ⟨aa, cc, e2, _⟩ := a6.slice
  refine ⟨b, off, ha, hb, aa, l[i].after.length, cc, c 12, c 13, c 14, c 15, fun j v hj => ?_, aa, _, cc, c 12, c 13, c 14, c 15, rfl, by rw [← e2]; exact a6, a12, a13⟩
  have hj16 : j < 16 := by
    have : j < (ndCells l[i] (.slice aa l[i].after.length cc) (c 12) (c 13) (c 14) (c 15)).length := by
      rcases Nat.lt_or_ge j (ndCells l[i] (.slice aa l[i].after.length cc) (c 12) (c 13) (c 14) (c 15)).length with h | h
      · exact h
      · rw [List.getElem?_eq_none h] at hj; cases hj
    exact this
  have := hcell j hj16 wr hE
  refine this.trans ?_
  rw [← hj]
  rcases (by omega : j = 0 ∨ j = 1 ∨ j = 2 ∨ j = 3 ∨ j = 4 ∨ j = 5 ∨ j = 6 ∨ j = 7 ∨ j = 8 ∨ j = 9 ∨ j = 10 ∨ j = 11 ∨ j = 12 ∨ j = 13 ∨ j = 14 ∨ j = 15) with rfl | rfl | rfl | rfl | rfl | rfl | rfl | rfl | rfl | rfl | rfl | rfl | rfl | rfl | rfl | rfl
  · rw [a0]; rfl
  · rw [a1]; rfl
  · rw [a2]; rfl
  · rw [a3]; rfl
  · rw [a4]; rfl
  · rw [a5]; rfl
  · rw [e2]; rfl
  · rw [a7]; rfl
  · rw [a8]; rfl
  · rw [a9]; rfl
  · rw [a10]; rfl
  · rw [a11]; rfl
  all_goals rfl
/-- The same, cell by cell. -/
theorem nd_at16 {w wr : World} {l : List Nd} {a : Option Addr} {n cap : Nat} (h : ndE.Row w l (.slice a n cap)) (hE : Ext w wr) (i : Nat) (hi : i < l.length) :
    ∃ (b off : Nat), a = some ⟨b, off, none⟩ ∧ b < w.heap.size ∧ ∃ (aa : Option Addr) (m c : Nat) (k N s d : Value), (wr.cell? ⟨b, off + i * 16, none⟩ = some (.string (str l[i].id)) ∧ wr.cell? ⟨b, off + i * 16 + 1, none⟩ = some (.string (str l[i].name)) ∧ wr.cell? ⟨b, off + i * 16 + 2, none⟩ = some (.int .u8 (l[i].kind.toNat : Int)) ∧ wr.cell? ⟨b, off + i * 16 + 3, none⟩ = some (.int .i64 l[i].flow) ∧ wr.cell? ⟨b, off + i * 16 + 4, none⟩ = some (.int .i64 l[i].owner) ∧ wr.cell? ⟨b, off + i * 16 + 5, none⟩ = some (.int .i64 l[i].place) ∧ wr.cell? ⟨b, off + i * 16 + 6, none⟩ = some (.slice aa m c) ∧ wr.cell? ⟨b, off + i * 16 + 7, none⟩ = some (.int .i64 l[i].width) ∧ wr.cell? ⟨b, off + i * 16 + 8, none⟩ = some (.int .i64 l[i].quota) ∧ wr.cell? ⟨b, off + i * 16 + 9, none⟩ = some (.int .u8 (l[i].stand.toNat : Int)) ∧ wr.cell? ⟨b, off + i * 16 + 10, none⟩ = some (.int .i64 l[i].fails) ∧ wr.cell? ⟨b, off + i * 16 + 11, none⟩ = some (.int .i64 l[i].tok) ∧ wr.cell? ⟨b, off + i * 16 + 12, none⟩ = some (k) ∧ wr.cell? ⟨b, off + i * 16 + 13, none⟩ = some (N) ∧ wr.cell? ⟨b, off + i * 16 + 14, none⟩ = some (s) ∧ wr.cell? ⟨b, off + i * 16 + 15, none⟩ = some (d)) ∧
      NdV w l[i] (.agg (ndCells l[i] (.slice aa m c) k N s d).toArray) := by
  obtain ⟨b, off, ha, hb, aa, m, c, k, N, s, d, h1, h2⟩ := nd_at h hE i hi
  refine ⟨b, off, ha, hb, aa, m, c, k, N, s, d, ⟨?_, ?_, ?_, ?_, ?_, ?_, ?_, ?_, ?_, ?_, ?_, ?_, ?_, ?_, ?_, ?_⟩, h2⟩
  · have := h1 0 _ rfl; rw [show off + (i * 16 + 0) = off + i * 16 by omega] at this; exact this
  · have := h1 1 _ rfl; rw [show off + (i * 16 + 1) = off + i * 16 + 1 by omega] at this; exact this
  · have := h1 2 _ rfl; rw [show off + (i * 16 + 2) = off + i * 16 + 2 by omega] at this; exact this
  · have := h1 3 _ rfl; rw [show off + (i * 16 + 3) = off + i * 16 + 3 by omega] at this; exact this
  · have := h1 4 _ rfl; rw [show off + (i * 16 + 4) = off + i * 16 + 4 by omega] at this; exact this
  · have := h1 5 _ rfl; rw [show off + (i * 16 + 5) = off + i * 16 + 5 by omega] at this; exact this
  · have := h1 6 _ rfl; rw [show off + (i * 16 + 6) = off + i * 16 + 6 by omega] at this; exact this
  · have := h1 7 _ rfl; rw [show off + (i * 16 + 7) = off + i * 16 + 7 by omega] at this; exact this
  · have := h1 8 _ rfl; rw [show off + (i * 16 + 8) = off + i * 16 + 8 by omega] at this; exact this
  · have := h1 9 _ rfl; rw [show off + (i * 16 + 9) = off + i * 16 + 9 by omega] at this; exact this
  · have := h1 10 _ rfl; rw [show off + (i * 16 + 10) = off + i * 16 + 10 by omega] at this; exact this
  · have := h1 11 _ rfl; rw [show off + (i * 16 + 11) = off + i * 16 + 11 by omega] at this; exact this
  · have := h1 12 _ rfl; rw [show off + (i * 16 + 12) = off + i * 16 + 12 by omega] at this; exact this
  · have := h1 13 _ rfl; rw [show off + (i * 16 + 13) = off + i * 16 + 13 by omega] at this; exact this
  · have := h1 14 _ rfl; rw [show off + (i * 16 + 14) = off + i * 16 + 14 by omega] at this; exact this
  · have := h1 15 _ rfl; rw [show off + (i * 16 + 15) = off + i * 16 + 15 by omega] at this; exact this
theorem NdRow.nums {w : World} {l : List Nd} {v : Value} (h : ndE.Row w l v) : ∀ n, n ∈ l → ndWf n := by
  obtain ⟨a, cap, hv, _⟩ := h.slice
  subst hv
  intro n hn
  obtain ⟨j, hj, rfl⟩ := List.getElem_of_mem hn
  obtain ⟨_, _, _, _, _, _, _, _, _, _, _, _, h2⟩ := nd_at h (Ext.refl w) j hj
  exact h2.wf
theorem SnV.wf {w : World} {s : Sn} {v : Value} (h : SnV w s v) : snWf s := by
  obtain ⟨a, m, c, h1, h2, h3, h4, h5, h6, h7, h8, h9⟩ := h
  exact ⟨h3, h4, h5, h6, h7, h8, h9, NdRow.nums h2⟩
/-! ### fields: a number in a cell, from where to where it may be -/
structure Fld where
  b : Nat
  off : Nat
  lo : Int
  hi : Int
def fdE : Elem Fld where
  sz := 3
  R _ x c := c 0 = .pointer (some ⟨x.b, x.off, none⟩) ∧ c 1 = .int .i64 x.lo ∧ c 2 = .int .i64 x.hi
  ext _ h := h
  loc hc h := ⟨(hc 0 (by omega)).symm.trans h.1, (hc 1 (by omega)).symm.trans h.2.1, (hc 2 (by omega)).symm.trans h.2.2⟩
/-- An element of a slice of numbers. -/
theorem int_at {w wr : World} {l : List Int} {a : Option Addr} {n cap : Nat} (h : intE.Row w l (.slice a n cap)) (hE : Ext w wr) (i : Nat) (hi : i < l.length) :
    ∃ (b off : Nat), a = some ⟨b, off, none⟩ ∧ b < w.heap.size ∧ wr.cell? ⟨b, off + i, none⟩ = some (.int .i64 l[i]) ∧ isI64 l[i] := by
  obtain ⟨hn, b, off, ha, hb, hc⟩ := h.at (by omega)
  obtain ⟨c, ⟨r0, r1⟩, hcell⟩ := hc i hi
  refine ⟨b, off, ha, hb, ?_, r1⟩
  have := hcell 0 (by decide) wr hE
  rw [r0] at this
  have e : i * intE.sz + 0 = i := by show i * 1 + 0 = i; omega
  rw [e] at this
  exact this
/-- The numbers that fields are of. -/
def Pts (w : World) (fs : List Fld) (ns : List Int) : Prop :=
  ns.length = fs.length ∧ ∀ (i : Nat) (hi : i < fs.length) (hn : i < ns.length), w.cell? ⟨fs[i].b, fs[i].off, none⟩ = some (.int .i64 ns[i]) ∧ fs[i].b < w.heap.size ∧ isI64 ns[i]
theorem Pts.ext {w w' : World} {fs : List Fld} {ns : List Int} (h : Pts w fs ns) (hE : Ext w w') : Pts w' fs ns :=
  ⟨h.1, fun i hi hn => by
    obtain ⟨a, b, c⟩ := h.2 i hi hn
    exact ⟨(hE.cell (p := ⟨fs[i].b, fs[i].off, none⟩) b).trans a, Nat.lt_of_lt_of_le b hE.size, c⟩⟩
theorem Pts.nil (w : World) : Pts w [] [] := ⟨rfl, fun i hi => by simp at hi⟩
theorem Pts.cons {w : World} {f : Fld} {fs : List Fld} {n : Int} {ns : List Int} (h1 : w.cell? ⟨f.b, f.off, none⟩ = some (.int .i64 n)) (h2 : f.b < w.heap.size) (h3 : isI64 n) (h : Pts w fs ns) : Pts w (f :: fs) (n :: ns) := by
  refine ⟨by simp [h.1], fun i hi hn => ?_⟩
  cases i with
  | zero => exact ⟨h1, h2, h3⟩
  | succ i => exact h.2 i (by simpa using hi) (by simpa using hn)
def fdCells (f : Fld) : List Value := [.pointer (some ⟨f.b, f.off, none⟩), .int .i64 f.lo, .int .i64 f.hi]
def fdsCells (fs : List Fld) : List Value := (fs.map fdCells).flatten
theorem fdsCells_at : ∀ (fs : List Fld) (i j : Nat) (hi : i < fs.length), j < 3 → (fdsCells fs)[i * 3 + j]? = (fdCells fs[i])[j]?
  | [], i, _, hi, _ => by simp at hi
  | f :: fs, 0, j, _, hj => by
    unfold fdsCells
    rw [List.map_cons, List.flatten_cons, List.getElem?_append_left (by simp [fdCells]; omega)]
    simp
  | f :: fs, i + 1, j, hi, hj => by
    have ih := fdsCells_at fs i j (by simpa using hi) hj
    unfold fdsCells at ih ⊢
    rw [List.map_cons, List.flatten_cons, List.getElem?_append_right (by simp [fdCells]; omega)]
    have e : (i + 1) * 3 + j - (fdCells f).length = i * 3 + j := by simp [fdCells]; omega
    rw [e, ih]
    simp
theorem fdRow_new (w : World) (fs : List Fld) (e : TypeId) (hl : fs.length ≤ 1000) : fdE.Row (w.alloc (.cells (fdsCells fs).toArray e)) fs (.slice (some ⟨w.heap.size, 0, none⟩) fs.length fs.length) := by
  refine Elem.Row.mk rfl (Nat.le_refl _) (by unfold maxLen; omega) (by simp) (fun i hi => ⟨fun j => (fdCells fs[i]).getD j .nilFunc, ⟨rfl, rfl, rfl⟩, fun j hj => ?_⟩)
  have hj3 : j < 3 := hj
  have := heap_alloc_new w (.cells (fdsCells fs).toArray e)
  simp only [World.cell?, this]
  have h2 := fdsCells_at fs i j hi hj3
  rw [List.getElem?_eq_getElem (l := fdCells fs[i]) (by simp [fdCells]; omega)] at h2
  simp only [Nat.zero_add]
  show (fdsCells fs).toArray[i * 3 + j]? = _
  rw [List.getElem?_toArray, h2, List.getD_eq_getElem?_getD, List.getElem?_eq_getElem (by simp [fdCells]; omega)]
  rfl
/-- Fields that are told. -/
def FdsPost (w : World) (fs : List Fld) (e : Ending) (w' : World) : Prop :=
  ∃ v, e = .returned v ∧ fdE.Row w' fs v ∧ Ext w w'
theorem FdsPost.new (w w2 : World) (fs : List Fld) (e : TypeId) (h : Ext w w2) (hl : fs.length ≤ 1000) : FdsPost w fs (.returned (.slice (some ⟨w2.heap.size, 0, none⟩) fs.length fs.length)) (w2.alloc (.cells (fdsCells fs).toArray e)) :=
  ⟨_, rfl, fdRow_new w2 fs e hl, h.alloc _⟩
/-- A value's four cells. -/
theorem lies_four {w : World} {t : Tr} {k N s l : Value} (h : Lies w t (.agg #[k, N, s, l])) : ∃ (kk nn : Int) (ss : ByteArray) (va : Option Addr) (vm vc : Nat), k = .int .u8 kk ∧ N = .int .i64 nn ∧ s = .string ss ∧ l = .slice va vm vc := by
  cases h; exact ⟨_, _, _, _, _, _, rfl, rfl, rfl, rfl⟩
theorem NdV.four {w : World} {n : Nd} {d k N s l : Value} (h : NdV w n (.agg (ndCells n d k N s l).toArray)) : ∃ (kk nn : Int) (ss : ByteArray) (va : Option Addr) (vm vc : Nat), k = .int .u8 kk ∧ N = .int .i64 nn ∧ s = .string ss ∧ l = .slice va vm vc := by
  obtain ⟨a, m, c, k', N', s', l', h1, h2, h3, h4⟩ := h
  simp only [ndCells] at h1
  injection h1 with h1
  injection h1 with h1
  simp only [List.cons.injEq, and_true] at h1
  obtain ⟨-, -, -, -, -, -, -, -, -, -, -, -, rfl, rfl, rfl, rfl⟩ := h1
  exact lies_four h3
end Fm

namespace Fm
open Go Go.RowKit

def ndZero : Nd := ⟨[], [], 0, 0, 0, 0, [], 0, 0, 0, 0, 0, zT⟩
/-- Is a place one of a list's? -/
def placeF (l : List Nd) (i : Int) : Bool := decide (0 ≤ i) && decide (i < l.length)
def nthF (l : List Nd) (i : Int) : Nd := l.getD i.toNat ndZero
end Fm

namespace Fm
open Go Go.RowKit

/-- Are all owners right? -/
def RightO (l : List Nd) : Prop := ∀ (i : Nat) (hi : i < l.length), -1 ≤ l[i].owner ∧ l[i].owner < (i : Int) ∧ ∀ j : Nat, l[i].owner = (j : Int) → ∀ hj : j < l.length, l[j].flow = l[i].flow
/-- The owners of a place, the nearest one first. -/
def chainOn : Nat → List Nd → Nat → List Nat
  | 0, _, _ => []
  | f + 1, l, i => if 0 ≤ (nthF l (i : Int)).owner then (nthF l (i : Int)).owner.toNat :: chainOn f l (nthF l (i : Int)).owner.toNat else []
def chainO (l : List Nd) (i : Nat) : List Nat := chainOn i l i
theorem nthF_at {l : List Nd} {i : Nat} (h : i < l.length) : nthF l (i : Int) = l[i] := by unfold nthF; simp [h]
theorem chainOn_more {l : List Nd} (h : RightO l) : ∀ (f i : Nat), i < l.length → i ≤ f → chainOn f l i = chainOn i l i
  | 0, i, _, hf => by
    have : i = 0 := by omega
    rw [this]
  | f + 1, i, hi, hf => by
    have h1 := h i hi
    rw [chainOn, nthF_at hi]
    by_cases h0 : 0 ≤ l[i].owner
    · rw [if_pos h0]
      cases i with
      | zero => omega
      | succ i =>
        rw [chainOn, nthF_at hi, if_pos h0]
        have ho : l[i + 1].owner.toNat ≤ i := by omega
        rw [chainOn_more h f _ (by omega) (by omega), chainOn_more h i _ (by omega) ho]
    · rw [if_neg h0]
      cases i with
      | zero => rfl
      | succ i => rw [chainOn, nthF_at hi, if_neg h0]
theorem chainO_some {l : List Nd} (h : RightO l) {i o : Nat} (hi : i < l.length) (ho : l[i].owner = (o : Int)) : chainO l i = o :: chainO l o := by
  have h1 := h i hi
  unfold chainO
  cases i with
  | zero => omega
  | succ i =>
    rw [chainOn, nthF_at hi, if_pos (by omega), ho, Int.toNat_natCast, chainOn_more h i o (by omega) (by omega)]
theorem chainO_none {l : List Nd} {i : Nat} (hi : i < l.length) (ho : l[i].owner < 0) : chainO l i = [] := by
  unfold chainO
  cases i with
  | zero => rfl
  | succ i => rw [chainOn, nthF_at hi, if_neg (by omega)]
theorem chainO_len {l : List Nd} (h : RightO l) : ∀ (i : Nat), i < l.length → (chainO l i).length ≤ i
  | i => fun hi => by
    have h1 := h i hi
    by_cases h0 : 0 ≤ l[i].owner
    · obtain ⟨p, hp⟩ : ∃ p : Nat, l[i].owner = (p : Int) := ⟨l[i].owner.toNat, by omega⟩
      rw [chainO_some h hi hp, List.length_cons]
      have := chainO_len h p (by omega)
      omega
    · rw [chainO_none hi (Int.not_le.1 h0)]
      exact Nat.zero_le _
termination_by i => i
decreasing_by omega
def deepF (l : List Nd) (i : Int) : Int := if placeF l i then ((chainO l i.toNat).length : Int) + 1 else 0
/-- The owners of a place, and none. -/
def ownersF (l : List Nd) (i : Nat) : List Int := (chainO l i).map (fun (o : Nat) => (o : Int)) ++ [-1]
end Fm

namespace Go.Proofs
open Go.Shelf
def Tryz.lays160_ren : Go.Shelf.Ren := ⟨fun | 160 => 102 | 232 => 116 | 231 => 115 | 227 => 117 | 234 => 119 | 233 => 118 | 236 => 121 | 235 => 120 | 228 => 134 | 271 => 136 | 151 => 135 | 197 => 95 | 120 => 146 | 152 => 145 | 260 => 106 | 137 => 149 | 119 => 150 | 224 => 125 | 225 => 124 | 217 => 123 | 266 => 137 | n => n, fun | 9 => 9 | 4 => 4 | 3 => 3 | 5 => 5 | 117 => 158 | 116 => 157 | 0 => 0 | 124 => 161 | 21 => 21 | 105 => 142 | 46 => 37 | 119 => 162 | 139 => 165 | 138 => 164 | n => n, fun | 3 => 0 | 4 => 1 | n => n⟩
theorem Tryz.lays160 : Go.Proofs.Lays.n160 Tryz.prog Tryz.lays160_ren := {
  mixed := by kernel_rfl
  f119 := Tryz.func150.trans (congrArg some (by kernel_rfl))
  f120 := Tryz.func146.trans (congrArg some (by kernel_rfl))
  f137 := Tryz.func149.trans (congrArg some (by kernel_rfl))
  f151 := Tryz.func135.trans (congrArg some (by kernel_rfl))
  f152 := Tryz.func145.trans (congrArg some (by kernel_rfl))
  f160 := Tryz.func102.trans (congrArg some (by kernel_rfl))
  f197 := Tryz.func95.trans (congrArg some (by kernel_rfl))
  f217 := Tryz.func123.trans (congrArg some (by kernel_rfl))
  f224 := Tryz.func125.trans (congrArg some (by kernel_rfl))
  f225 := Tryz.func124.trans (congrArg some (by kernel_rfl))
  f227 := Tryz.func117.trans (congrArg some (by kernel_rfl))
  f228 := Tryz.func134.trans (congrArg some (by kernel_rfl))
  f231 := Tryz.func115.trans (congrArg some (by kernel_rfl))
  f232 := Tryz.func116.trans (congrArg some (by kernel_rfl))
  f233 := Tryz.func118.trans (congrArg some (by kernel_rfl))
  f234 := Tryz.func119.trans (congrArg some (by kernel_rfl))
  f235 := Tryz.func120.trans (congrArg some (by kernel_rfl))
  f236 := Tryz.func121.trans (congrArg some (by kernel_rfl))
  f260 := Tryz.func106.trans (congrArg some (by kernel_rfl))
  f266 := Tryz.func137.trans (congrArg some (by kernel_rfl))
  f271 := Tryz.func136.trans (congrArg some (by kernel_rfl))
  t0 := Tryz.underlying0
  a0 := Tryz.isAgg0
  z0 := Tryz.sizeOf0
  v0 := Tryz.zeroValue0
  t3 := Tryz.underlying3
  a3 := Tryz.isAgg3
  z3 := Tryz.sizeOf3
  v3 := Tryz.zeroValue3
  t4 := Tryz.underlying4
  a4 := Tryz.isAgg4
  z4 := Tryz.sizeOf4
  v4 := Tryz.zeroValue4
  t5 := Tryz.underlying5
  a5 := Tryz.isAgg5
  z5 := Tryz.sizeOf5
  v5 := Tryz.zeroValue5
  t9 := Tryz.underlying9
  a9 := Tryz.isAgg9
  z9 := Tryz.sizeOf9
  v9 := Tryz.zeroValue9
  t21 := Tryz.underlying21
  a21 := Tryz.isAgg21
  z21 := Tryz.sizeOf21
  v21 := Tryz.zeroValue21
  t46 := Tryz.underlying37
  a46 := Tryz.isAgg37
  z46 := Tryz.sizeOf37
  v46 := Tryz.zeroValue37
  t105 := Tryz.underlying142
  a105 := Tryz.isAgg142
  z105 := Tryz.sizeOf142
  v105 := Tryz.zeroValue142
  t116 := Tryz.underlying157
  a116 := Tryz.isAgg157
  z116 := Tryz.sizeOf157
  t117 := Tryz.underlying158
  a117 := Tryz.isAgg158
  z117 := Tryz.sizeOf158
  v117 := Tryz.zeroValue158
  t119 := Tryz.underlying162
  a119 := Tryz.isAgg162
  z119 := Tryz.sizeOf162
  t124 := Tryz.underlying161
  a124 := Tryz.isAgg161
  z124 := Tryz.sizeOf161
  v124 := Tryz.zeroValue161
  t138 := Tryz.underlying164
  a138 := Tryz.isAgg164
  z138 := Tryz.sizeOf164
  v138 := Tryz.zeroValue164
  t139 := Tryz.underlying165
  a139 := Tryz.isAgg165
  z139 := Tryz.sizeOf165
  v139 := Tryz.zeroValue165
  g3 := by kernel_rfl
  g4 := by kernel_rfl }
open Go.RowKit Go.Lib in
theorem Tryz.strings_Trim_any (s cutset : ByteArray) (w : World) (hs : s.size ≤ 9223372036854775807) (hcs : cutset.size < 4294967281) (hascii : ∀ (j : Nat) b, cutset.data.toList[j]? = some b → b.toNat < 128) :
    Calls Tryz.prog 102 #[.string s, .string cutset] w fun e w' => e = .returned (.string ⟨(Lib.trimS s.data.toList cutset.data.toList).toArray⟩) ∧ Below w.heap.size w w' := Any.strings_Trim_laid Tryz.lays160 (by kernel_rfl) s cutset w hs hcs hascii
end Go.Proofs

open Go.RowKit Go.Shelf
namespace Go.Proofs.YtbciamploeejiaaGreat
open Go Go.Proofs Fm
attribute [local go_sem] Oper.semAt_some

/-- The call has made a slice of its own of these bytes, and nothing that lay has turned. -/
def OwnBytes (w w' : World) (v : Value) (xs : List UInt8) : Prop :=
  w'.ownsRow w.heap.size 5 1 v xs.length (xs.map bv) ∧ Ext w w'
theorem OwnBytes.bytes {w w' : World} {v : Value} {xs : List UInt8} (h : OwnBytes w w' v xs) : Bytes w' v xs := Bytes.of_own h.1
end Go.Proofs.YtbciamploeejiaaGreat

open Go.RowKit Go.Shelf
namespace Go.Proofs.YtbciamploeejiaaGreat
open Go Go.Proofs Fm

/-- v is a slice of the call's own, from block 'base' on, that holds these bytes. -/
def OwnB (base : Nat) (w : World) (v : Value) (xs : List UInt8) : Prop := w.ownsRow base 5 1 v xs.length (xs.map bv)
theorem OwnBytes.own {w w' : World} {v : Value} {xs : List UInt8} (h : OwnBytes w w' v xs) : OwnB w.heap.size w' v xs := h.1
theorem OwnB.bytes {base : Nat} {w : World} {v : Value} {xs : List UInt8} (h : OwnB base w v xs) : Bytes w v xs := Bytes.of_own h
theorem OwnB.ext {base : Nat} {w w' : World} {v : Value} {xs : List UInt8} (h : OwnB base w v xs) (hE : Ext w w') : OwnB base w' v xs := hE.own h
theorem OwnB.mono {base base' : Nat} {w : World} {v : Value} {xs : List UInt8} (h : OwnB base w v xs) (hb : base' ≤ base) : OwnB base' w v xs := by
  refine ⟨h.1, ?_⟩
  rcases h.2 with hn | ⟨g, cap, cur, hv, hg, rest⟩
  · exact .inl hn
  · exact .inr ⟨g, cap, cur, hv, Nat.le_trans hb hg, rest⟩
theorem OwnB.nil (base : Nat) (w : World) : OwnB base w (.slice none 0 0) [] := World.ownsRow_nil w base 5 1
end Go.Proofs.YtbciamploeejiaaGreat

open Go.RowKit Go.Shelf
namespace Go.Proofs.YtbciamploeejiaaGreat
open Go Go.Proofs Fm

end Go.Proofs.YtbciamploeejiaaGreat

/- Walks over a value's tree that only read: the reference's Parts, Deep; Same. -/
open Go.RowKit Go.Shelf
namespace Go.Proofs.YtbciamploeejiaaGreat
open Go Go.Proofs Fm

end Go.Proofs.YtbciamploeejiaaGreat

/- Walks: plain, the reference's kinds, Right, Same. -/
open Go.RowKit Go.Shelf
namespace Go.Proofs.YtbciamploeejiaaGreat
open Go Go.Proofs Fm

theorem str_toList (s : List UInt8) : (str s).toList = s := by rw [Lib.toList_data]; rfl
end Go.Proofs.YtbciamploeejiaaGreat

/- Walks: the reference's kinds, Right, Same. -/
open Go.RowKit Go.Shelf
namespace Go.Proofs.YtbciamploeejiaaGreat
open Go Go.Proofs Fm

end Go.Proofs.YtbciamploeejiaaGreat

/- Walks: the reference's Same. -/
open Go.RowKit Go.Shelf
namespace Go.Proofs.YtbciamploeejiaaGreat
open Go Go.Proofs Fm

theorem str_beq (s t : List UInt8) : ((str s).toList == (str t).toList) = decide (s = t) := by
  rw [str_toList, str_toList, Bool.eq_iff_iff]; simp

end Go.Proofs.YtbciamploeejiaaGreat

/- Walks: Same by slices.EqualFunc. -/
open Go.RowKit Go.Shelf
namespace Go.Proofs.YtbciamploeejiaaGreat
open Go Go.Proofs Fm

end Go.Proofs.YtbciamploeejiaaGreat

/- Walks: Put. -/
open Go.RowKit Go.Shelf
namespace Go.Proofs.YtbciamploeejiaaGreat
open Go Go.Proofs Fm

end Go.Proofs.YtbciamploeejiaaGreat

open Go.RowKit Go.Shelf
namespace Go.Proofs.YtbciamploeejiaaGreat
open Go Go.Proofs Fm

theorem trim_let (s : List UInt8) (hs : s.length ≤ 9223372036854775807) (w : World) :
    Calls Tryz.prog 102 #[.string (str s), .string { data := #[97, 98, 99, 100, 101, 102, 103, 104, 105, 106, 107, 108, 109, 110, 111, 112, 113, 114, 115, 116, 117, 118, 119, 120, 121, 122, 48, 49, 50, 51, 52, 53, 54, 55, 56, 57, 95] }] w fun e w' => e = .returned (.string (str (Lib.trimS s letL))) ∧ Ext w w' := by
  have h := Tryz.strings_Trim_any (str s) { data := #[97, 98, 99, 100, 101, 102, 103, 104, 105, 106, 107, 108, 109, 110, 111, 112, 113, 114, 115, 116, 117, 118, 119, 120, 121, 122, 48, 49, 50, 51, 52, 53, 54, 55, 56, 57, 95] } w (by rw [str_size]; exact hs) (by decide) (ascii_of_all (by decide +kernel))
  rw [str_list] at h
  exact h

set_option maxHeartbeats 1000000 in
theorem name_any (s : List UInt8) (hs : s.length ≤ 9223372036854775807) (w : World) :
    Calls Tryz.prog 92 #[.string (str s)] w fun e w' => e = .returned (.bool (nameB s)) ∧ Ext w w' := by
  have hss := str_size s
  by_cases h1 : 1 ≤ s.length
  case neg =>
    have HX := Lib.hid (nameB_short h1)
    have h1' : ¬ (1 : Int) ≤ (s.length : Int) := by omega
    go_enter Tryz.func92, Tryz.ntmps92
    go_wp2
    go_ret
    exact ⟨by rw [HX.out]; rfl, Ext.refl w⟩
  have h1' : (1 : Int) ≤ (s.length : Int) := by omega
  by_cases h2 : s.length ≤ 20
  case neg =>
    have HX := Lib.hid (nameB_long h2)
    have h2' : ¬ (s.length : Int) ≤ 20 := by omega
    go_enter Tryz.func92, Tryz.ntmps92
    go_wp2
    go_ret
    exact ⟨by rw [HX.out]; rfl, Ext.refl w⟩
  have h2' : (s.length : Int) ≤ 20 := by omega
  have HX := Lib.hid (nameB_all h1 h2)
  have HN := Lib.hid (trim_nil s)
  go_enter Tryz.func92, Tryz.ntmps92
  go_wp2_with fail
  refine (trim_let s hs w).mono ?_
  rintro e w1 ⟨rfl, hE⟩
  cases ha : s.all letB with
  | true =>
    rw [HN.out.2 ha]
    have HA := Lib.hid ha
    have e1 : (str []).toList = ([] : List UInt8) := str_toList []
    clear ha
    go_wp2
    go_ret
    exact ⟨by rw [HX.out, HA.out]; simp_all, hE⟩
  | false =>
    obtain ⟨T, hT⟩ : ∃ T, T = Lib.trimS s letL := ⟨_, rfl⟩
    have hT0 : T ≠ [] := by rw [hT]; intro h; rw [HN.out.1 h] at ha; cases ha
    rw [← hT]
    have HA := Lib.hid ha
    have e1 : (str T).toList = T := str_toList T
    have e2 : T.isEmpty = false := by cases T with | nil => exact absurd rfl hT0 | cons _ _ => rfl
    clear ha hT
    go_wp2
    go_ret
    exact ⟨by rw [HX.out, HA.out]; simp_all, hE⟩

end Go.Proofs.YtbciamploeejiaaGreat

/- Walks: slices.IndexFunc, ContainsFunc at []string and []api.Item. -/
open Go.RowKit Go.Shelf
namespace Go.Proofs.YtbciamploeejiaaGreat
open Go Go.Proofs Fm

end Go.Proofs.YtbciamploeejiaaGreat

/- Walks of package frag: fits, Right; the reference's item, Right. -/
open Go.RowKit Go.Shelf
namespace Go.Proofs.YtbciamploeejiaaGreat
open Go Go.Proofs Fm

end Go.Proofs.YtbciamploeejiaaGreat

namespace Fm
open Go Go.RowKit

/-- The contract of an iterator that names the steps it makes of its own (Ab), what the body must keep (Kp), and what may come next (Nx). -/
def SeqAb {α : Type} (F : Fence) (n : Nat) (P : Program) (g : Nat) (lb : Array Value) (encs : α → Array Value) (Ab Kp : World → World → Prop) (S Sp : List α → Prop) (Nx : List α → α → Prop) (w : World) : Prop :=
  ∀ (l : Nat) (J Jx : List α → World → Prop) (W : World), Below w.heap.size w W → (∀ s X Y, J s X → Ab X Y → J s Y) → (∀ s X Y, Jx s X → Ab X Y → Jx s Y) →
    (∀ pre x X, J pre X → Nx pre x → YieldAt F (n - 1) P l (encs x) X fun e Y => (e = .returned (.bool true) ∧ J (pre ++ [x]) Y ∧ Kp X Y) ∨ (e = .returned (.bool false) ∧ Jx (pre ++ [x]) Y)) →
    J [] W →
    CallsIn F n P g (#[.func (.yield l) #[] #[]] ++ lb) W fun e Y => (∃ v, e = .returned v) ∧ ((∃ xs, S xs ∧ J xs Y) ∨ (∃ pre, Sp pre ∧ Jx pre Y))

variable {F : Fence} {n : Nat} {P : Program}

/-- The loop's two blocks of book-keeping. -/
def Kept2 (B : Nat) (r : Loop) (W : World) : Prop := W.heap[B + 1]? = some (.loop r) ∧ W.heap[B]? = some (.deferred (some []))
theorem Kept2.put {B : Nat} {r : Loop} {W : World} (h : Kept2 B r W) (r' : Loop) : Kept2 B r' (W.putObj (B + 1) (.loop r')) :=
  ⟨World.putObj_heap_same (Array.getElem?_eq_some_iff.1 h.1).1, (World.putObj_heap_other (by omega)).trans h.2⟩
theorem Kept2.from {B : Nat} {r : Loop} {W W' : World} (h : Kept2 B r W) (hk : KeepsFrom B W W') : Kept2 B r W' :=
  ⟨hk.same _ _ (by omega) h.1 rfl, hk.same _ _ (Nat.le_refl _) h.2 rfl⟩

theorem wpIn_rangeFunc_ab {α : Type} {g : Operand} {ps : Array Tmp} {assign body : Code} {Q : Exit → Act → World → Prop} {a : Act} {w : World}
    (hro : F.round = none) (h1 : 1 ≤ n) {gf : Nat} {lb : Array Value} (hg : a.eval g = .func (.func gf) #[] lb) (hFg : F.fn gf) (eg : ∀ args w, (callFunc gf args).run P w = .ok (.enter gf args) w)
    {encs : α → Array Value} {Ab Kp : World → World → Prop} {S Sp : List α → Prop} {Nx : List α → α → Prop} {w0 : World} (hseq : SeqAb F (n - 1) P gf lb encs Ab Kp S Sp Nx w0)
    (hb0 : Below w0.heap.size w0 w) (hps : ∀ x, (encs x).size = ps.size)
    (hAb : ∀ X Y, Ab X Y → ∀ k o, w.heap.size ≤ k → X.heap[k]? = some o → o.isCells = false → Y.heap[k]? = some o)
    (hKt : ∀ {A B C : World}, Kp A B → Kp B C → Kp A C) (hKb : ∀ (W : World) (l : Nat) (o o' : Obj), w.heap.size ≤ l → W.heap[l]? = some o → o.isCells = false → Kp W (W.putObj l o'))
    (I : List α → World → Prop) (Ix : Code → List α → World → Prop) (hI : OwnFrom w.heap.size I) (hIx : ∀ c, OwnFrom w.heap.size (Ix c))
    (aI : ∀ s X Y, I s X → Ab X Y → I s Y) (aIx : ∀ c s X Y, Ix c s X → Ab X Y → Ix c s Y) (h0 : I [] w) (a₁ : α → Act)
    (hassign : ∀ (l : Nat) (x : α) (W : World) (K : Act → World → Prop), K (a₁ x) W →
      assign.wpIn (F.inRound l) (n - 1 - 1) P (Exit.then K (fun _ _ _ => False)) { tmps := (ps.zip (encs x)).foldl (fun t (p, v) => t.setIfInBounds p v) a.tmps, defers := [] } W)
    (hbody : ∀ (l : Nat) (pre : List α) (x : α) (W : World), I pre W → Nx pre x → body.wpIn (F.inRound l) (n - 1 - 1) P (ownPostG w.heap.size Kp I Ix (pre ++ [x]) W) (a₁ x) W)
    (hdone : ∀ (D : Nat) (xs : List α) (W : World), w.heap.size ≤ D → S xs → I xs W → W.heap[D]? = some (.deferred (some [])) → Q .normal { a with defers := { target := .collected D, args := #[] } :: a.defers } W)
    (hstop : ∀ (D : Nat) (c : Code) (pre : List α) (W : World), w.heap.size ≤ D → Sp pre → Ix c pre W → W.heap[D]? = some (.deferred (some [])) → c.wpIn F n P Q { a with defers := { target := .collected D, args := #[] } :: a.defers } W) :
    (Code.rangeFunc g ps assign body).wpIn F n P Q a w := by
  refine wpIn_rangeFunc fun fn hfn => ?_
  rw [hro]
  obtain ⟨rec, hrec⟩ : ∃ rec : LoopState → Option Code → Loop, rec = fun st pe => { state := st, pending := pe, fn, tmps := a.tmps, params := ps, assign, body, defers := w.heap.size } := ⟨_, rfl⟩
  have hK : Kept2 w.heap.size (rec .ready none) ((w.alloc (.deferred (some []))).alloc (.loop (rec .ready none))) := by
    constructor
    · have := World.alloc_heap_new (w.alloc (.deferred (some []))) (.loop (rec .ready none)); rwa [World.size_alloc] at this
    · exact (Below.heap_alloc _ _ _ (by simp)).trans (World.alloc_heap_new w _)
  have hI1 : I [] ((w.alloc (.deferred (some []))).alloc (.loop (rec .ready none))) := hI.alloc _ (hI.alloc _ h0)
  have hb1 : Below w0.heap.size w0 ((w.alloc (.deferred (some []))).alloc (.loop (rec .ready none))) :=
    hb0.trans ((((Below.refl _ w).alloc (Nat.le_refl _) _).alloc (by simp) _).mono hb0.size)
  have hrun := run_enterLoop_outer (P := P) (w := w) fn a.tmps ps assign body
  rw [show (Loop.mk LoopState.ready none fn a.tmps ps assign body w.heap.size) = rec .ready none from by rw [hrec]] at hrun
  generalize (w.alloc (.deferred (some []))).alloc (.loop (rec .ready none)) = W1 at *
  refine ⟨w.heap.size + 1, [{ target := .collected w.heap.size, args := #[] }], W1, { target := .fn (.func gf) lb, args := #[.func (.yield (w.heap.size + 1)) #[] #[]] }, W1, gf,
    #[.func (.yield (w.heap.size + 1)) #[] #[]] ++ lb, W1, hrun, ?_, ?_, ?_, fun _ => h1, ?_⟩
  · simp only [resolve, hg]
    simp [go_sem]
  · intro f' hf'; simp [Target.leads] at hf'; subst hf'; exact hFg
  · simp [invoke, go_sem, eg]
  · have kAb : ∀ {r X Y}, Kept2 w.heap.size r X → Ab X Y → Kept2 w.heap.size r Y := fun h k => ⟨hAb _ _ k _ _ (by omega) h.1 rfl, hAb _ _ k _ _ (Nat.le_refl _) h.2 rfl⟩
    refine (hseq (w.heap.size + 1) (fun pre W => I pre W ∧ Kept2 w.heap.size (rec .ready none) W) (fun pre W => ∃ c, Ix c pre W ∧ Kept2 w.heap.size (rec .done (some c)) W) W1 hb1
      (fun s X Y h k => ⟨aI s X Y h.1 k, kAb h.2 k⟩) (fun s X Y ⟨c, h, h'⟩ k => ⟨c, aIx c s X Y h k, kAb h' k⟩) ?_ ⟨hI1, hK⟩).mono ?_
    · rintro pre x W ⟨hi, hk⟩ hnx
      have hy := run_yield (P := P) (args := encs x) hk.1 (by rw [hrec]; exact hps x)
      rw [hrec] at hy
      refine ⟨fn, _, assign, body, hy, roundIn_of_wpIn hfn (hassign _ x W _ ⟨_, run_beginRound hk.1 (by rw [hrec]), ?_⟩)⟩
      have hk2 := hk.put { rec .ready none with state := .busy }
      have hw2 : Kp W _ := hKb W (w.heap.size + 1) _ (.loop { rec .ready none with state := .busy }) (by omega) hk.1 rfl
      refine wpIn_mono (hbody _ pre x _ (hI.putObj _ hi (by omega) hk.1 rfl) hnx) ?_
      have fin : ∀ (jump : Option Code) (W3 : World), KeepsFrom w.heap.size (W.putObj (w.heap.size + 1) (.loop { rec .ready none with state := .busy })) W3 →
          (Instr.endRound (w.heap.size + 1) jump).run P W3 = .ok (.bool jump.isNone) (W3.putObj (w.heap.size + 1) (.loop (rec (if jump.isNone then .ready else .done) jump))) ∧
          W3.heap[w.heap.size + 1]? = some (.loop { rec .ready none with state := .busy }) ∧
          Kept2 w.heap.size (rec (if jump.isNone then .ready else .done) jump) (W3.putObj (w.heap.size + 1) (.loop (rec (if jump.isNone then .ready else .done) jump))) := fun jump W3 hk3 => by
        have hl3 := hk2.from hk3
        have := run_endRound (P := P) jump hl3.1
        rw [hrec] at this
        refine ⟨by rw [hrec]; exact this, hl3.1, hl3.put _⟩
      rintro e a3 W3 hp
      cases e with
      | normal =>
        obtain ⟨hr, hl3, hk4⟩ := fin none W3 hp.1
        exact ⟨_, _, hr, .inl ⟨rfl, ⟨hI.putObj _ hp.2.2 (by omega) hl3 rfl, hk4⟩, hKt (hKt hw2 hp.2.1) (hKb _ _ _ _ (by omega) hl3 rfl)⟩⟩
      | ret =>
        obtain ⟨hr, hl3, hk4⟩ := fin (some .ret) W3 hp.1
        exact ⟨_, _, hr, .inr ⟨rfl, .ret, (hIx _).putObj _ hp.2 (by omega) hl3 rfl, hk4⟩⟩
      | exit id =>
        obtain ⟨hr, hl3, hk4⟩ := fin (some (.exit id)) W3 hp.1
        exact ⟨_, _, hr, .inr ⟨rfl, .exit id, (hIx _).putObj _ hp.2 (by omega) hl3 rfl, hk4⟩⟩
      | goto t =>
        obtain ⟨hr, hl3, hk4⟩ := fin (some (.goto t)) W3 hp.1
        exact ⟨_, _, hr, .inr ⟨rfl, .goto t, (hIx _).putObj _ hp.2 (by omega) hl3 rfl, hk4⟩⟩
      | panic ch => exact hp.elim
      | outgrown => exact hp.elim
    · rintro e W2 ⟨⟨v, rfl⟩, (⟨xs, hS, hi, hk⟩ | ⟨pre, hSp, c, hi, hk⟩)⟩
      · exact ⟨none, _, by have := run_endLoop (P := P) hk.1 (by rw [hrec]; simp); rw [hrec] at this; exact this, hdone _ xs _ (Nat.le_refl _) hS (hI.putObj _ hi (by omega) hk.1 rfl) ((World.putObj_heap_other (by omega)).trans hk.2)⟩
      · exact ⟨some c, _, by have := run_endLoop (P := P) hk.1 (by rw [hrec]; simp); rw [hrec] at this; exact this, hstop _ c pre _ (Nat.le_refl _) hSp ((hIx c).putObj _ hi (by omega) hk.1 rfl) ((World.putObj_heap_other (by omega)).trans hk.2)⟩
end Fm

open Go.RowKit Go.Shelf
namespace Go.Proofs.YtbciamploeejiaaGreat
open Go Go.Proofs Fm
attribute [local go_sem] Oper.semAt_some

set_option maxHeartbeats 1000000 in
theorem scplace_any (l : List Nd) (i : Int) (w : World) (v : Value) (h : ndE.Row w l v) :
    Calls Tryz.prog 52 #[v, .int .i64 i] w fun e w' => e = .returned (.bool (placeF l i)) ∧ w = w' := by
  obtain ⟨a, c, rfl, hc1, hc2⟩ := h.slice
  have HX := Lib.hid (show placeF l i = (decide (0 ≤ i) && decide (i < l.length)) from rfl)
  clear h
  by_cases h0 : 0 ≤ i
  · go_enter Tryz.func52, Tryz.ntmps52
    go_wp2
    go_ret
    exact ⟨by rw [HX.out]; simp [h0], rfl⟩
  · go_enter Tryz.func52, Tryz.ntmps52
    go_wp2
    go_ret
    exact ⟨by rw [HX.out]; simp; omega, rfl⟩
theorem up_any (a : Option Addr) (m c : Nat) (i : Int) (w : World) :
    Calls Tryz.prog 53 #[.slice a m c, .int .i64 i] w fun e w' => e = .returned (.func (.func 55) #[] #[.pointer (some ⟨w.heap.size, 0, none⟩), .pointer (some ⟨w.heap.size + 1, 0, none⟩)]) ∧
      (w.alloc (.cells #[.slice a m c] 23)).alloc (.cells #[.int .i64 i] 3) = w' := by
  go_enter Tryz.func53, Tryz.ntmps53
  go_wp2
  go_ret
  exact ⟨rfl, rfl⟩
/-- What up hands out. -/
def upL (l : List Nd) (i : Int) : List Nat := if placeF l i then chainO l i.toNat else []
def restL (l : List Nd) (q : Int) : List Nat := if 0 ≤ q then q.toNat :: chainO l q.toNat else []
theorem upL_rest {l : List Nd} (h : RightO l) {i : Nat} (hi : i < l.length) : chainO l i = restL l l[i].owner := by
  have h1 := h i hi
  unfold restL
  by_cases h0 : 0 ≤ l[i].owner
  · rw [if_pos h0]
    exact chainO_some h hi (by omega)
  · rw [if_neg h0]
    exact chainO_none hi (by omega)
theorem restL_nat {l : List Nd} (h : RightO l) {q : Nat} (hq : q < l.length) : restL l q = q :: restL l l[q].owner := by
  rw [← upL_rest h hq]
  unfold restL
  rw [if_pos (Int.natCast_nonneg q)]
  rfl
/-- What the rounds over up must keep: what was ahead, and the box of the nodes. -/
def KpU (B bL : Nat) (X Y : World) : Prop := Below B X Y ∧ Y.heap[bL]? = X.heap[bL]?
theorem KpU.cell {B bL : Nat} {X Y : World} (h : KpU B bL X Y) {o : Nat} {v : Value} (hc : X.cell? ⟨bL, o, none⟩ = some v) : Y.cell? ⟨bL, o, none⟩ = some v :=
  (World.cell?_of_block (w := X) (a := ⟨bL, o, none⟩) h.2).trans hc
theorem KpU.trans {B bL : Nat} {X Y Z : World} (h : KpU B bL X Y) (k : KpU B bL Y Z) : KpU B bL X Z := ⟨h.1.trans k.1, k.2.trans h.2⟩
theorem KpU.put {B bL : Nat} (X : World) (l : Nat) (o o' : Obj) (hB : B ≤ l) (hb : bL < l) (hl : X.heap[l]? = some o) : KpU B bL X (X.putObj l o') :=
  ⟨(Below.refl B X).grown (grownBy_putObj' X l o') (by have := (Array.getElem?_eq_some_iff.1 hl).1; omega) (fun k e => by cases e; exact hB), World.putObj_heap_other (by omega)⟩
set_option maxRecDepth 100000 in
set_option maxHeartbeats 1000000 in
theorem up1_in (n l bL bI : Nat) (nd : List Nd) (v : Value) (i : Int) (hO : RightO nd) (w : World) (hR : ndE.Row w nd v)
    (J Jx : List Nat → World → Prop)
    (hY : ∀ (pre : List Nat) (x : Nat) X, J pre X → (∃ post, upL nd i = pre ++ x :: post) → YieldAt Fence.wide (n - 1) Tryz.prog l #[.int .i64 (x : Int)] X fun e Y =>
      (e = .returned (.bool true) ∧ J (pre ++ [x]) Y ∧ KpU w.heap.size bL X Y) ∨ (e = .returned (.bool false) ∧ Jx (pre ++ [x]) Y))
    (W : World) (hW : Ext w W) (hL : W.cell? ⟨bL, 0, none⟩ = some v) (hI : W.cell? ⟨bI, 0, none⟩ = some (.int .i64 i)) (h0 : J [] W) :
    CallsIn Fence.wide n Tryz.prog 55 #[.func (.yield l) #[] #[], .pointer (some ⟨bL, 0, none⟩), .pointer (some ⟨bI, 0, none⟩)] W fun e W' =>
      (∃ v, e = .returned v) ∧ (J (upL nd i) W' ∨ ∃ pre, Jx pre W') := by
  have hfn : ∀ f, Fence.wide.fn f := fun _ => trivial
  have hdp : Fence.wide.depth.isSome = false := rfl
  have HR := Lib.hid hR
  have HO := Lib.hid hO
  obtain ⟨a, c, rfl, hc1, hc2⟩ := hR.slice
  have HC := Lib.hid (scplace_any nd i W _ (hR.ext hW))
  have c1 := hL
  have c2 := hI
  have HY := Lib.hid hY
  have HW := Lib.hid hW
  have HJ0 := Lib.hid h0
  refine callsIn_of_wp Tryz.func55 rfl trivial ?_ rfl
  simp only [Tryz.ntmps55, List.size_toArray, List.length_cons, List.length_nil, Nat.reduceAdd, Nat.reduceSub, Array.replicate_succ, Array.replicate_zero, List.push_toArray, List.append_toArray, List.nil_append, List.cons_append]
  clear hR hO hY h0 hW hL hI
  cases hpl : placeF nd i with
  | false =>
    rw [hpl] at HC
    gi_wp2_with (gi_at_call 52; refine (callsIn_wide.2 HC.out).mono ?_; rintro e w' ⟨rfl, rfl⟩)
    have HU := Lib.hid (show upL nd i = [] by unfold upL; rw [hpl]; rfl)
    clear hpl
    gi_wp2

    first | go_end0 | (refine bodyPost_ret (results_none rfl _ _ _) rfl ?_)
    exact ⟨⟨_, rfl⟩, .inl (by rw [HU.out]; exact HJ0.out)⟩
  | true =>
    rw [hpl] at HC
    obtain ⟨hm0, hm1⟩ : 0 ≤ i ∧ i < nd.length := by unfold placeF at hpl; simpa using hpl
    obtain ⟨p, rfl⟩ : ∃ p : Nat, i = (p : Int) := ⟨i.toNat, by omega⟩
    have hp : p < nd.length := by omega
    have HU := Lib.hid (show upL nd p = restL nd nd[p].owner by unfold upL; rw [hpl]; exact upL_rest HO.out hp)
    obtain ⟨b, off, rfl, hb, aa, ma, ca, k, N, s, d, ⟨x0, x1, x2, x3, x4, x5, x6, x7, x8, x9, x10, x11, x12, x13, x14, x15⟩, -⟩ := nd_at16 HR.out HW.out p hp
    have hop := HO.out p hp
    have hol : -1 ≤ nd[p].owner ∧ nd[p].owner < (nd.length : Int) := ⟨hop.1, by have := hop.2.1; omega⟩
    obtain ⟨OW, hOW⟩ : ∃ OW, OW = nd[p].owner := ⟨_, rfl⟩
    rw [← hOW] at x4 HU hol
    obtain ⟨LN, hLN⟩ : ∃ LN, LN = nd.length := ⟨_, rfl⟩
    rw [← hLN] at hc1 hm1 hol c1 HC
    have HLN := Lib.hid hLN
    have HC1 := Lib.hid c1
    clear hpl x0 x1 x2 x3 x5 x6 x7 x8 x9 x10 x11 x12 x13 x14 x15 hop hOW hp hLN
    gi_wp2_with (gi_at_call 52; refine (callsIn_wide.2 HC.out).mono ?_; rintro e w' ⟨rfl, rfl⟩)
    gi_loopw [4] (fun o wr => ∃ (pre : List Nat) (q : Int), o = .int .i64 q ∧ -1 ≤ q ∧ q < (LN : Int) ∧ Hid (upL nd p = pre ++ restL nd q) ∧ Hid (Ext w wr) ∧ Hid (wr.cell? ⟨bL, 0, none⟩ = some (.slice (some ⟨b, off, none⟩) LN c)) ∧ Hid (J pre wr)) (fun o _ => (intOf o + 1).toNat)
    case atStart => exact ⟨[], OW, rfl, hol.1, hol.2, HU, HW, HC1, HJ0⟩
    case round =>
      clear x4 c1 c2 HU HW HJ0 hol HC1
      obtain ⟨pre, q, rfl, hq1, hq2, HU, HW, HC1, HJ⟩ := hrel
      rename World => wr
      by_cases hq0 : 0 ≤ q
      case neg =>
        have HE := Lib.hid (show upL nd p = pre by rw [HU.out]; unfold restL; rw [if_neg hq0, List.append_nil])
        gi_wp2
        first | go_end0 | (refine bodyPost_ret (results_none rfl _ _ _) rfl ?_)
        exact ⟨⟨_, rfl⟩, .inl (by rw [HE.out]; exact HJ.out)⟩
      obtain ⟨qn, rfl⟩ : ∃ qn : Nat, q = (qn : Int) := ⟨q.toNat, by omega⟩
      have hqn : qn < nd.length := by rw [← HLN.out]; omega
      have HE := Lib.hid (show upL nd p = (pre ++ [qn]) ++ restL nd nd[qn].owner by rw [HU.out, restL_nat HO.out hqn]; simp)
      obtain ⟨fn, tmps, assign, body, hy, hRn⟩ := HY.out pre qn wr HJ.out ⟨restL nd nd[qn].owner, by rw [HE.out]; simp⟩
      clear HJ HU
      gi_wp2
      refine hRn.mono ?_
      rintro e W3 (⟨rfl, hJ3, hk3⟩ | ⟨rfl, hJx3⟩)
      · have hE3 := HW.out.then hk3.1
        have c1 := hk3.cell HC1.out
        have HC3 := Lib.hid c1
        obtain ⟨b', off', e', hb', aa, ma, ca, k, N, s, d, ⟨x0, x1, x2, x3, x4, x5, x6, x7, x8, x9, x10, x11, x12, x13, x14, x15⟩, -⟩ := nd_at16 HR.out hE3 qn hqn
        injection e' with e'
        injection e' with e1' e2'
        subst e1' e2'
        have hop := HO.out qn hqn
        have hol : -1 ≤ nd[qn].owner ∧ nd[qn].owner < (LN : Int) ∧ nd[qn].owner < (qn : Int) := ⟨hop.1, by have := hop.2.1; omega, hop.2.1⟩
        obtain ⟨OW, hOW⟩ : ∃ OW, OW = nd[qn].owner := ⟨_, rfl⟩
        rw [← hOW] at x4 HE hol
        have HE3 := Lib.hid hE3
        have HJ3 := Lib.hid hJ3
        clear x0 x1 x2 x3 x5 x6 x7 x8 x9 x10 x11 x12 x13 x14 x15 hop hOW hJ3 hE3 hk3
        gi_wp2
        go_roundw
        case rel => exact ⟨pre ++ [qn], OW, rfl, hol.1, hol.2.1, HE, HE3, HC3, HJ3⟩
        case measure => simp [intOf]; omega
      · gi_wp2
        first | go_end0 | (refine bodyPost_ret (results_none rfl _ _ _) rfl ?_)
        exact ⟨⟨_, rfl⟩, .inr ⟨_, hJx3⟩⟩
/-- The iterator's contract. -/
theorem up1_stops (n bL bI : Nat) (nd : List Nd) (v : Value) (i : Int) (hO : RightO nd) (w w0 : World) (hR : ndE.Row w nd v) (hE : Ext w w0) (hbL : bL < w0.heap.size) (hbI : bI < w0.heap.size) (hL : w0.cell? ⟨bL, 0, none⟩ = some v) (hI : w0.cell? ⟨bI, 0, none⟩ = some (.int .i64 i)) :
    SeqAb Fence.wide n Tryz.prog 55 #[.pointer (some ⟨bL, 0, none⟩), .pointer (some ⟨bI, 0, none⟩)] (fun (x : Nat) => #[.int .i64 (x : Int)]) (fun _ _ => False) (KpU w.heap.size bL) (fun xs => xs = upL nd i) (fun _ => True) (fun pre x => ∃ post, upL nd i = pre ++ x :: post) w0 := by
  intro l J Jx W hW aJ aJx hY h0
  refine (up1_in n l bL bI nd v i hO w hR J Jx hY W (hE.then (hW.mono hE.size)) ((hW.cell (p := ⟨bL, 0, none⟩) hbL).trans hL) ((hW.cell (p := ⟨bI, 0, none⟩) hbI).trans hI) h0).mono ?_
  rintro e W' ⟨hv, h | ⟨pre, h⟩⟩
  · exact ⟨hv, .inl ⟨_, rfl, h⟩⟩
  · exact ⟨hv, .inr ⟨pre, trivial, h⟩⟩
end Go.Proofs.YtbciamploeejiaaGreat

open Go.RowKit Go.Shelf
namespace Go.Proofs.YtbciamploeejiaaGreat
open Go Go.Proofs Fm
attribute [local go_sem] Oper.semAt_some

theorem upL_len {nd : List Nd} (hO : RightO nd) (i : Int) (hn : nd.length ≤ 9223372036854775807) : (upL nd i).length + 1 ≤ 9223372036854775807 := by
  unfold upL
  cases h : placeF nd i with
  | false => simp
  | true =>
    obtain ⟨h0, h1⟩ : 0 ≤ i ∧ i < nd.length := by unfold placeF at h; simpa using h
    have := chainO_len hO i.toNat (by omega)
    rw [if_pos rfl]
    omega
theorem grown_setI (w : World) (R o : Nat) (u : Value) : w.grownBy (w.setCell ⟨R, o, none⟩ u) (some R) := ⟨rfl, rfl, rfl, by simp [World.setCell], fun k _ hk => Below.heap_setCell _ _ _ _ (fun e => hk (by simp [e]))⟩
/-- The rounds of Deep. -/
def DRnd (w : World) (pre : List Nat) (W : World) : Prop := Ext w W ∧ w.heap.size + 3 ≤ W.heap.size ∧ BoxL W w.heap.size [.int .i64 (1 + (pre.length : Int))]
theorem DRnd.own (w : World) : OwnFrom (w.heap.size + 3) (DRnd w) := by
  rintro pre X Y row ⟨h1, h2, h3⟩ hg hr
  exact ⟨h1.grown hg (fun k e => by have := (hr k e).1; omega), Nat.le_trans h2 hg.size, h3.kept hg (fun e => by have := (hr _ e).1; omega)⟩
theorem deep_boxes (w : World) (a : Option Addr) (m c : Nat) (i : Int) (W : World) (hW : ((w.alloc (.cells #[.int .i64 1] 3)).alloc (.cells #[.slice a m c] 23)).alloc (.cells #[.int .i64 i] 3) = W) :
    W.heap.size = w.heap.size + 3 ∧ DRnd w [] W ∧ W.cell? ⟨w.heap.size + 1, 0, none⟩ = some (.slice a m c) ∧ W.cell? ⟨w.heap.size + 2, 0, none⟩ = some (.int .i64 i) := by
  have b1 := BoxL.new w [.int .i64 1] 3
  have b2 := BoxL.new (w.alloc (.cells #[.int .i64 1] 3)) [.slice a m c] 23
  have b3 := BoxL.new ((w.alloc (.cells #[.int .i64 1] 3)).alloc (.cells #[.slice a m c] 23)) [.int .i64 i] 3
  have e1 := (Ext.refl w).alloc (.cells #[.int .i64 1] 3)
  have e2 := (Ext.refl (w.alloc (.cells #[.int .i64 1] 3))).alloc (.cells #[.slice a m c] 23)
  have e3 := (Ext.refl ((w.alloc (.cells #[.int .i64 1] 3)).alloc (.cells #[.slice a m c] 23))).alloc (.cells #[.int .i64 i] 3)
  simp only [World.size_alloc, Nat.add_assoc, Nat.reduceAdd] at b2 b3
  subst hW
  refine ⟨by simp only [World.size_alloc], ⟨(e1.trans e2).trans e3, by simp only [World.size_alloc]; omega, (b1.ext e2).ext e3⟩, ?_, ?_⟩
  · exact (b2.ext e3).cell 0 _ rfl
  · exact b3.cell 0 _ rfl
set_option maxRecDepth 100000 in
set_option maxHeartbeats 2000000 in
theorem deep_any (nd : List Nd) (i : Int) (hO : RightO nd) (w : World) (v : Value) (h : ndE.Row w nd v) :
    Calls Tryz.prog 45 #[v, .int .i64 i] w fun e w' => e = .returned (.int .i64 (deepF nd i)) ∧ Ext w w' := by
  have hfn : ∀ f, Fence.wide.fn f := fun _ => trivial
  have hdp : Fence.wide.depth.isSome = false := rfl
  obtain ⟨a, c, rfl, hc1, hc2⟩ := h.slice
  have HR := Lib.hid h
  have HO := Lib.hid hO
  have HC := Lib.hid (fun W (hW : Ext w W) => scplace_any nd i W _ (h.ext hW))
  have HLn := Lib.hid (upL_len hO i (by omega))
  clear h hO
  refine (callsIn_wide (n := 3)).1 ?_
  refine callsIn_of_wp_marks Tryz.func45 rfl trivial ?_ rfl
  simp only [Tryz.ntmps45, List.size_toArray, List.length_cons, List.length_nil, Nat.reduceAdd, Nat.reduceSub, Array.replicate_succ, Array.replicate_zero, List.push_toArray, List.append_toArray, List.nil_append, List.cons_append]
  cases hpl : placeF nd i with
  | false =>
    rw [hpl] at HC
    have HD := Lib.hid (show deepF nd i = 0 by unfold deepF; rw [hpl]; rfl)
    clear hpl
    gi_wp2_with (gi_at_call 52; refine (callsIn_wide.2 (HC.out _ (Ext.refl w))).mono ?_; rintro e w' ⟨rfl, rfl⟩)
    exact ⟨.int .i64 0, by simp [results, Tryz.results45, go_sem], by rw [HD.out], Ext.refl w⟩
  | true =>
    rw [hpl] at HC
    have HD := Lib.hid (show deepF nd i = 1 + ((upL nd i).length : Int) by unfold deepF upL; rw [hpl, if_pos rfl, if_pos rfl]; omega)
    clear hpl
    obtain ⟨W3, hW3⟩ : ∃ x, ((w.alloc (.cells #[.int .i64 1] 3)).alloc (.cells #[.slice a nd.length c] 23)).alloc (.cells #[.int .i64 i] 3) = x := ⟨_, rfl⟩
    obtain ⟨hz3, hD3, hL3, hI3⟩ := deep_boxes w a _ c i W3 hW3
    have HW3 := Lib.hid hW3
    clear hW3
    gi_wp2_with (first | (gi_at_call 52; refine (callsIn_wide.2 (HC.out _ (Ext.refl w))).mono ?_; rintro e w' ⟨rfl, rfl⟩) | (gi_at_call 53; refine (callsIn_wide.2 (up_any a _ c i _)).mono ?_; rintro e w' ⟨rfl, rfl⟩))
    rw [HW3.out]
    simp only [Nat.add_assoc, Nat.reduceAdd]
    refine wpIn_rangeFunc_ab rfl (by decide) (gf := 55) (lb := #[.pointer (some ⟨w.heap.size + 1, 0, none⟩), .pointer (some ⟨w.heap.size + 2, 0, none⟩)]) rfl trivial (enters_of Tryz.func55 (by kernel_rfl) rfl)
      (up1_stops _ _ _ nd _ i HO.out w W3 HR.out hD3.1 (by omega) (by omega) hL3 hI3) (Below.refl _ _) (fun _ => rfl)
      (fun _ _ h => h.elim) (fun h k => h.trans k) (fun X l o o' hl ho hc => KpU.put X l o o' (by omega) (by omega) ho)
      (DRnd w) (fun _ _ _ => False) (by rw [hz3]; exact DRnd.own w) (fun c s X Y row h => h.elim) (fun _ _ _ _ h => h.elim) (fun _ _ _ _ _ h => h.elim) hD3
      (fun x => { tmps := #[.slice a nd.length c, .int .i64 i, undef, undef, .int .i64 0, .pointer (some ⟨w.heap.size, 0, none⟩), .slice a nd.length c, .int .i64 i, .bool true, .bool false, .slice a nd.length c, .int .i64 i, .func (.func 55) #[] #[.pointer (some ⟨w.heap.size + 1, 0, none⟩), .pointer (some ⟨w.heap.size + 2, 0, none⟩)], .int .i64 (x : Int), undef, undef, undef], defers := [] }) ?assign ?body ?done ?stop
    case assign =>
      intro l x W K hK
      gi_wp2
      simpa using hK
    case body =>
      rintro l pre x W ⟨hE, hz, hb⟩ ⟨post, hp⟩
      have hln : (pre.length : Int) + 2 ≤ 9223372036854775807 := by
        have := HLn.out
        rw [hp] at this
        simp at this
        omega
      have c0 := hb.cell 0 _ rfl
      have c1 := hb.free 0
      have HK := Lib.hid (show KpU w.heap.size (w.heap.size + 1) W (W.setCell ⟨w.heap.size, 0, none⟩ (.int .i64 (1 + (pre.length : Int) + 1))) from
        ⟨(Below.refl _ _).setCell (p := ⟨w.heap.size, 0, none⟩) (Nat.le_refl _) _, Below.heap_setCell _ _ _ _ (by show w.heap.size + 1 ≠ w.heap.size; omega)⟩)
      have HD := Lib.hid (show DRnd w (pre ++ [x]) (W.setCell ⟨w.heap.size, 0, none⟩ (.int .i64 (1 + (pre.length : Int) + 1))) from
        ⟨hE.setCell (p := ⟨w.heap.size, 0, none⟩) (Nat.le_refl _) _, by rw [World.size_setCell]; exact hz, by
          have := hb.set 0 (by simp) (.int .i64 (1 + (pre.length : Int) + 1))
          rwa [show ([Value.int .i64 (1 + (pre.length : Int))].set 0 (.int .i64 (1 + (pre.length : Int) + 1))) = [.int .i64 (1 + ((pre ++ [x]).length : Int))] by simp; omega] at this⟩)
      have HF := Lib.hid (KeepsFrom.of_grownBy (B := w.heap.size + 3) (grown_setI W w.heap.size 0 (.int .i64 (1 + (pre.length : Int) + 1))) (fun j e => by injection e with e; omega))
      clear hE hz hb hp hD3 hL3 hI3
      gi_wp2
      rw [hz3]
      exact ⟨HF.out, HK.out, HD.out⟩
    case done =>
      rintro D xs W hD rfl ⟨hE, hz, hb⟩ hK
      have c0 := hb.cell 0 _ rfl
      have HE := Lib.hid hE
      have HK := Lib.hid hK
      rw [hz3] at hD
      clear hE hb hD3 hL3 hI3 hK
      gi_wp2
      refine ⟨by simp, .inl ⟨_, _, rfl, run_takeDeferred HK.out, ?_⟩⟩
      refine ⟨.int .i64 (1 + ((upL nd i).length : Int)), by simp [results, Tryz.results45, go_sem], by rw [HD.out], HE.out.grown (grownBy_putObj' W D (.deferred none)) (fun k e => by injection e with e; omega)⟩
    case stop =>
      rintro D cd pre W hD - h hK
      exact h.elim
end Go.Proofs.YtbciamploeejiaaGreat

namespace Fm
open Go Go.RowKit

def stpE : Elem Stp where
  sz := 2
  R _ x c := c 0 = .string (str x.name) ∧ c 1 = .int .i64 x.place ∧ x.name.length ≤ 9223372036854775807 ∧ isI64 x.place
  ext _ h := h
  loc hc h := ⟨(hc 0 (by omega)).symm.trans h.1, (hc 1 (by omega)).symm.trans h.2.1, h.2.2⟩
def stpCells (x : Stp) : List Value := [.string (str x.name), .int .i64 x.place]
def stpsCells (l : List Stp) : List Value := (l.map stpCells).flatten
def stpWf (x : Stp) : Prop := x.name.length ≤ 9223372036854775807 ∧ isI64 x.place
theorem stpsCells_snoc (l : List Stp) (x : Stp) : stpsCells (l ++ [x]) = stpsCells l ++ stpCells x := by unfold stpsCells; simp
theorem stpsCells_at : ∀ (l : List Stp) (i j : Nat) (hi : i < l.length), j < 2 → (stpsCells l)[i * 2 + j]? = (stpCells l[i])[j]?
  | [], i, j, hi, _ => by simp at hi
  | x :: l, 0, j, _, hj => by
    unfold stpsCells
    rw [List.map_cons, List.flatten_cons, List.getElem?_append_left (by simp [stpCells]; omega)]
    simp
  | x :: l, i + 1, j, hi, hj => by
    have ih := stpsCells_at l i j (by simpa using hi) hj
    unfold stpsCells at ih ⊢
    rw [List.map_cons, List.flatten_cons, List.getElem?_append_right (by simp [stpCells]; omega)]
    have e : (i + 1) * 2 + j - (stpCells x).length = i * 2 + j := by simp [stpCells]; omega
    rw [e, ih]
    simp
/-- An element of a slice of steps. -/
theorem stp_at {w wr : World} {l : List Stp} {a : Option Addr} {n cap : Nat} (h : stpE.Row w l (.slice a n cap)) (hE : Ext w wr) (i : Nat) (hi : i < l.length) :
    ∃ (b off : Nat), a = some ⟨b, off, none⟩ ∧ b < w.heap.size ∧ wr.cell? ⟨b, off + i * 2, none⟩ = some (.string (str l[i].name)) ∧ wr.cell? ⟨b, off + i * 2 + 1, none⟩ = some (.int .i64 l[i].place) ∧ stpWf l[i] := by
  obtain ⟨hn, b, off, ha, hb, hc⟩ := h.at (by omega)
  obtain ⟨c, ⟨r0, r1, r2, r3⟩, hcell⟩ := hc i hi
  refine ⟨b, off, ha, hb, ?_, ?_, r2, r3⟩
  · have := hcell 0 (by decide) wr hE; rw [r0] at this; exact this
  · have := hcell 1 (by decide) wr hE; rw [r1] at this; exact this
/-- A path that is handed in. -/
def PthV (w : World) (p : Pth) (v : Value) : Prop :=
  ∃ (a : Option Addr) (m c : Nat), v = .agg #[.int .i64 p.flow, .slice a m c] ∧ stpE.Row w p.steps (.slice a m c) ∧ isI64 p.flow
theorem PthV.ext {w w' : World} {p : Pth} {v : Value} (h : PthV w p v) (hE : Ext w w') : PthV w' p v := by
  obtain ⟨a, m, c, h1, h2, h3⟩ := h
  exact ⟨a, m, c, h1, h2.ext hE, h3⟩
/-- Steps in memory of one's own. -/
def OwnSt (e : TypeId) (base : Nat) (w : World) (v : Value) (l : List Stp) : Prop := w.ownsRow base e 2 v l.length (stpsCells l) ∧ ∀ x, x ∈ l → stpWf x
theorem OwnSt.nil (e : TypeId) (base : Nat) (w : World) : OwnSt e base w (.slice none 0 0) [] := ⟨World.ownsRow_nil w base e 2, fun x h => by cases h⟩
theorem OwnSt.ext {e : TypeId} {base : Nat} {w w' : World} {v : Value} {l : List Stp} (h : OwnSt e base w v l) (hE : Ext w w') : OwnSt e base w' v l := ⟨hE.own h.1, h.2⟩
theorem OwnSt.mono {e : TypeId} {base base' : Nat} {w : World} {v : Value} {l : List Stp} (h : OwnSt e base w v l) (hb : base' ≤ base) : OwnSt e base' w v l := ⟨ownsRow_base h.1 hb, h.2⟩
theorem OwnSt.lt {e : TypeId} {base : Nat} {w : World} {v : Value} {l : List Stp} (h : OwnSt e base w v l) (b : Nat) (hb : v.ownBlock = some b) : base ≤ b ∧ b < w.heap.size := World.ownsRow.lt h.1 b hb
theorem OwnSt.kept {e : TypeId} {base : Nat} {w w' : World} {v : Value} {l : List Stp} {row : Option Nat} (h : OwnSt e base w v l) (hg : w.grownBy w' row) (hr : ∀ b, row = some b → b < base) : OwnSt e base w' v l := by
  refine ⟨World.ownsRow.kept h.1 hg ?_, h.2⟩
  cases hv : v.ownBlock with
  | none => exact .inl rfl
  | some b => right; intro e; have := hr b e.symm; have := (World.ownsRow.lt h.1 b hv).1; omega
theorem OwnSt.slice {e : TypeId} {base : Nat} {w : World} {v : Value} {l : List Stp} (h : OwnSt e base w v l) : ∃ a c, v = .slice a l.length c := by
  rcases h.1.2 with ⟨rfl, h0⟩ | ⟨g, cap, cur, rfl, _⟩
  · exact ⟨none, 0, by rw [h0]⟩
  · exact ⟨_, _, rfl⟩
theorem OwnSt.row {e : TypeId} {base : Nat} {w : World} {v : Value} {l : List Stp} (h : OwnSt e base w v l) : stpE.Row w l v := by
  have hc := fun g => World.ownsRow.cells h.1 (g := g)
  rcases h.1.2 with ⟨rfl, h0⟩ | ⟨g, cap, cur, rfl, hb, hg, h1, h2, h5, h6⟩
  · have : l = [] := List.eq_nil_of_length_eq_zero h0
    subst this
    exact Elem.Row.void stpE w none
  · refine Elem.Row.mk rfl h1 h2 (Array.getElem?_eq_some_iff.1 hg).1 (fun i hi => ?_)
    have hwf := h.2 _ (List.getElem_mem hi)
    refine ⟨fun j => (stpCells l[i]).getD j .nilFunc, ⟨rfl, rfl, hwf⟩, fun j hj => ?_⟩
    have hj2 : j < 2 := hj
    have := hc g rfl (i * 2 + j) ((stpCells l[i]).getD j .nilFunc) (by
      rw [stpsCells_at l i j hi hj2, List.getD_eq_getElem?_getD, List.getElem?_eq_getElem (by simp [stpCells]; omega)]; rfl)
    rw [Addr.add_lit] at this
    exact this
theorem OwnSt.snoc {e : TypeId} {base : Nat} {w' : World} {v' : Value} {l : List Stp} {x : Stp} (hrow : w'.ownsRow base e 2 v' (l.length + 1) (stpsCells l ++ stpCells x)) (hl : ∀ y, y ∈ l → stpWf y) (hx : stpWf x) : OwnSt e base w' v' (l ++ [x]) := by
  refine ⟨by rw [List.length_append, stpsCells_snoc]; exact hrow, fun y hy => ?_⟩
  rcases List.mem_append.1 hy with hy | hy
  · exact hl y hy
  · rw [List.mem_singleton] at hy; subst hy; exact hx
/-- A path in memory of one's own. -/
def PthOwn (e : TypeId) (base : Nat) (w : World) (p : Pth) (v : Value) : Prop :=
  ∃ (a : Option Addr) (m c : Nat), v = .agg #[.int .i64 p.flow, .slice a m c] ∧ OwnSt e base w (.slice a m c) p.steps ∧ isI64 p.flow
theorem PthOwn.v {e : TypeId} {base : Nat} {w : World} {p : Pth} {v : Value} (h : PthOwn e base w p v) : PthV w p v := by
  obtain ⟨a, m, c, h1, h2, h3⟩ := h
  exact ⟨a, m, c, h1, h2.row, h3⟩
theorem PthOwn.ext {e : TypeId} {base : Nat} {w w' : World} {p : Pth} {v : Value} (h : PthOwn e base w p v) (hE : Ext w w') : PthOwn e base w' p v := by
  obtain ⟨a, m, c, h1, h2, h3⟩ := h
  exact ⟨a, m, c, h1, h2.ext hE, h3⟩
end Fm

open Go.RowKit Go.Shelf
namespace Go.Proofs.YtbciamploeejiaaGreat
open Go Go.Proofs Fm

theorem idMay_any (n : Int) (w : World) : Calls Tryz.prog 88 #[.int .i64 n] w fun e w' => e = .returned (.bool (mayB n)) ∧ w = w' := by
  have HX := Lib.hid (show mayB n = (decide (0 ≤ n) && decide (n ≤ 999999)) from rfl)
  by_cases h1 : 0 ≤ n
  · have k1 := Lib.hid (decide_eq_true h1)
    by_cases h2 : n ≤ 999999
    · have k2 := Lib.hid (decide_eq_true h2)
      go_enter Tryz.func88, Tryz.ntmps88
      go_wp2
      go_ret
      exact ⟨by rw [HX.out, k1.out, k2.out]; rfl, rfl⟩
    · have k2 := Lib.hid (decide_eq_false h2)
      have h3 : 999999 < n := by omega
      go_enter Tryz.func88, Tryz.ntmps88
      go_wp2
      go_ret
      exact ⟨by rw [HX.out, k1.out, k2.out]; rfl, rfl⟩
  · have k1 := Lib.hid (decide_eq_false h1)
    have h3 : n < 0 := by omega
    go_enter Tryz.func88, Tryz.ntmps88
    go_wp2
    go_ret
    exact ⟨by rw [HX.out, k1.out]; rfl, rfl⟩
end Go.Proofs.YtbciamploeejiaaGreat

open Go.RowKit Go.Shelf
namespace Go.Proofs.YtbciamploeejiaaGreat
open Go Go.Proofs Fm

end Go.Proofs.YtbciamploeejiaaGreat

/- Walks: Right, Bytes. -/
open Go.RowKit Go.Shelf
namespace Go.Proofs.YtbciamploeejiaaGreat
open Go Go.Proofs Fm

end Go.Proofs.YtbciamploeejiaaGreat

/- Walks: the reader's num and text. -/
open Go.RowKit Go.Shelf
namespace Go.Proofs.YtbciamploeejiaaGreat
open Go Go.Proofs Fm

/-- The reader in block R: what is left, and how much room. -/
structure RdAt (w0 w : World) (R : Nat) (v : Value) (xs : List UInt8) (m : Int) : Prop where
  ext : Ext w0 w
  old : w0.heap.size ≤ R
  lt : R < w.heap.size
  c0 : w.cell? ⟨R, 0, none⟩ = some v
  c1 : w.cell? ⟨R, 1, none⟩ = some (.int .i64 m)
  f0 : w.frozen? ⟨R, 0, none⟩ = false
  f1 : w.frozen? ⟨R, 1, none⟩ = false
  bytes : Bytes w0 v xs
theorem RdAt.kept {w0 w w' : World} {R : Nat} {v : Value} {xs : List UInt8} {m : Int} (h : RdAt w0 w R v xs m) {row : Option Nat} (hg : w.grownBy w' row) (hr : ∀ k, row = some k → w0.heap.size ≤ k ∧ k ≠ R) : RdAt w0 w' R v xs m := by
  have hne : some R ≠ row := fun e => (hr R e.symm).2 rfl
  exact ⟨h.ext.grown hg (fun k hk => (hr k hk).1), h.old, Nat.lt_of_lt_of_le h.lt hg.size, (hg.cell_far ⟨R, 0, none⟩ h.lt hne).trans h.c0, (hg.cell_far ⟨R, 1, none⟩ h.lt hne).trans h.c1,
    (hg.frozen_far ⟨R, 0, none⟩ h.lt hne).trans h.f0, (hg.frozen_far ⟨R, 1, none⟩ h.lt hne).trans h.f1, h.bytes⟩
theorem RdAt.then {w0 w w' : World} {R : Nat} {v : Value} {xs : List UInt8} {m : Int} (h : RdAt w0 w R v xs m) (hE : Ext w w') : RdAt w0 w' R v xs m := h.kept hE.grownBy (fun k hk => by cases hk)
theorem grown_set (w : World) (R o : Nat) (u : Value) : w.grownBy (w.setCell ⟨R, o, none⟩ u) (some R) := ⟨rfl, rfl, rfl, by simp [World.setCell], fun k _ hk => Below.heap_setCell _ _ _ _ (fun e => hk (by simp [e]))⟩
end Go.Proofs.YtbciamploeejiaaGreat

/- Walks: the reader's value. -/
open Go.RowKit Go.Shelf
namespace Go.Proofs.YtbciamploeejiaaGreat
open Go Go.Proofs Fm

/-- A struct of four cells in a block of its own. -/
def Box4 (w : World) (b : Nat) (c0 c1 c2 c3 : Value) : Prop := w.heap[b]? = some (.cells #[c0, c1, c2, c3] 30 (0, 0))
theorem Box4.new (w : World) (c0 c1 c2 c3 : Value) : Box4 (w.alloc (.cells #[c0, c1, c2, c3] 30)) w.heap.size c0 c1 c2 c3 := heap_alloc_new w _
theorem Box4.lt {w : World} {b : Nat} {c0 c1 c2 c3 : Value} (h : Box4 w b c0 c1 c2 c3) : b < w.heap.size := (Array.getElem?_eq_some_iff.1 h).1
theorem Box4.kept {w w' : World} {b : Nat} {c0 c1 c2 c3 : Value} (h : Box4 w b c0 c1 c2 c3) {row : Option Nat} (hg : w.grownBy w' row) (hr : row ≠ some b) : Box4 w' b c0 c1 c2 c3 := (hg.block b h.lt (fun e => hr e.symm)).trans h
theorem Box4.ext {w w' : World} {b : Nat} {c0 c1 c2 c3 : Value} (h : Box4 w b c0 c1 c2 c3) (hE : Ext w w') : Box4 w' b c0 c1 c2 c3 := (hE.block b h.lt).trans h
theorem Box4.cells {w : World} {b : Nat} {c0 c1 c2 c3 : Value} (h : Box4 w b c0 c1 c2 c3) : w.cell? ⟨b, 0, none⟩ = some c0 ∧ w.cell? ⟨b, 1, none⟩ = some c1 ∧ w.cell? ⟨b, 2, none⟩ = some c2 ∧ w.cell? ⟨b, 3, none⟩ = some c3 := by
  unfold Box4 at h
  refine ⟨?_, ?_, ?_, ?_⟩ <;> simp [World.cell?, h]
theorem Box4.frozen {w : World} {b : Nat} {c0 c1 c2 c3 : Value} (h : Box4 w b c0 c1 c2 c3) : w.frozen? ⟨b, 0, none⟩ = false ∧ w.frozen? ⟨b, 1, none⟩ = false ∧ w.frozen? ⟨b, 2, none⟩ = false ∧ w.frozen? ⟨b, 3, none⟩ = false := by
  unfold Box4 at h
  refine ⟨?_, ?_, ?_, ?_⟩ <;> simp [World.frozen?, h]
end Go.Proofs.YtbciamploeejiaaGreat

open Go.RowKit Go.Shelf
namespace Go.Proofs.YtbciamploeejiaaGreat
open Go Go.Proofs Fm

theorem grown_row {a b c : World} {r1 row : Option Nat} (h : a.grownBy b r1) (k : b.grownBy c row) (hr : ∀ x, row = some x → a.heap.size ≤ x) : a.grownBy c r1 :=
  ⟨k.os.trans h.os, k.tape.trans h.tape, k.output.trans h.output, Nat.le_trans h.size k.size,
    fun i hi hne => (k.block i (Nat.lt_of_lt_of_le hi h.size) (fun e => by have := hr i e.symm; omega)).trans (h.block i hi hne)⟩
end Go.Proofs.YtbciamploeejiaaGreat

open Go.RowKit Go.Shelf
namespace Go.Proofs.YtbciamploeejiaaGreat
open Go Go.Proofs Fm

end Go.Proofs.YtbciamploeejiaaGreat

/- Walks: Take, Parse. -/
open Go.RowKit Go.Shelf
namespace Go.Proofs.YtbciamploeejiaaGreat
open Go Go.Proofs Fm

theorem Box4.other {w : World} {b g : Nat} {c0 c1 c2 c3 : Value} (h : Box4 w b c0 c1 c2 c3) (hb : g ≠ b) (o : Nat) (u : Value) : Box4 (w.setCell ⟨g, o, none⟩ u) b c0 c1 c2 c3 :=
  h.kept (grown_set w g o u) (by simpa using hb)
end Go.Proofs.YtbciamploeejiaaGreat

/- Walks: Parse. -/
open Go.RowKit Go.Shelf
namespace Go.Proofs.YtbciamploeejiaaGreat
open Go Go.Proofs Fm

end Go.Proofs.YtbciamploeejiaaGreat

/- What a round that appends to a box's list leaves. -/
open Go.RowKit Go.Shelf
namespace Go.Proofs.YtbciamploeejiaaGreat
open Go Go.Proofs Fm

end Go.Proofs.YtbciamploeejiaaGreat

open Go.RowKit Go.Shelf
namespace Go.Proofs.YtbciamploeejiaaGreat
open Go Go.Proofs Fm

/-- In which block its buffer lies. -/
def bufAt (w : World) (b : Nat) : Option Nat := match w.heap[b]? with
  | some (.cells cs _ _) => (cs.getD 1 undef).ownBlock
  | _ => none
/-- Block k is none of the builder's. -/
def Apart (w : World) (b k : Nat) : Prop := k < w.heap.size ∧ k ≠ b ∧ bufAt w b ≠ some k
/-- What is none of the builder's stays as it is, and none of its. -/
def Keep (b : Nat) (w w' : World) : Prop := ∀ k, Apart w b k → w'.heap[k]? = w.heap[k]? ∧ Apart w' b k
theorem Keep.refl (b : Nat) (w : World) : Keep b w w := fun _ h => ⟨rfl, h⟩
theorem Keep.trans {b : Nat} {x y z : World} (h : Keep b x y) (k : Keep b y z) : Keep b x z := fun i hi => by
  obtain ⟨a1, a2⟩ := h i hi
  obtain ⟨b1, b2⟩ := k i a2
  exact ⟨b1.trans a1, b2⟩
theorem Apart.box {w w' : World} {b k : Nat} (h : Apart w b k) (hk : Keep b w w') {c0 c1 c2 c3 : Value} (hx : Box4 w k c0 c1 c2 c3) : Box4 w' k c0 c1 c2 c3 := ((hk k h).1).trans hx
end Go.Proofs.YtbciamploeejiaaGreat

open Go.RowKit Go.Shelf
namespace Go.Proofs.YtbciamploeejiaaGreat
open Go Go.Proofs Fm

/-- The table that FormatInt reads is as the program's text lays it. -/
def Tab (w : World) : Prop := Lib.TabIs Tryz.prog w "internal/strconv.uint64pow10" .u64 Lib.pow10Tab
theorem Tab.ext {w w' : World} (h : Tab w) (hE : Ext w w') : Tab w' := by
  have hg : Tryz.prog.globalNamed "internal/strconv.uint64pow10" = some 5 := by kernel_rfl
  unfold Tab Lib.TabIs World.var? at *
  rw [hg] at h ⊢
  simp only [Option.bind_some] at h ⊢
  have hlt : 5 < w.heap.size := by
    rcases Nat.lt_or_ge 5 w.heap.size with h' | h'
    · exact h'
    · rw [Array.getElem?_eq_none h'] at h; cases h
  rw [hE.block _ hlt]
  exact h
theorem ext_grow (w : World) (os : Array Obj) : Ext w (Go.Sort.grow w os) :=
  ⟨rfl, rfl, rfl, by simp [Go.Sort.grow], fun i hi => by simp [Go.Sort.grow, Array.getElem?_append_left hi]⟩
end Go.Proofs.YtbciamploeejiaaGreat

namespace Go.Proofs
open Go.Shelf
def Tryz.lays122_ren : Go.Shelf.Ren := ⟨fun | 122 => 78 | 215 => 51 | n => n, fun | 3 => 3 | 4 => 4 | n => n, fun | n => n⟩
theorem Tryz.lays122 : Go.Proofs.Lays.n122 Tryz.prog Tryz.lays122_ren := {
  mixed := by kernel_rfl
  f122 := Tryz.func78.trans (congrArg some (by kernel_rfl))
  f215 := Tryz.func51.trans (congrArg some (by kernel_rfl))
  t3 := Tryz.underlying3
  a3 := Tryz.isAgg3
  z3 := Tryz.sizeOf3
  v3 := Tryz.zeroValue3
  t4 := Tryz.underlying4
  a4 := Tryz.isAgg4
  z4 := Tryz.sizeOf4
  v4 := Tryz.zeroValue4 }
open Go.RowKit in
theorem Tryz.cmp_Compare_int (x y : Int) (w : World) :
    Calls Tryz.prog 78 #[.int .i64 x, .int .i64 y] w fun e w' => e = .returned (.int .i64 (Lib.compareInt x y)) ∧ w' = w := Any.cmp_Compare_int Tryz.lays122 x y w
def Tryz.laysM171_ren : Go.Shelf.Ren := ⟨fun | 171 => 89 | 243 => 99 | 246 => 113 | 283 => 130 | 284 => 131 | 285 => 132 | 286 => 133 | 129 => 43 | 317 => 141 | 318 => 142 | 319 => 143 | 320 => 144 | 337 => 147 | 338 => 148 | n => n, fun | 3 => 3 | 9 => 9 | 2 => 2 | 4 => 4 | 171 => 174 | 0 => 0 | 53 => 80 | 37 => 35 | 5 => 5 | 173 => 176 | 212 => 187 | 51 => 78 | 20 => 20 | 213 => 188 | 46 => 37 | 232 => 191 | 233 => 192 | n => n, fun | 17 => 5 | 18 => 6 | 19 => 7 | n => n⟩
theorem Tryz.laysM171 : Go.Proofs.LaysM.n171 Tryz.prog Tryz.laysM171_ren := {
  mixed := by kernel_rfl
  f129 := Tryz.func43.trans (congrArg some (by kernel_rfl))
  f171 := Tryz.func89.trans (congrArg some (by kernel_rfl))
  f243 := Tryz.func99.trans (congrArg some (by kernel_rfl))
  f246 := Tryz.func113.trans (congrArg some (by kernel_rfl))
  f283 := Tryz.func130.trans (congrArg some (by kernel_rfl))
  f284 := Tryz.func131.trans (congrArg some (by kernel_rfl))
  f285 := Tryz.func132.trans (congrArg some (by kernel_rfl))
  f286 := Tryz.func133.trans (congrArg some (by kernel_rfl))
  f317 := Tryz.func141.trans (congrArg some (by kernel_rfl))
  f318 := Tryz.func142.trans (congrArg some (by kernel_rfl))
  f319 := Tryz.func143.trans (congrArg some (by kernel_rfl))
  f320 := Tryz.func144.trans (congrArg some (by kernel_rfl))
  f337 := Tryz.func147.trans (congrArg some (by kernel_rfl))
  f338 := Tryz.func148.trans (congrArg some (by kernel_rfl))
  t0 := Tryz.underlying0
  a0 := Tryz.isAgg0
  z0 := Tryz.sizeOf0
  v0 := Tryz.zeroValue0
  t2 := Tryz.underlying2
  a2 := Tryz.isAgg2
  z2 := Tryz.sizeOf2
  v2 := Tryz.zeroValue2
  t3 := Tryz.underlying3
  a3 := Tryz.isAgg3
  z3 := Tryz.sizeOf3
  v3 := Tryz.zeroValue3
  t4 := Tryz.underlying4
  a4 := Tryz.isAgg4
  z4 := Tryz.sizeOf4
  v4 := Tryz.zeroValue4
  t5 := Tryz.underlying5
  a5 := Tryz.isAgg5
  z5 := Tryz.sizeOf5
  v5 := Tryz.zeroValue5
  t9 := Tryz.underlying9
  a9 := Tryz.isAgg9
  z9 := Tryz.sizeOf9
  v9 := Tryz.zeroValue9
  t20 := Tryz.underlying20
  a20 := Tryz.isAgg20
  z20 := Tryz.sizeOf20
  v20 := Tryz.zeroValue20
  t37 := Tryz.underlying35
  a37 := Tryz.isAgg35
  z37 := Tryz.sizeOf35
  v37 := Tryz.zeroValue35
  t46 := Tryz.underlying37
  a46 := Tryz.isAgg37
  z46 := Tryz.sizeOf37
  v46 := Tryz.zeroValue37
  t51 := Tryz.underlying78
  a51 := Tryz.isAgg78
  z51 := Tryz.sizeOf78
  v51 := Tryz.zeroValue78
  t53 := Tryz.underlying80
  a53 := Tryz.isAgg80
  z53 := Tryz.sizeOf80
  v53 := Tryz.zeroValue80
  t171 := Tryz.underlying174
  a171 := Tryz.isAgg174
  z171 := Tryz.sizeOf174
  v171 := Tryz.zeroValue174
  t173 := Tryz.underlying176
  a173 := Tryz.isAgg176
  z173 := Tryz.sizeOf176
  v173 := Tryz.zeroValue176
  t212 := Tryz.underlying187
  a212 := Tryz.isAgg187
  z212 := Tryz.sizeOf187
  v212 := Tryz.zeroValue187
  t213 := Tryz.underlying188
  a213 := Tryz.isAgg188
  z213 := Tryz.sizeOf188
  t232 := Tryz.underlying191
  a232 := Tryz.isAgg191
  z232 := Tryz.sizeOf191
  v232 := Tryz.zeroValue191
  t233 := Tryz.underlying192
  a233 := Tryz.isAgg192
  z233 := Tryz.sizeOf192
  v233 := Tryz.zeroValue192
  g17 := by kernel_rfl
  g18 := by kernel_rfl
  g19 := by kernel_rfl
  i0 := by kernel_rfl
  i2 := by kernel_rfl
  i3 := by kernel_rfl
  i4 := by kernel_rfl
  i5 := by kernel_rfl
  i9 := by kernel_rfl
  i20 := by kernel_rfl
  i37 := by kernel_rfl
  i46 := by kernel_rfl
  i51 := by kernel_rfl
  i53 := by kernel_rfl
  i171 := by kernel_rfl
  i173 := by kernel_rfl
  i212 := by kernel_rfl
  i232 := by kernel_rfl
  i233 := by kernel_rfl
  m17 := by kernel_rfl
  m18 := by kernel_rfl
  m19 := by kernel_rfl }
def Tryz.laysC172_ren : Go.Shelf.Ren := ⟨fun | 172 => 87 | 244 => 97 | 245 => 98 | 247 => 108 | 279 => 109 | 280 => 110 | 281 => 111 | 282 => 112 | 287 => 127 | 316 => 128 | 171 => 89 | 205 => 129 | 321 => 139 | 322 => 140 | 243 => 99 | 246 => 113 | 283 => 130 | 284 => 131 | 285 => 132 | 286 => 133 | 129 => 43 | 317 => 141 | 318 => 142 | 319 => 143 | 320 => 144 | 337 => 147 | 338 => 148 | n => n, fun | 9 => 9 | 3 => 3 | 75 => 132 | 76 => 133 | 4 => 4 | 5 => 5 | 167 => 148 | 37 => 35 | 0 => 0 | 85 => 149 | 2 => 2 | 168 => 151 | 53 => 80 | 175 => 168 | 46 => 37 | 210 => 172 | 127 => 105 | 145 => 185 | 143 => 183 | 21 => 21 | 171 => 174 | 173 => 176 | 212 => 187 | 51 => 78 | 20 => 20 | 213 => 188 | 232 => 191 | 233 => 192 | 80 => 96 | n => n, fun | 15 => 3 | 16 => 4 | 17 => 5 | 18 => 6 | 19 => 7 | n => n⟩
theorem Tryz.laysC172 : Go.Proofs.LaysC.n172 Tryz.prog Tryz.laysC172_ren := {
  mixed := by kernel_rfl
  f129 := Tryz.func43.trans (congrArg some (by kernel_rfl))
  f171 := Tryz.func89.trans (congrArg some (by kernel_rfl))
  f172 := Tryz.func87.trans (congrArg some (by kernel_rfl))
  f205 := Tryz.func129.trans (congrArg some (by kernel_rfl))
  f243 := Tryz.func99.trans (congrArg some (by kernel_rfl))
  f244 := Tryz.func97.trans (congrArg some (by kernel_rfl))
  f245 := Tryz.func98.trans (congrArg some (by kernel_rfl))
  f246 := Tryz.func113.trans (congrArg some (by kernel_rfl))
  f247 := Tryz.func108.trans (congrArg some (by kernel_rfl))
  f279 := Tryz.func109.trans (congrArg some (by kernel_rfl))
  f280 := Tryz.func110.trans (congrArg some (by kernel_rfl))
  f281 := Tryz.func111.trans (congrArg some (by kernel_rfl))
  f282 := Tryz.func112.trans (congrArg some (by kernel_rfl))
  f283 := Tryz.func130.trans (congrArg some (by kernel_rfl))
  f284 := Tryz.func131.trans (congrArg some (by kernel_rfl))
  f285 := Tryz.func132.trans (congrArg some (by kernel_rfl))
  f286 := Tryz.func133.trans (congrArg some (by kernel_rfl))
  f287 := Tryz.func127.trans (congrArg some (by kernel_rfl))
  f316 := Tryz.func128.trans (congrArg some (by kernel_rfl))
  f317 := Tryz.func141.trans (congrArg some (by kernel_rfl))
  f318 := Tryz.func142.trans (congrArg some (by kernel_rfl))
  f319 := Tryz.func143.trans (congrArg some (by kernel_rfl))
  f320 := Tryz.func144.trans (congrArg some (by kernel_rfl))
  f321 := Tryz.func139.trans (congrArg some (by kernel_rfl))
  f322 := Tryz.func140.trans (congrArg some (by kernel_rfl))
  f337 := Tryz.func147.trans (congrArg some (by kernel_rfl))
  f338 := Tryz.func148.trans (congrArg some (by kernel_rfl))
  t0 := Tryz.underlying0
  a0 := Tryz.isAgg0
  z0 := Tryz.sizeOf0
  v0 := Tryz.zeroValue0
  t2 := Tryz.underlying2
  a2 := Tryz.isAgg2
  z2 := Tryz.sizeOf2
  v2 := Tryz.zeroValue2
  t3 := Tryz.underlying3
  a3 := Tryz.isAgg3
  z3 := Tryz.sizeOf3
  v3 := Tryz.zeroValue3
  t4 := Tryz.underlying4
  a4 := Tryz.isAgg4
  z4 := Tryz.sizeOf4
  v4 := Tryz.zeroValue4
  t5 := Tryz.underlying5
  a5 := Tryz.isAgg5
  z5 := Tryz.sizeOf5
  v5 := Tryz.zeroValue5
  t9 := Tryz.underlying9
  a9 := Tryz.isAgg9
  z9 := Tryz.sizeOf9
  v9 := Tryz.zeroValue9
  t20 := Tryz.underlying20
  a20 := Tryz.isAgg20
  z20 := Tryz.sizeOf20
  v20 := Tryz.zeroValue20
  t21 := Tryz.underlying21
  a21 := Tryz.isAgg21
  z21 := Tryz.sizeOf21
  v21 := Tryz.zeroValue21
  t37 := Tryz.underlying35
  a37 := Tryz.isAgg35
  z37 := Tryz.sizeOf35
  v37 := Tryz.zeroValue35
  t46 := Tryz.underlying37
  a46 := Tryz.isAgg37
  z46 := Tryz.sizeOf37
  v46 := Tryz.zeroValue37
  t51 := Tryz.underlying78
  a51 := Tryz.isAgg78
  z51 := Tryz.sizeOf78
  v51 := Tryz.zeroValue78
  t53 := Tryz.underlying80
  a53 := Tryz.isAgg80
  z53 := Tryz.sizeOf80
  v53 := Tryz.zeroValue80
  t75 := Tryz.underlying132
  a75 := Tryz.isAgg132
  z75 := Tryz.sizeOf132
  v75 := Tryz.zeroValue132
  t76 := Tryz.underlying133
  a76 := Tryz.isAgg133
  z76 := Tryz.sizeOf133
  v76 := Tryz.zeroValue133
  t85 := Tryz.underlying149
  a85 := Tryz.isAgg149
  z85 := Tryz.sizeOf149
  v85 := Tryz.zeroValue149
  t127 := Tryz.underlying105
  a127 := Tryz.isAgg105
  z127 := Tryz.sizeOf105
  v127 := Tryz.zeroValue105
  t143 := Tryz.underlying183
  a143 := Tryz.isAgg183
  z143 := Tryz.sizeOf183
  v143 := Tryz.zeroValue183
  t145 := Tryz.underlying185
  a145 := Tryz.isAgg185
  z145 := Tryz.sizeOf185
  v145 := Tryz.zeroValue185
  t167 := Tryz.underlying148
  a167 := Tryz.isAgg148
  z167 := Tryz.sizeOf148
  v167 := Tryz.zeroValue148
  t168 := Tryz.underlying151
  a168 := Tryz.isAgg151
  z168 := Tryz.sizeOf151
  v168 := Tryz.zeroValue151
  t171 := Tryz.underlying174
  a171 := Tryz.isAgg174
  z171 := Tryz.sizeOf174
  v171 := Tryz.zeroValue174
  t173 := Tryz.underlying176
  a173 := Tryz.isAgg176
  z173 := Tryz.sizeOf176
  v173 := Tryz.zeroValue176
  t175 := Tryz.underlying168
  a175 := Tryz.isAgg168
  z175 := Tryz.sizeOf168
  v175 := Tryz.zeroValue168
  t210 := Tryz.underlying172
  a210 := Tryz.isAgg172
  z210 := Tryz.sizeOf172
  v210 := Tryz.zeroValue172
  t212 := Tryz.underlying187
  a212 := Tryz.isAgg187
  z212 := Tryz.sizeOf187
  v212 := Tryz.zeroValue187
  t213 := Tryz.underlying188
  a213 := Tryz.isAgg188
  z213 := Tryz.sizeOf188
  t232 := Tryz.underlying191
  a232 := Tryz.isAgg191
  z232 := Tryz.sizeOf191
  v232 := Tryz.zeroValue191
  t233 := Tryz.underlying192
  a233 := Tryz.isAgg192
  z233 := Tryz.sizeOf192
  v233 := Tryz.zeroValue192
  g15 := by kernel_rfl
  g16 := by kernel_rfl
  g17 := by kernel_rfl
  g18 := by kernel_rfl
  g19 := by kernel_rfl
  t80 := Tryz.underlying96
  a80 := Tryz.isAgg96
  z80 := Tryz.sizeOf96
  v80 := Tryz.zeroValue96
  i0 := by kernel_rfl
  i2 := by kernel_rfl
  i3 := by kernel_rfl
  i4 := by kernel_rfl
  i5 := by kernel_rfl
  i9 := by kernel_rfl
  i20 := by kernel_rfl
  i21 := by kernel_rfl
  i37 := by kernel_rfl
  i46 := by kernel_rfl
  i51 := by kernel_rfl
  i53 := by kernel_rfl
  i75 := by kernel_rfl
  i76 := by kernel_rfl
  i80 := by kernel_rfl
  i85 := by kernel_rfl
  i127 := by kernel_rfl
  i143 := by kernel_rfl
  i145 := by kernel_rfl
  i167 := by kernel_rfl
  i168 := by kernel_rfl
  i171 := by kernel_rfl
  i173 := by kernel_rfl
  i175 := by kernel_rfl
  i210 := by kernel_rfl
  i212 := by kernel_rfl
  i232 := by kernel_rfl
  i233 := by kernel_rfl
  m15 := by kernel_rfl
  m16 := by kernel_rfl
  m17 := by kernel_rfl
  m18 := by kernel_rfl
  m19 := by kernel_rfl
  c0 := by kernel_rfl
  c2 := by kernel_rfl
  c3 := by kernel_rfl
  c4 := by kernel_rfl
  c5 := by kernel_rfl
  c9 := by kernel_rfl
  c20 := by kernel_rfl
  c21 := by kernel_rfl
  c37 := by kernel_rfl
  c46 := by kernel_rfl
  c51 := by kernel_rfl
  c53 := by kernel_rfl
  c75 := by kernel_rfl
  c76 := by kernel_rfl
  c80 := by kernel_rfl
  c85 := by kernel_rfl
  c127 := by kernel_rfl
  c143 := by kernel_rfl
  c145 := by kernel_rfl
  c167 := by kernel_rfl
  c168 := by kernel_rfl
  c171 := by kernel_rfl
  c173 := by kernel_rfl
  c175 := by kernel_rfl
  c210 := by kernel_rfl
  c212 := by kernel_rfl
  c213 := by kernel_rfl
  c232 := by kernel_rfl
  c233 := by kernel_rfl }
open Go.RowKit in
theorem Tryz.strconv_Atoi_ok (s : ByteArray) (hmax : s.size ≤ 9223372036854775806) (v : Int) (h : Lib.atoiAll s.data.toList = .ok v) (w : World) :
    Calls Tryz.prog 87 #[.string s] w fun e w' => e = .returned (.tuple #[.int .i64 v, .nilIface]) ∧ (w' = w ∨ ∃ t, w' = Lib.bytesWorld w 5 t) := Any.strconv_Atoi_ok Tryz.laysC172 s hmax v h w
def Tryz.lays143_ren : Go.Shelf.Ren := ⟨fun | 143 => 96 | 219 => 107 | 217 => 123 | 225 => 124 | 224 => 125 | 267 => 126 | 266 => 137 | 314 => 138 | n => n, fun | 9 => 9 | 3 => 3 | 4 => 4 | 5 => 5 | 46 => 37 | 146 => 180 | 51 => 78 | n => n, fun | 1 => 2 | n => n⟩
theorem Tryz.lays143 : Go.Proofs.Lays.n143 Tryz.prog Tryz.lays143_ren := {
  mixed := by kernel_rfl
  f143 := Tryz.func96.trans (congrArg some (by kernel_rfl))
  f217 := Tryz.func123.trans (congrArg some (by kernel_rfl))
  f219 := Tryz.func107.trans (congrArg some (by kernel_rfl))
  f224 := Tryz.func125.trans (congrArg some (by kernel_rfl))
  f225 := Tryz.func124.trans (congrArg some (by kernel_rfl))
  f266 := Tryz.func137.trans (congrArg some (by kernel_rfl))
  f267 := Tryz.func126.trans (congrArg some (by kernel_rfl))
  f314 := Tryz.func138.trans (congrArg some (by kernel_rfl))
  t3 := Tryz.underlying3
  a3 := Tryz.isAgg3
  z3 := Tryz.sizeOf3
  v3 := Tryz.zeroValue3
  t4 := Tryz.underlying4
  a4 := Tryz.isAgg4
  z4 := Tryz.sizeOf4
  v4 := Tryz.zeroValue4
  t5 := Tryz.underlying5
  a5 := Tryz.isAgg5
  z5 := Tryz.sizeOf5
  v5 := Tryz.zeroValue5
  t9 := Tryz.underlying9
  a9 := Tryz.isAgg9
  z9 := Tryz.sizeOf9
  v9 := Tryz.zeroValue9
  t46 := Tryz.underlying37
  a46 := Tryz.isAgg37
  z46 := Tryz.sizeOf37
  v46 := Tryz.zeroValue37
  t51 := Tryz.underlying78
  a51 := Tryz.isAgg78
  z51 := Tryz.sizeOf78
  v51 := Tryz.zeroValue78
  t146 := Tryz.underlying180
  a146 := Tryz.isAgg180
  z146 := Tryz.sizeOf180
  v146 := Tryz.zeroValue180
  g1 := by kernel_rfl }
open Go.RowKit Go.Lib in
theorem Tryz.strings_Index_one (s : ByteArray) (c : UInt8) (w : World) :
    Calls Tryz.prog 96 #[.string s, .string ⟨#[c]⟩] w fun e w' => e = .returned (.int .i64 (Lib.indexByte s.data.toList c)) ∧ w' = w := Any.strings_Index_one Tryz.lays143 s c w

def Tryz.lays219_ren : Go.Shelf.Ren := ⟨fun | 219 => 107 | 217 => 123 | 225 => 124 | 224 => 125 | 267 => 126 | 266 => 137 | 314 => 138 | n => n, fun | 9 => 9 | 3 => 3 | 4 => 4 | 5 => 5 | 46 => 37 | 146 => 180 | 51 => 78 | n => n, fun | 1 => 2 | n => n⟩
theorem Tryz.lays219 : Go.Proofs.Lays.n219 Tryz.prog Tryz.lays219_ren := {
  mixed := by kernel_rfl
  f217 := Tryz.func123.trans (congrArg some (by kernel_rfl))
  f219 := Tryz.func107.trans (congrArg some (by kernel_rfl))
  f224 := Tryz.func125.trans (congrArg some (by kernel_rfl))
  f225 := Tryz.func124.trans (congrArg some (by kernel_rfl))
  f266 := Tryz.func137.trans (congrArg some (by kernel_rfl))
  f267 := Tryz.func126.trans (congrArg some (by kernel_rfl))
  f314 := Tryz.func138.trans (congrArg some (by kernel_rfl))
  t3 := Tryz.underlying3
  a3 := Tryz.isAgg3
  z3 := Tryz.sizeOf3
  v3 := Tryz.zeroValue3
  t4 := Tryz.underlying4
  a4 := Tryz.isAgg4
  z4 := Tryz.sizeOf4
  v4 := Tryz.zeroValue4
  t5 := Tryz.underlying5
  a5 := Tryz.isAgg5
  z5 := Tryz.sizeOf5
  v5 := Tryz.zeroValue5
  t9 := Tryz.underlying9
  a9 := Tryz.isAgg9
  z9 := Tryz.sizeOf9
  v9 := Tryz.zeroValue9
  t46 := Tryz.underlying37
  a46 := Tryz.isAgg37
  z46 := Tryz.sizeOf37
  v46 := Tryz.zeroValue37
  t51 := Tryz.underlying78
  a51 := Tryz.isAgg78
  z51 := Tryz.sizeOf78
  v51 := Tryz.zeroValue78
  t146 := Tryz.underlying180
  a146 := Tryz.isAgg180
  z146 := Tryz.sizeOf180
  v146 := Tryz.zeroValue180
  g1 := by kernel_rfl }
open Go.RowKit Go.Lib in
theorem Tryz.stringslite_Index_one (s : ByteArray) (c : UInt8) (w : World) :
    Calls Tryz.prog 107 #[.string s, .string ⟨#[c]⟩] w fun e w' => e = .returned (.int .i64 (Lib.indexByte s.data.toList c)) ∧ w' = w := Any.stringslite_Index_one Tryz.lays219 s c w

end Go.Proofs

open Go.RowKit Go.Shelf
namespace Go.Proofs.YtbciamploeejiaaGreat
open Go Go.Proofs Fm

/-- A variable that holds an error, or none. -/
def ErrAt (w : World) (g : Nat) : Prop := ∃ ev, w.cell? ⟨g, 0, none⟩ = some ev ∧ (ev = .nilIface ∨ ∃ te pe, ev = .iface te pe)
theorem cell_lt {w : World} {a : Addr} {v : Value} (h : w.cell? a = some v) : a.block < w.heap.size := by
  obtain ⟨o, ho, _⟩ := cells_of_cell h
  exact (Array.getElem?_eq_some_iff.1 ho).1
theorem ErrAt.ext {w w' : World} {g : Nat} (h : ErrAt w g) (hE : Ext w w') : ErrAt w' g := by
  obtain ⟨ev, h1, h2⟩ := h
  exact ⟨ev, (hE.cell (p := ⟨g, 0, none⟩) (cell_lt h1)).trans h1, h2⟩
/-- What package ident reads of the world that is not its own. -/
structure KW (w : World) : Prop where
  triv : True
theorem KW.ext {w w' : World} (_ : KW w) (_ : Ext w w') : KW w' := ⟨trivial⟩
theorem itoaS_any (i : Nat) (hi : i < 100) (w : World) :
    Calls Tryz.prog 89 #[.int .i64 (i : Int)] w fun e w' => e = .returned (.string (str (Lib.itoa (i : Int)))) ∧ Ext w w' :=
  (Any.strconv_Itoa_small (ρ := Tryz.laysM171_ren) { Tryz.laysM171 with } i hi w).mono fun e w' ⟨h1, h2⟩ => ⟨by rw [h1, show Lib.itoa (i : Int) = Lib.decDigits i by unfold Lib.itoa; rw [if_neg (by omega)]; simp]; rfl, by rw [h2]; exact Ext.refl w⟩
theorem ext_bytesW (w : World) (e : TypeId) (s : ByteArray) : Ext w (Lib.bytesWorld w e s) :=
  ⟨rfl, rfl, rfl, by rw [Lib.bytesWorld_size]; omega, fun j hj => Lib.bytesWorld_at_old w _ _ j hj⟩
/-- What number hands back. -/
def numV (s : List UInt8) : Int := (numI s).getD (-1)
theorem numV_none {s : List UInt8} (h : numI s = none) : numV s = -1 := by unfold numV; rw [h]; rfl
theorem numV_some {s : List UInt8} {n : Int} (h : numI s = some n) : numV s = n := by unfold numV; rw [h]; rfl
theorem numV_eq {s : List UInt8} : numV s = -1 ↔ numI s = none := by
  constructor
  · intro h
    cases e : numI s with
    | none => rfl
    | some n => rw [numV_some e] at h; have := (numI_iff.1 e).1; omega
  · exact numV_none
theorem numV_isI64 (s : List UInt8) : isI64 (numV s) := by
  cases e : numI s with
  | none => rw [numV_none e]; unfold isI64; omega
  | some n => rw [numV_some e]; have := (numI_iff.1 e).1; unfold isI64; omega
set_option maxHeartbeats 1000000 in
theorem idNumber_any (s : List UInt8) (hs : s.length ≤ 1000000) (hok : NumOk s) (w : World) :
    Calls Tryz.prog 83 #[.string (str s)] w fun e w' => e = .returned (.int .i64 (numV s)) ∧ Ext w w' := by
  have hsz := str_size s
  have hl := str_list s
  obtain ⟨v, hv, ha⟩ := hok
  have hm : mayB (v : Int) = true := mayB_iff.2 ⟨by omega, by omega⟩
  have HX := Lib.hid (show numI s = if Lib.itoa (v : Int) = s then some (v : Int) else none by unfold numI; rw [ha]; simp [hm])
  have HC := Lib.hid (Tryz.strconv_Atoi_ok (str s) (by rw [hsz]; omega) v (by rw [hl]; exact ha) w)
  clear ha hl
  go_enter Tryz.func83, Tryz.ntmps83
  go_wp2_with fail
  refine HC.out.mono ?_
  rintro e w1 ⟨rfl, hb⟩
  have hE : Ext w w1 := by
    rcases hb with rfl | ⟨t, rfl⟩
    · exact Ext.refl _
    · exact ext_bytesW _ _ _
  have HE := Lib.hid hE
  clear hb HC hE
  go_wp2_with fail
  refine (idMay_any (v : Int) w1).mono ?_
  rintro e w2 ⟨rfl, rfl⟩
  rw [hm]
  clear hm
  go_wp2_with fail
  refine (itoaS_any v hv w1).mono ?_
  rintro e w3 ⟨rfl, hE3⟩
  have HE3 := Lib.hid (HE.out.trans hE3)
  clear hE3
  have es : ((str (Lib.itoa (v : Int))).toList == (str s).toList) = decide (Lib.itoa (v : Int) = s) := str_beq _ _
  by_cases hc : Lib.itoa (v : Int) = s
  · have HY := Lib.hid (show numV s = (v : Int) from numV_some (by rw [HX.out, if_pos hc]))
    have f0 : ((str (Lib.itoa (v : Int))).toList == (str s).toList) = true := by rw [es]; simpa using hc
    clear es hc
    go_wp2
    go_ret
    exact ⟨by rw [HY.out]; rfl, HE3.out⟩
  · have HY := Lib.hid (show numV s = -1 from numV_none (by rw [HX.out, if_neg hc]))
    have f0 : ((str (Lib.itoa (v : Int))).toList == (str s).toList) = false := by rw [es]; simpa using hc
    clear es hc
    go_wp2
    go_ret
    exact ⟨by rw [HY.out]; rfl, HE3.out⟩
theorem extract_strI (s : List UInt8) (a b : Nat) : (str s).extract a b = str ((s.take b).drop a) := by
  unfold str
  rw [ByteArray.extract_mk]
  congr 1
  apply Array.toList_inj.1
  simp [List.drop_take]
/-- The index of a byte. -/
theorem idxByte_at (a r : List UInt8) (c : UInt8) (h : ∀ d, d ∈ a → d ≠ c) : Lib.indexByte (a ++ c :: r) c = (a.length : Int) := by rw [← Lib.index_one]; exact Fm.index_one a r c h
theorem idxByte_no (a : List UInt8) (c : UInt8) (h : ∀ d, d ∈ a → d ≠ c) : Lib.indexByte a c = -1 := by rw [← Lib.index_one]; exact index_none a c h
set_option maxHeartbeats 1000000 in
theorem slCut_at (a r : List UInt8) (c : UInt8) (h : ∀ d, d ∈ a → d ≠ c) (hl : (a ++ c :: r).length ≤ 1000000) (w : World) :
    Calls Tryz.prog 100 #[.string (str (a ++ c :: r)), .string (str [c])] w fun e w' => e = .returned (.tuple #[.string (str a), .string (str r), .bool true]) ∧ Ext w w' := by
  have hI := Lib.hid (Tryz.stringslite_Index_one (str (a ++ c :: r)) c w)
  have hsz := str_size (a ++ c :: r)
  have hsc : (str [c]).size = 1 := str_size [c]
  have hi := idxByte_at a r c h
  rw [str_list] at hI
  rw [hi] at hI
  have e1 : (str (a ++ c :: r)).extract 0 a.length = str a := by rw [extract_strI, List.drop_zero, List.take_left' rfl]
  have e2 : (str (a ++ c :: r)).extract (a.length + 1) (str (a ++ c :: r)).size = str r := by rw [hsz, extract_strI, List.take_length, show a ++ c :: r = (a ++ [c]) ++ r by simp]; exact congrArg str (List.drop_left' (by simp))
  have hal : a.length + 1 ≤ (a ++ c :: r).length := by simp
  have E1 := Lib.hid e1
  have E2 := Lib.hid e2
  clear hi h e1 e2
  rw [hsz] at E2
  generalize (a ++ c :: r).length = N at *
  generalize str (a ++ c :: r) = S at *
  go_enter Tryz.func100, Tryz.ntmps100
  go_wp2_with fail
  refine hI.out.mono ?_
  rintro e w1 ⟨rfl, rfl⟩
  have hw : IntKind.i64.wrap ((a.length : Int) + 1) = (a.length : Int) + 1 := IntWalk.i64_in _ (by omega)
  have h0 : (0 : Int) ≤ (a.length : Int) + 1 := by omega
  have ht : ((a.length : Int) + 1).toNat = a.length + 1 := by omega
  go_wp2_with fail
  go_quiet (fail)
  go_wp2
  go_ret3
  exact ⟨by rw [← E1.out, ← E2.out]; rfl, (Ext.refl _).drewN nq⟩
set_option maxHeartbeats 1000000 in
theorem slCut_no (a : List UInt8) (c : UInt8) (h : ∀ d, d ∈ a → d ≠ c) (w : World) :
    Calls Tryz.prog 100 #[.string (str a), .string (str [c])] w fun e w' => e = .returned (.tuple #[.string (str a), .string (str []), .bool false]) ∧ Ext w w' := by
  have hI := Lib.hid (Tryz.stringslite_Index_one (str a) c w)
  have hi := idxByte_no a c h
  rw [str_list] at hI
  rw [hi] at hI
  clear hi h
  go_enter Tryz.func100, Tryz.ntmps100
  go_wp2_with fail
  refine hI.out.mono ?_
  rintro e w1 ⟨rfl, rfl⟩
  go_wp2
  go_ret3
  exact ⟨rfl, Ext.refl _⟩
/-- strings.Cut at one byte. -/
def CutPost (s : List UInt8) (c : UInt8) (w : World) (e : Ending) (w' : World) : Prop := e = .returned (.tuple #[.string (str (Lib.cut s [c]).1), .string (str (Lib.cut s [c]).2.1), .bool (Lib.cut s [c]).2.2]) ∧ Ext w w'
theorem slCut_any (s : List UInt8) (c : UInt8) (hs : s.length ≤ 1000000) (w : World) :
    Calls Tryz.prog 100 #[.string (str s), .string (str [c])] w (CutPost s c w) := by
  by_cases h : c ∈ s
  · obtain ⟨a, r, rfl, hk⟩ := first_of c s h
    refine (slCut_at a r c hk hs w).mono ?_
    rintro e w' ⟨h1, h2⟩
    unfold CutPost
    rw [cut_at a r c hk]
    exact ⟨h1, h2⟩
  · refine (slCut_no s c (fun d hd e => h (e ▸ hd)) w).mono ?_
    rintro e w' ⟨h1, h2⟩
    unfold CutPost
    rw [cut_no s c (fun d hd e => h (e ▸ hd))]
    exact ⟨h1, h2⟩
set_option maxHeartbeats 1000000 in
theorem cut_any (s : List UInt8) (c : UInt8) (hs : s.length ≤ 1000000) (w : World) :
    Calls Tryz.prog 90 #[.string (str s), .string (str [c])] w (CutPost s c w) := by
  have HC := Lib.hid (slCut_any s c hs w)
  go_enter Tryz.func90, Tryz.ntmps90
  go_wp2_with fail
  refine HC.out.mono ?_
  rintro e w1 ⟨rfl, hE⟩
  have HE := Lib.hid hE
  clear hE
  go_wp2
  go_ret3
  exact ⟨rfl, HE.out⟩
end Go.Proofs.YtbciamploeejiaaGreat

open Go.RowKit Go.Shelf
namespace Go.Proofs.YtbciamploeejiaaGreat
open Go Go.Proofs Fm
attribute [local go_sem] Oper.semAt_some

/-- Blocks that lie as they lay. -/
def KeepsB (bs : List Nat) (X Y : World) : Prop := ∀ b, b ∈ bs → ∀ o, X.heap[b]? = some o → Y.heap[b]? = some o
theorem KeepsB.trans {bs : List Nat} {X Y Z : World} (h : KeepsB bs X Y) (k : KeepsB bs Y Z) : KeepsB bs X Z := fun b hb o ho => k b hb o (h b hb o ho)
/-- What may come next. -/
def NextP (s : List UInt8) (pre : List (List UInt8)) (x : List UInt8) : Prop := ∃ post, split47 s = pre ++ x :: post

theorem splitSeq_any (s : List UInt8) (w : World) :
    Calls Tryz.prog 82 #[.string (str s), .string (str [47])] w fun e w' => e = .returned (.func (.func 94) #[] #[.pointer (some ⟨w.heap.size + 1, 0, none⟩), .pointer (some ⟨w.heap.size, 0, none⟩), .pointer (some ⟨w.heap.size + 2, 0, none⟩)]) ∧
      ((w.alloc (.cells #[.string (str s)] 9)).alloc (.cells #[.string (str [47])] 9)).alloc (.cells #[.int .i64 0] 3) = w' := by
  have HC : ∀ w : World, Hid (Calls Tryz.prog 86 #[.string (str s), .string (str [47]), .int .i64 0] w fun e w' => e = .returned (.func (.func 94) #[] #[.pointer (some ⟨w.heap.size + 1, 0, none⟩), .pointer (some ⟨w.heap.size, 0, none⟩), .pointer (some ⟨w.heap.size + 2, 0, none⟩)]) ∧
      ((w.alloc (.cells #[.string (str s)] 9)).alloc (.cells #[.string (str [47])] 9)).alloc (.cells #[.int .i64 0] 3) = w') := fun w => Lib.hid (by
    go_enter Tryz.func86, Tryz.ntmps86
    go_wp2
    go_ret
    exact ⟨rfl, rfl⟩)
  go_enter Tryz.func82, Tryz.ntmps82
  go_wp2_with fail
  refine (HC _).out.mono ?_
  rintro e w1 ⟨rfl, rfl⟩
  go_wp2
  go_ret
  exact ⟨rfl, rfl⟩
set_option maxHeartbeats 1000000 in
theorem splitSeq1_in (n l bS bP bV : Nat) (s0 : List UInt8) (hl : s0.length ≤ 1000000) (hne : bS ≠ bP ∧ bS ≠ bV) (J Jx : List (List UInt8) → World → Prop)
    (aJ : ∀ p X u, J p X → J p (X.setCell ⟨bS, 0, none⟩ u))
    (hY : ∀ pre x X, J pre X → NextP s0 pre x → YieldAt Fence.wide (n - 1) Tryz.prog l #[.string (str x)] X fun e Y =>
      (e = .returned (.bool true) ∧ J (pre ++ [x]) Y ∧ KeepsB [bS, bP, bV] X Y) ∨ (e = .returned (.bool false) ∧ Jx (pre ++ [x]) Y))
    (W : World) (hS : Boxed W bS 9 (.string (str s0))) (hP : Boxed W bP 9 (.string (str [47]))) (hV : Boxed W bV 3 (.int .i64 0)) (h0 : J [] W) :
    CallsIn Fence.wide n Tryz.prog 94 #[.func (.yield l) #[] #[], .pointer (some ⟨bP, 0, none⟩), .pointer (some ⟨bS, 0, none⟩), .pointer (some ⟨bV, 0, none⟩)] W fun e W' =>
      (∃ v, e = .returned v) ∧ (J (split47 s0) W' ∨ ∃ pre, Jx pre W') := by
  have hfn : ∀ f, Fence.wide.fn f := fun _ => trivial
  have hdp : Fence.wide.depth.isSome = false := rfl
  have hI : ∀ (r : List UInt8) (w : World), Calls Tryz.prog 96 #[.string (str r), .string (str [47])] w fun e w' => e = .returned (.int .i64 (Lib.indexByte r 47)) ∧ w = w' := fun r w =>
    (Tryz.strings_Index_one (str r) 47 w).mono fun e w' ⟨h1, h2⟩ => ⟨by rw [h1, str_list], h2.symm⟩
  refine callsIn_of_wp Tryz.func94 rfl trivial ?_ rfl
  simp only [Tryz.ntmps94, List.size_toArray, List.length_cons, List.length_nil, Nat.reduceAdd, Nat.reduceSub, Array.replicate_succ, Array.replicate_zero, List.push_toArray, List.append_toArray, List.nil_append, List.cons_append]
  have c1 := hP.cell
  have hI := Lib.hid hI
  have HY := Lib.hid hY
  have HJ := Lib.hid aJ
  clear hY aJ
  have hs1 : (str [47]).size = 1 := rfl
  gi_wp2
  gi_loopw [7] (fun _ wr => ∃ (pre : List (List UInt8)) (r : List UInt8), Hid (split47 s0 = pre ++ split47 r) ∧ Hid (r.length ≤ s0.length) ∧ Hid (Boxed wr bS 9 (.string (str r)) ∧ Boxed wr bP 9 (.string (str [47])) ∧ Boxed wr bV 3 (.int .i64 0)) ∧ Hid (J pre wr))
    (fun _ w => match w.cell? ⟨bS, 0, none⟩ with | some (.string b) => b.size | _ => 0)
  case atStart => exact ⟨[], s0, Lib.hid rfl, Lib.hid (Nat.le_refl _), Lib.hid ⟨hS, hP, hV⟩, Lib.hid h0⟩
  case round =>
    obtain ⟨pre, r, HR, HL, HB, HJr⟩ := hrel
    have hrl : r.length ≤ 1000000 := Nat.le_trans HL.out hl
    have c0 := HB.out.1.cell
    have c1 := HB.out.2.1.cell
    have c2 := HB.out.2.2.cell
    have f0 := HB.out.1.frozen
    clear hS hP hV h0
    have hIr := hI.out r wr
    by_cases hm : (47 : UInt8) ∈ r
    · obtain ⟨a, r', rfl, hk⟩ := first_of 47 r hm
      rw [idxByte_at a r' 47 hk] at hIr
      have hIr := Lib.hid hIr
      have hal : a.length + 1 ≤ (a ++ 47 :: r').length := by simp
      have e1 : (str (a ++ 47 :: r')).extract 0 a.length = str a := by rw [extract_strI]; simp
      have e2 : (str (a ++ 47 :: r')).extract (a.length + 1) (a ++ 47 :: r').length = str r' := by rw [extract_strI, List.take_length, show a ++ 47 :: r' = (a ++ [47]) ++ r' by simp]; exact congrArg str (List.drop_left' (by simp))
      have hsz := str_size (a ++ 47 :: r')
      have hsp : split47 (a ++ 47 :: r') = a :: split47 r' := split47_at a r' (fun c hc => hk c hc)
      have HR := Lib.hid (show split47 s0 = pre ++ a :: split47 r' by rw [HR.out, hsp])
      have HLr := Lib.hid (show r'.length ≤ s0.length by have := HL.out; simp at this; omega)
      have hlt : r'.length < (a ++ 47 :: r').length := by simp; omega
      clear hsp hk hm
      generalize (a ++ 47 :: r').length = N at *
      generalize str (a ++ 47 :: r') = S at *
      obtain ⟨fn, tmps, assign, body, hy, hR⟩ := HY.out pre a wr HJr.out ⟨_, HR.out⟩
      clear HJr
      gi_wp2_with (gi_at_call 96; refine (callsIn_wide.2 hIr.out).mono ?_; rintro e w' ⟨rfl, rfl⟩)
      refine hR.mono ?_
      rintro e W3 (⟨rfl, hJ3, hk3⟩ | ⟨rfl, hJx3⟩)
      · have HB3 : Hid (Boxed W3 bS 9 (.string S) ∧ Boxed W3 bP 9 (.string (str [47])) ∧ Boxed W3 bV 3 (.int .i64 0)) := Lib.hid ⟨hk3 _ (by simp) _ HB.out.1, hk3 _ (by simp) _ HB.out.2.1, hk3 _ (by simp) _ HB.out.2.2⟩
        have d0 := HB3.out.1.cell
        have d1 := HB3.out.2.1.cell
        have g0 := HB3.out.1.frozen
        have HJ3 := Lib.hid (HJ.out _ _ (.string (str r')) hJ3)
        have HB4 : Hid (Boxed (W3.setCell ⟨bS, 0, none⟩ (.string (str r'))) bS 9 (.string (str r')) ∧ Boxed (W3.setCell ⟨bS, 0, none⟩ (.string (str r'))) bP 9 (.string (str [47])) ∧ Boxed (W3.setCell ⟨bS, 0, none⟩ (.string (str r'))) bV 3 (.int .i64 0)) :=
          Lib.hid ⟨HB3.out.1.set _, HB3.out.2.1.other (fun e => hne.1 e.symm) _, HB3.out.2.2.other (fun e => hne.2 e.symm) _⟩
        have c0' := c0
        clear hJ3 hk3 HB3 c0 c1 c2 f0
        gi_wp2
        go_roundw
        case rel => exact ⟨pre ++ [a], r', Lib.hid (by rw [HR.out]; simp), HLr, HB4, HJ3⟩
        case measure =>
          have m1 := HB4.out.1.cell
          simp only [m1, c0']
          rw [str_size, hsz]; exact hlt
      · gi_wp2
        refine bodyPost_ret (results_none rfl _ _ _) rfl ?_
        exact ⟨⟨_, rfl⟩, .inr ⟨_, hJx3⟩⟩
    · have hIr' := hIr
      rw [idxByte_no r 47 (fun d hd e => hm (e ▸ hd))] at hIr'
      have hIr := Lib.hid hIr'
      have hsp := split47_no r (fun d hd e => hm (e ▸ hd))
      have HR := Lib.hid (show split47 s0 = pre ++ [r] by rw [HR.out, hsp])
      obtain ⟨fn, tmps, assign, body, hy, hR⟩ := HY.out pre r wr HJr.out ⟨[], HR.out⟩
      clear HJr hsp hIr' hm
      gi_wp2_with (gi_at_call 96; refine (callsIn_wide.2 hIr.out).mono ?_; rintro e w' ⟨rfl, rfl⟩)
      refine hR.mono ?_
      rintro e W3 (⟨rfl, hJ3, hk3⟩ | ⟨rfl, hJx3⟩)
      · have HJ3 := Lib.hid hJ3
        clear hJ3
        gi_wp2
        go_end0
        exact ⟨⟨_, rfl⟩, .inl (by rw [HR.out]; exact HJ3.out)⟩
      · gi_wp2
        go_end0
        exact ⟨⟨_, rfl⟩, .inr ⟨_, hJx3⟩⟩
/-- The iterator's contract. -/
theorem splitSeq1_stops (n bS bP bV : Nat) (s : List UInt8) (hl : s.length ≤ 1000000) (hne : bS ≠ bP ∧ bS ≠ bV) (w : World) (hS : Boxed w bS 9 (.string (str s))) (hP : Boxed w bP 9 (.string (str [47]))) (hV : Boxed w bV 3 (.int .i64 0)) :
    SeqAb Fence.wide n Tryz.prog 94 #[.pointer (some ⟨bP, 0, none⟩), .pointer (some ⟨bS, 0, none⟩), .pointer (some ⟨bV, 0, none⟩)] (fun x => #[.string (str x)]) (fun X Y => ∃ u, Y = X.setCell ⟨bS, 0, none⟩ u) (KeepsB [bS, bP, bV])
      (fun xs => xs = split47 s) (fun _ => True) (NextP s) w := by
  intro l J Jx W hW aJ aJx hY h0
  have hk : ∀ {b t v}, Boxed w b t v → Boxed W b t v := fun h => (hW.block _ h.lt).trans h
  refine (splitSeq1_in n l bS bP bV s hl hne J Jx (fun p X u h => aJ p X _ h ⟨u, rfl⟩) hY W (hk hS) (hk hP) (hk hV) h0).mono ?_
  rintro e W' ⟨hv, h | ⟨pre, h⟩⟩
  · exact ⟨hv, .inl ⟨_, rfl, h⟩⟩
  · exact ⟨hv, .inr ⟨pre, trivial, h⟩⟩
end Go.Proofs.YtbciamploeejiaaGreat

open Go.RowKit Go.Shelf
namespace Go.Proofs.YtbciamploeejiaaGreat
open Go Go.Proofs Fm

/-- A box of two cells, both written. -/
def set2W (w : World) (b : Nat) (x y : Value) : World := (w.setCell ⟨b, 0, none⟩ x).setCell ⟨b, 1, none⟩ y
theorem set2_facts {w0 w : World} {b : Nat} {c0 c1 x y : Value} (hE : Ext w0 w) (hb : BoxL w b [c0, c1]) (hw : w0.heap.size ≤ b) : Ext w0 (set2W w b x y) ∧ BoxL (set2W w b x y) b [x, y] := by
  refine ⟨(hE.setCell (p := ⟨b, 0, none⟩) hw _).setCell (p := ⟨b, 1, none⟩) hw _, ?_⟩
  have h1 := hb.set 0 (by simp) x
  have h2 := h1.set 1 (by simp) y
  exact h2
theorem set2_far {w : World} {b b' : Nat} {vs : List Value} (h : BoxL w b' vs) (hne : b' ≠ b) (x y : Value) : BoxL (set2W w b x y) b' vs :=
  (h.kept (grown_set _ b 0 _) (fun e => hne (by cases e; rfl))).kept (grown_set _ b 1 _) (fun e => hne (by cases e; rfl))
/-- What step hands back. -/
def StepPost (s : List UInt8) (w : World) (e : Ending) (w' : World) : Prop :=
  ∃ x : Stp, stpWf x ∧ e = .returned (.tuple #[.agg #[.string (str x.name), .int .i64 x.place], .bool (stepP s).isSome]) ∧ (stepP s = none ∨ stepP s = some x) ∧ Ext w w'
theorem stepEnd {s nm : List UInt8} {pl : Int} {w w' : World} (h : stepP s = if nameB nm = true then some ⟨nm, pl⟩ else none) (hn : nm.length ≤ 9223372036854775807) (hp : isI64 pl) (hE : Ext w w') :
    StepPost s w (.returned (.tuple #[.agg #[.string (str nm), .int .i64 pl], .bool (nameB nm)])) w' := by
  refine ⟨⟨nm, pl⟩, ⟨hn, hp⟩, ?_, ?_, hE⟩
  · rw [h]; cases nameB nm <;> rfl
  · rw [h]; cases nameB nm
    · exact .inl rfl
    · exact .inr rfl
set_option maxHeartbeats 2000000 in
theorem idStep_any (s : List UInt8) (hok : StpOk s) (w : World) :
    Calls Tryz.prog 84 #[.string (str s)] w (StepPost s w) := by
  have hs := hok.1
  have HX := Lib.hid (show stepP s = if (Lib.cut s [91]).2.2 = true then
    if Lib.hasSuffix (Lib.cut s [91]).2.1 [93] = true then (numI (Lib.trimSuffix (Lib.cut s [91]).2.1 [93])).bind fun n => if nameB (Lib.cut s [91]).1 = true then some ⟨(Lib.cut s [91]).1, n⟩ else none else none
  else if nameB (Lib.cut s [91]).1 = true then some ⟨(Lib.cut s [91]).1, -1⟩ else none from rfl)
  have HC := fun w => Lib.hid (cut_any s 91 hs w)
  have hlc : (Lib.cut s [91]).1.length ≤ 1000000 ∧ (Lib.cut s [91]).2.1.length ≤ 1000000 := by
    by_cases h : (91 : UInt8) ∈ s
    · obtain ⟨a, r, rfl, hk⟩ := first_of 91 s h
      rw [cut_at a r 91 hk]
      simp at hs ⊢
      omega
    · rw [cut_no s 91 (fun d hd e => h (e ▸ hd))]
      exact ⟨hs, by simp⟩
  have hnb : (Lib.cut s [91]).2.2 = false := by rw [cut_no s 91 hok.2]
  unfold CutPost at HC
  clear hok
  generalize Lib.cut s [91] = cc at *
  obtain ⟨nm, rs, ys⟩ := cc
  obtain rfl : ys = false := hnb
  have HX := Lib.hid (show stepP s = if false = true then
    if Lib.hasSuffix rs [93] = true then (numI (Lib.trimSuffix rs [93])).bind fun n => if nameB nm = true then some ⟨nm, n⟩ else none else none
  else if nameB nm = true then some ⟨nm, -1⟩ else none from HX.out)
  have hln : nm.length ≤ 1000000 := hlc.1
  have hlr : rs.length ≤ 1000000 := hlc.2
  clear hlc
  have HE0 := Lib.hid ((Ext.refl w).alloc (.cells #[.string { data := #[] }, .int .i64 0] 125))
  have hb := BoxL.new w [.string { data := #[] }, .int .i64 0] 125
  go_enter Tryz.func84, Tryz.ntmps84
  go_upto_region 1 with (fail)
  generalize w.alloc (.cells #[.string { data := #[] }, .int .i64 0] 125) = W1 at *
  have hz0 := hb.lt
  have HB := Lib.hid hb
  clear hb
  go_wp2_with fail
  refine (HC _).out.mono ?_
  rintro e w2 ⟨rfl, hE⟩
  have HB2 := Lib.hid (HB.out.ext hE)
  have HE2 := Lib.hid (HE0.out.trans hE)
  have hz2 : w.heap.size < w2.heap.size := HB2.out.lt
  clear hE HB HC HE0
  have hE3 := HE2.out.alloc (.cells #[.string (str nm), .int .i64 (-1)] 125)
  have hb3 := BoxL.new w2 [.string (str nm), .int .i64 (-1)] 125
  have hB3 := HB2.out.ext ((Ext.refl w2).alloc (.cells #[.string (str nm), .int .i64 (-1)] 125))
  go_upto_region 3 with (fail)
  generalize w2.alloc (.cells #[.string (str nm), .int .i64 (-1)] 125) = W3 at *
  generalize w2.heap.size = OB at *
  have HE3 := Lib.hid hE3
  have HO3 := Lib.hid hb3
  have HB3 := Lib.hid hB3
  clear hE3 hb3 hB3 HE2 HB2
  have hne : w.heap.size ≠ OB := by omega
  have HXn := Lib.hid (show stepP s = if nameB nm = true then some ⟨nm, -1⟩ else none from by rw [HX.out, if_neg (by simp)])
  have o0 := HO3.out.cell 0 _ rfl
  have o1 := HO3.out.cell 1 _ rfl
  have hzB := HB3.out.lt
  go_upto_region 8 with (fail)
  clear HX
  go_region_with ((go_at_call 92; refine (name_any nm (by omega) _).mono ?_; rintro e w5 ⟨rfl, hE5⟩; have hE6 := (Ext.refl W3).drew.trans hE5; have q0 := (HO3.out.ext hE6).cell 0 _ rfl; have q1 := (HO3.out.ext hE6).cell 1 _ rfl; have HB5 := (HB3.out.ext hE6); have r0 := HB5.cell 0 _ rfl; have r1 := HB5.cell 1 _ rfl; have s0 := HB5.free 0; have s1 := HB5.free 1; have HB5 := Lib.hid HB5; have HE6 := Lib.hid (HE3.out.trans hE6); clear hE5 hE6))
  all_goals
    have hs2 := set2_facts (x := .string (str nm)) (y := .int .i64 (-1)) HE6.out HB5.out (Nat.le_refl _)
    have c0 := hs2.2.cell 0 _ rfl
    have c1 := hs2.2.cell 1 _ rfl
    have HZ := Lib.hid (stepEnd (show stepP s = if nameB nm = true then some ⟨nm, -1⟩ else none from HXn.out) (by omega) (by unfold isI64; omega) hs2.1)
    clear hs2 q0 q1 r0 r1 s0 s1 o0 o1
    go_wp2
    change bodyPost _ _ _ _ _ (set2W w5 w.heap.size (.string (str nm)) (.int .i64 (-1)))
    generalize set2W w5 w.heap.size (.string (str nm)) (.int .i64 (-1)) = Wn at *
    exact bodyPost_ret (v := .tuple #[.agg #[.string (str nm), .int .i64 (-1)], .bool (nameB nm)]) (by simp [results, Tryz.results84, go_sem, c0, c1]) rfl HZ.out
end Go.Proofs.YtbciamploeejiaaGreat
