/- Walks of package fan: place, maps, Fits; and the reference's. -/
import Derived.Test.YtpcgpcjleedilaaGreatDoorPlFh
import Derived.Deep.MidRow
import Derived.Deep.RegionHeld3
import Derived.Great.BuildSlice
import Derived.Test.YtpcgpcjleedilaaGreatDoorProg
import Derived.Shelf.LaysM
import Derived.Shelf.Strings.SlTrimAscii
import Derived.Shelf.Strings.Repeat
import Derived.Shelf.Slices.Equal
import Derived.Shelf.Slices.Empties2
import Derived.Shelf.Slices.Clone
import Derived.Test.YtpcgpcjleedilaaGreatDoorPlI
import Derived.WalkLawsBesides
import Derived.WalkSpells
import Derived.Lib.Hide
import Derived.BigQuiet
import Derived.Deep.QuietTactic
import Derived.RangeFuncNested
import Derived.RangeFuncBound
import Derived.RangeFuncCalls
import Derived.RangeFuncLeaves
import Derived.OwnWalkIn
import Derived.TacticsInMore
import Derived.LoopNIn
import Derived.LoopIn
import Derived.Maps.AppendAt
import Derived.Shelf.Abstract
import Derived.IntWalk
import Derived.StillTailTactics
import Derived.Shelf.Strings.Builder1
import Derived.Shelf.Strconv.Itoa4
import Derived.Deep.RegionWith
import Derived.Deep.RegionLaw
import Derived.Defers
import Derived.Recover
import Derived.Lib.ConvBytes
import Derived.Laws.BitsLemmas
import Derived.Shelf.LaysC
import Derived.Shelf.Strconv.AtoiAll
import Derived.Shelf.Strings.Search3
import Derived.Shelf.Small.Wraps
open Go.RowKit
namespace Fm
open Go Go.RowKit
/-- The law of an append, at an operation that comes up. -/
theorem wp_appendS {P : Program} {w : World} {o : Oper} {a : Act} {K : Act → World → Prop} {Q : Exit → Act → World → Prop} (s x : Operand) {t e : TypeId} {z : Value} {size bytes : Nat} (tx : TypeId)
    (ho : o.op = .call { callee := .builtin .append, args := #[s, x], argTypes := #[t, tx] }) (he : ElemOf P t e z size bytes) (base : Nat)
    (v : Value) (n : Nat) (xs : List Value) (hs : a.eval s = v) (hown : w.ownsRow base e size v n xs) (X : Value) (m : Nat) (news : List Value) (hx : a.eval x = X) (hsrc : Src P size tx X m news w)
    (b1 : n + m ≤ maxLen) (b2 : (n + m) * bytes ≤ 140737488355328) (b3 : base ≤ w.heap.size)
    (h : ∀ A C w', w'.ownsRow base e size (.slice A (n + m) C) (n + m) (xs ++ news) → w.grownBy w' v.ownBlock → ((Value.slice A (n + m) C).ownBlock = v.ownBlock ∨ (Value.slice A (n + m) C).ownBlock = some w.heap.size) → K (a.put o.dst (.slice A (n + m) C)) w') :
    Oper.wp P o a w K Q := by
  obtain ⟨v', w', hrun, r1, r2, r3⟩ := run_append_src_at w he tx o.type base v n xs hown X m news hsrc b1 b2 b3
  obtain ⟨A, C, rfl⟩ : ∃ A C, v' = .slice A (n + m) C := by
    rcases r1.2 with ⟨e1, e2⟩ | ⟨g, cap, cur, e1, _⟩
    · exact ⟨none, 0, by rw [e1, e2]⟩
    · exact ⟨_, _, e1⟩
  unfold Oper.wp
  simp [execOp, ho, resolve, invoke, builtin, hs, hx, hrun, Result.andThen]
  exact h A C w' r1 r2 r3
/-- A whole struct is stored into cells that are there, at an operation that comes up. -/
theorem wp_storeM {P : Program} {w : World} {o : Oper} {a : Act} {K : Act → World → Prop} {Q : Exit → Act → World → Prop} (ty : TypeId) (x y : Operand) (ho : o.op = .store ty x y)
    (b off : Nat) (cs : List Value) (hx : a.eval x = .pointer (some ⟨b, off, none⟩)) (hy : a.eval y = .agg cs.toArray) {n : Nat} (hn : cs.length = n)
    (ht : w.there b off n) (hi : (P.info? ty).map (·.size) = some n) (h1 : ∀ u, u ∈ cs → u.oneCell' = true)
    (h : K (a.put o.dst undef) (w.setCells b off cs)) : Oper.wp P o a w K Q :=
  wp_store_mid ty x y ho b off cs.toArray hx hy (by rw [List.size_toArray, hn]; exact ht) (by rw [List.size_toArray, hn]; exact hi) (all_oneCell_toArray h1) h
theorem intRow_some {l : List Int} {j : Nat} {u : Value} (h : (l.map (Value.int .i64))[j]? = some u) : ∃ (hj : j < l.length), u = .int .i64 l[j] := by
  rw [List.getElem?_map] at h
  obtain ⟨x, h1, rfl⟩ := Option.map_eq_some_iff.1 h
  obtain ⟨hj, rfl⟩ := List.getElem?_eq_some_iff.1 h1
  exact ⟨hj, rfl⟩
theorem list_of16 {C : List Value} (h : C.length = 16) : ∃ c0 c1 c2 c3 c4 c5 c6 c7 c8 c9 c10 c11 c12 c13 c14 c15, C = [c0, c1, c2, c3, c4, c5, c6, c7, c8, c9, c10, c11, c12, c13, c14, c15] := by
  match C, h with
  | [c0, c1, c2, c3, c4, c5, c6, c7, c8, c9, c10, c11, c12, c13, c14, c15], _ => exact ⟨_, _, _, _, _, _, _, _, _, _, _, _, _, _, _, _, rfl⟩
/-- A whole struct is loaded, at an operation that is wanted. -/
theorem wpList_load_midG {P : Program} {ops : Array Oper} {rest : List Oper} {op : Oper} {a : Act} {w : World} {Q : Exit → Act → World → Prop} (hg : Region.wanted op (yielded ops a.tmps) = true) (ty : TypeId) (x : Operand) (ho : op.op = .load ty x)
    (b o : Nat) (hx : a.eval x = .pointer (some ⟨b, o, none⟩)) (cs : List Value) (d : TypeDesc) (hc : w.rangeAt b o cs)
    (hu : P.underlying ty = some d) (hd : d.isRow = true) (hi : (P.info? ty).map (·.size) = some cs.length)
    (h : wpList P ops Q rest (a.put op.dst (.agg cs.toArray)) w) : wpList P ops Q (op :: rest) a w := by
  unfold wpList
  rw [if_pos hg]
  left
  exact wp_load_mid ty x ho b o hx cs d hc hu hd hi h
/-- A whole struct is loaded in a region that draws its order. -/
theorem take_mid {P : Program} {ops : Array Oper} {Q : Exit → Act → World → Prop} {md : Region.Mode} {S : World → Prop} (i : Nat) (d : Option Tmp) {fuel : Nat} {listed : Array Bool} {a : Act} {w : World} {cs : List Value}
    (hi : ops[i]? = some (ops.getD i default)) (hd : (ops.getD i default).dst = d) (hs : Region.noSelect ops = true) (hf : Region.free md ops listed i = true) (hr : (Region.ready md ops listed).contains i = true)
    (hQ : ∀ c a w, Q (.panic c) (a.put d (.agg cs.toArray)) w → Q (.panic c) a w) (hw : Region.wanted (ops.getD i default) (yielded ops a.tmps) = true) (ty : TypeId) (x : Operand) (ho : (ops.getD i default).op = .load ty x)
    (b o : Nat) (hx : a.eval x = .pointer (some ⟨b, o, none⟩)) (td : TypeDesc) (hc : ∀ w, S w → w.rangeAt b o cs) (hu : P.underlying ty = some td) (hrow : td.isRow = true) (hin : (P.info? ty).map (·.size) = some cs.length) (hS : S w)
    (h : wpAnyH P md ops Q S fuel (listed.setIfInBounds i true) (a.put d (.agg cs.toArray)) w) : wpAnyH P md ops Q S (fuel + 1) listed a w := by
  subst hd; exact wpAnyH_take hi hs hf hr hQ (yieldsIf_load_mid hw ty x ho b o hx cs td hc hu hrow hin) hS h
/-- A row of numbers as the source of an append. -/
theorem _root_.Go.Src.ints {P : Program} {tx e' : TypeId} (hk : P.underlying tx = some (.slice e')) {w wr : World} {l : List Int} {v : Value} (h : intE.Row w l v) (hE : Ext w wr) : Src P 1 tx v l.length (l.map (Value.int .i64)) wr := by
  obtain ⟨a, cap, rfl, h1, h2, h3, C, h4, h5⟩ := h
  by_cases h0 : 0 < l.length
  · obtain ⟨b, off, rfl, hb, hc⟩ := h4 h0
    refine Src.ofSlice wr hk _ _ _ _ (by simp) (fun p u hu => ?_) (fun u hu => ?_)
    · obtain ⟨hp, rfl⟩ := intRow_some hu
      have := hc p 0 hp (by show 0 < 1; omega)
      rw [show p * intE.sz + 0 = p by show p * 1 + 0 = p; omega] at this
      rw [Addr.add_lit]
      exact (hE.cell (p := ⟨b, _, none⟩) hb).trans (this.trans (by rw [(h5 p hp).1]))
    · obtain ⟨x, _, rfl⟩ := List.mem_map.1 hu; rfl
  · have : l = [] := List.eq_nil_of_length_eq_zero (by omega)
    subst this
    cases a with
    | none => exact Src.ofNil wr hk cap
    | some ad => exact Src.ofSlice wr hk ad 0 cap [] rfl (fun p u hu => by simp at hu) (fun u hu => by cases hu)
theorem intRow_mem {w : World} {l : List Int} {v : Value} (h : intE.Row w l v) : ∀ i, i ∈ l → isI64 i := by
  obtain ⟨a, cap, rfl, h1, h2, h3, C, h4, h5⟩ := h
  intro i hi
  obtain ⟨j, hj, rfl⟩ := List.getElem_of_mem hi
  exact (h5 j hj).2
theorem madeCells_flat (C : List Value) (hC : C.length = 16) (n : Nat) : (madeCells C.toArray (n * 16)).toList = (List.replicate n C).flatten := by
  apply List.ext_getElem?
  intro p
  by_cases hp : p < n * 16
  · have h1 := flat16 (List.replicate n C) (p / 16) (p % 16) (by simp; omega) (fun D hD => by rw [List.eq_of_mem_replicate hD]; exact hC) (Nat.mod_lt _ (by omega))
    rw [show p / 16 * 16 + p % 16 = p by omega] at h1
    rw [h1]
    simp only [madeCells, List.getElem_replicate]
    have h2 : p % 16 < C.length := by rw [hC]; exact Nat.mod_lt _ (by omega)
    simp [hp, hC]
    rw [List.getElem?_eq_getElem h2]; rfl
  · rw [List.getElem?_eq_none (by simp [madeCells]; omega), List.getElem?_eq_none (by rw [flat16_all _ (fun D hD => by rw [List.eq_of_mem_replicate hD]; exact hC)]; simp; omega)]
end Fm
namespace Go.Proofs.YtpcgpcjleedilaaGreatDoor
open Go Go.Proofs Fm
theorem infoint_F : (Tryz.prog.info? 3).map (fun i => (i.zero, i.size, i.bytes)) = some (some (.int .i64 0), 1, 8) := by kernel_rfl
theorem elemint_F : ElemOf Tryz.prog 41 3 (.int .i64 0) 1 8 := ⟨Tryz.underlying41, infoint_F, rfl, by decide⟩
theorem infonode_F : (Tryz.prog.info? 46).map (fun i => (i.zero, i.size, i.bytes)) = some (some (.agg ndZ.toArray), 16, 184) := by kernel_rfl
theorem elemnode_F : ElemOf Tryz.prog 40 46 (.agg ndZ.toArray) 16 184 := ⟨Tryz.underlying40, infonode_F, rfl, by decide⟩
theorem infoval_F : (Tryz.prog.info? 44).map (fun i => (i.zero, i.size, i.bytes)) = some (some (.agg #[.int .u8 0, .int .i64 0, .string { data := #[] }, .slice none 0 0]), 4, 56) := by kernel_rfl
theorem elemval_F : ElemOf Tryz.prog 42 44 (.agg #[.int .u8 0, .int .i64 0, .string { data := #[] }, .slice none 0 0]) 4 56 := ⟨Tryz.underlying42, infoval_F, rfl, by decide⟩
theorem sizenode_F : (Tryz.prog.info? 46).map (·.size) = some 16 := by kernel_rfl
theorem sizeof_intF : ∀ w, (sizeOf (Tryz.prog.elem 41)).run Tryz.prog w = .ok 1 w := fun _ => by kernel_rfl
theorem slice_int_from (a : Option Addr) (len cap k : Nat) (h1 : k ≤ len) (w : World) :
    (Instr.slice 41 (.slice a len cap) (some (.int .i64 (k : Int))) none none).run Tryz.prog w = .ok (.slice (if cap = k then a else a.map (·.add (k * 1))) (len - k) (cap - k)) w := by
  rw [run_slice_l (ht := by kernel_rfl) (h0 := by omega) (h1 := by omega), sizeof_intF]
  simp [Result.andThen, sliced]
theorem fill_nodes2 {C D : List Value} (hC : C.length = 16) (hD : D.length = 16) (n : Nat) (hn : n = 16) (z : Value) (hz : z = .agg ndZ.toArray) :
    Instr.fill (fun i => some (i * n, n)) ((Array.range (2 * n)).map (z.cells[· % z.cells.size]!)) [(0, .agg C.toArray), (1, .agg D.toArray)] = some (C ++ D).toArray := by
  subst hn hz
  obtain ⟨c0, c1, c2, c3, c4, c5, c6, c7, c8, c9, c10, c11, c12, c13, c14, c15, rfl⟩ := list_of16 hC
  obtain ⟨d0, d1, d2, d3, d4, d5, d6, d7, d8, d9, d10, d11, d12, d13, d14, d15, rfl⟩ := list_of16 hD
  first | kernel_rfl | (simp [Instr.fill, ndZ, Value.cells]; done) | (simp [Instr.fill, ndZ, Value.cells, go_sem]; trace_state)
/-- A slice of two nodes, whatever their cells. -/
theorem wp_nodes2 {o : Oper} {a : Act} {w : World} {K : Act → World → Prop} {Q : Exit → Act → World → Prop} {C D : List Value} (s1 s2 : Operand) (ho : o.op = .buildSlice 40 2 #[(0, s1), (1, s2)])
    (h1 : a.eval s1 = .agg C.toArray) (h2 : a.eval s2 = .agg D.toArray) (hC : C.length = 16) (hD : D.length = 16)
    (h : K (a.put o.dst (.slice (some ⟨w.heap.size, 0, none⟩) 2 2)) (w.alloc (.cells (C ++ D).toArray 46))) : o.wp Tryz.prog a w K Q := by
  obtain ⟨i, i1, i2, i3, i4⟩ := info_parts infonode_F
  refine wp_buildSlice 40 46 2 _ ho (C ++ D).toArray i (.agg ndZ.toArray) Tryz.underlying40 i1 i2 (by rw [i3]; decide) (by rw [i3]; decide) ?_ h
  have e : (#[(0, s1), (1, s2)].map fun (x : Nat × Operand) => (x.1, a.eval x.2)).toList = [(0, .agg C.toArray), (1, .agg D.toArray)] := by simp [h1, h2]
  exact (congrArg _ e).trans (fill_nodes2 hC hD i.size i3 _ rfl)
/-- So many new nodes. -/
theorem make_nodes (n : Nat) (hn : n ≤ 100000) (w : World) : ∃ w', (Instr.makeSlice 40 (.int .i64 (n : Int)) (.int .i64 (n : Int))).run Tryz.prog w = .ok (.slice (some ⟨w.heap.size, 0, none⟩) n n) w' ∧
    w'.ownsRow w.heap.size 46 16 (.slice (some ⟨w.heap.size, 0, none⟩) n n) n (List.replicate n ndZ).flatten ∧ Ext w w' := by
  obtain ⟨i, h1, h2, h3, h4⟩ := info_parts infonode_F
  obtain ⟨w', hr, ho, hg⟩ := run_make_full w w.heap.size 40 46 i (.agg ndZ.toArray) 16 Tryz.underlying40 h1 h2 h3 .i64 .i64 n (by rw [h4]; omega) (by unfold maxLen; omega) (Nat.le_refl _)
  refine ⟨w', hr, ?_, (Ext.refl w).grown hg (fun k hk => by cases hk)⟩
  have e : (Value.agg ndZ.toArray).cells = ndZ.toArray := by kernel_rfl
  rw [e, madeCells_flat _ rfl] at ho
  exact ho
end Go.Proofs.YtpcgpcjleedilaaGreatDoor

namespace Fm
open Go Go.RowKit

/-! ### instances anywhere, others between -/
theorem valsF_dead {k j : Nat} {l : List Nd} {m : Int} (hj : j < k) (h : valAt l m j = none) : valsF k l m = none := by
  cases e : valsF k l m with
  | none => rfl
  | some r =>
    have := ((valsF_some k l m r).1 e).2 j hj
    rw [h] at this; cases this
end Fm

namespace Fm
open Go Go.RowKit

def stpE : Elem Stp where
  sz := 2
  R _ x c := c 0 = .string (str x.name) ∧ c 1 = .int .i64 x.place ∧ x.name.length ≤ 9223372036854775807 ∧ isI64 x.place
  ext _ h := h
  loc hc h := ⟨(hc 0 (by omega)).symm.trans h.1, (hc 1 (by omega)).symm.trans h.2.1, h.2.2⟩
def stpCells (x : Stp) : List Value := [.string (str x.name), .int .i64 x.place]
def stpsCells (l : List Stp) : List Value := (l.map stpCells).flatten
def stpWf (x : Stp) : Prop := x.name.length ≤ 9223372036854775807 ∧ isI64 x.place
theorem stpsCells_snoc (l : List Stp) (x : Stp) : stpsCells (l ++ [x]) = stpsCells l ++ stpCells x := by unfold stpsCells; simp
theorem stpsCells_len : ∀ l : List Stp, (stpsCells l).length = l.length * 2
  | [] => rfl
  | x :: l => by
    have := stpsCells_len l
    unfold stpsCells at this ⊢
    rw [List.map_cons, List.flatten_cons, List.length_append, this]
    simp [stpCells]; omega
theorem stpsCells_at : ∀ (l : List Stp) (i j : Nat) (hi : i < l.length), j < 2 → (stpsCells l)[i * 2 + j]? = (stpCells l[i])[j]?
  | [], i, j, hi, _ => by simp at hi
  | x :: l, 0, j, _, hj => by
    unfold stpsCells
    rw [List.map_cons, List.flatten_cons, List.getElem?_append_left (by simp [stpCells]; omega)]
    simp
  | x :: l, i + 1, j, hi, hj => by
    have ih := stpsCells_at l i j (by simpa using hi) hj
    unfold stpsCells at ih ⊢
    rw [List.map_cons, List.flatten_cons, List.getElem?_append_right (by simp [stpCells]; omega)]
    have e : (i + 1) * 2 + j - (stpCells x).length = i * 2 + j := by simp [stpCells]; omega
    rw [e, ih]
    simp
/-- An element of a slice of steps. -/
theorem stp_at {w wr : World} {l : List Stp} {a : Option Addr} {n cap : Nat} (h : stpE.Row w l (.slice a n cap)) (hE : Ext w wr) (i : Nat) (hi : i < l.length) :
    ∃ (b off : Nat), a = some ⟨b, off, none⟩ ∧ b < w.heap.size ∧ wr.cell? ⟨b, off + i * 2, none⟩ = some (.string (str l[i].name)) ∧ wr.cell? ⟨b, off + i * 2 + 1, none⟩ = some (.int .i64 l[i].place) ∧ stpWf l[i] := by
  obtain ⟨hn, b, off, ha, hb, hc⟩ := h.at (by omega)
  obtain ⟨c, ⟨r0, r1, r2, r3⟩, hcell⟩ := hc i hi
  refine ⟨b, off, ha, hb, ?_, ?_, r2, r3⟩
  · have := hcell 0 (by decide) wr hE; rw [r0] at this; exact this
  · have := hcell 1 (by decide) wr hE; rw [r1] at this; exact this
/-- A path that is handed in. -/
def PthV (w : World) (p : Pth) (v : Value) : Prop :=
  ∃ (a : Option Addr) (m c : Nat), v = .agg #[.int .i64 p.flow, .slice a m c] ∧ stpE.Row w p.steps (.slice a m c) ∧ isI64 p.flow
theorem PthV.ext {w w' : World} {p : Pth} {v : Value} (h : PthV w p v) (hE : Ext w w') : PthV w' p v := by
  obtain ⟨a, m, c, h1, h2, h3⟩ := h
  exact ⟨a, m, c, h1, h2.ext hE, h3⟩
/-- Steps in memory of one's own. -/
def OwnSt (e : TypeId) (base : Nat) (w : World) (v : Value) (l : List Stp) : Prop := w.ownsRow base e 2 v l.length (stpsCells l) ∧ ∀ x, x ∈ l → stpWf x
theorem OwnSt.nil (e : TypeId) (base : Nat) (w : World) : OwnSt e base w (.slice none 0 0) [] := ⟨World.ownsRow_nil w base e 2, fun x h => by cases h⟩
theorem OwnSt.ext {e : TypeId} {base : Nat} {w w' : World} {v : Value} {l : List Stp} (h : OwnSt e base w v l) (hE : Ext w w') : OwnSt e base w' v l := ⟨hE.own h.1, h.2⟩
theorem OwnSt.mono {e : TypeId} {base base' : Nat} {w : World} {v : Value} {l : List Stp} (h : OwnSt e base w v l) (hb : base' ≤ base) : OwnSt e base' w v l := ⟨ownsRow_base h.1 hb, h.2⟩
theorem OwnSt.lt {e : TypeId} {base : Nat} {w : World} {v : Value} {l : List Stp} (h : OwnSt e base w v l) (b : Nat) (hb : v.ownBlock = some b) : base ≤ b ∧ b < w.heap.size := World.ownsRow.lt h.1 b hb
theorem OwnSt.kept {e : TypeId} {base : Nat} {w w' : World} {v : Value} {l : List Stp} {row : Option Nat} (h : OwnSt e base w v l) (hg : w.grownBy w' row) (hr : ∀ b, row = some b → b < base) : OwnSt e base w' v l := by
  refine ⟨World.ownsRow.kept h.1 hg ?_, h.2⟩
  cases hv : v.ownBlock with
  | none => exact .inl rfl
  | some b => right; intro e; have := hr b e.symm; have := (World.ownsRow.lt h.1 b hv).1; omega
theorem OwnSt.slice {e : TypeId} {base : Nat} {w : World} {v : Value} {l : List Stp} (h : OwnSt e base w v l) : ∃ a c, v = .slice a l.length c := by
  rcases h.1.2 with ⟨rfl, h0⟩ | ⟨g, cap, cur, rfl, _⟩
  · exact ⟨none, 0, by rw [h0]⟩
  · exact ⟨_, _, rfl⟩
theorem OwnSt.row {e : TypeId} {base : Nat} {w : World} {v : Value} {l : List Stp} (h : OwnSt e base w v l) : stpE.Row w l v := by
  have hc := fun g => World.ownsRow.cells h.1 (g := g)
  rcases h.1.2 with ⟨rfl, h0⟩ | ⟨g, cap, cur, rfl, hb, hg, h1, h2, h5, h6⟩
  · have : l = [] := List.eq_nil_of_length_eq_zero h0
    subst this
    exact Elem.Row.void stpE w none
  · refine Elem.Row.mk rfl h1 h2 (Array.getElem?_eq_some_iff.1 hg).1 (fun i hi => ?_)
    have hwf := h.2 _ (List.getElem_mem hi)
    refine ⟨fun j => (stpCells l[i]).getD j .nilFunc, ⟨rfl, rfl, hwf⟩, fun j hj => ?_⟩
    have hj2 : j < 2 := hj
    have := hc g rfl (i * 2 + j) ((stpCells l[i]).getD j .nilFunc) (by
      rw [stpsCells_at l i j hi hj2, List.getD_eq_getElem?_getD, List.getElem?_eq_getElem (by simp [stpCells]; omega)]; rfl)
    rw [Addr.add_lit] at this
    exact this
theorem OwnSt.snoc {e : TypeId} {base : Nat} {w' : World} {v' : Value} {l : List Stp} {x : Stp} (hrow : w'.ownsRow base e 2 v' (l.length + 1) (stpsCells l ++ stpCells x)) (hl : ∀ y, y ∈ l → stpWf y) (hx : stpWf x) : OwnSt e base w' v' (l ++ [x]) := by
  refine ⟨by rw [List.length_append, stpsCells_snoc]; exact hrow, fun y hy => ?_⟩
  rcases List.mem_append.1 hy with hy | hy
  · exact hl y hy
  · rw [List.mem_singleton] at hy; subst hy; exact hx
/-- A path in memory of one's own. -/
def PthOwn (e : TypeId) (base : Nat) (w : World) (p : Pth) (v : Value) : Prop :=
  ∃ (a : Option Addr) (m c : Nat), v = .agg #[.int .i64 p.flow, .slice a m c] ∧ OwnSt e base w (.slice a m c) p.steps ∧ isI64 p.flow
theorem PthOwn.v {e : TypeId} {base : Nat} {w : World} {p : Pth} {v : Value} (h : PthOwn e base w p v) : PthV w p v := by
  obtain ⟨a, m, c, h1, h2, h3⟩ := h
  exact ⟨a, m, c, h1, h2.row, h3⟩
theorem PthOwn.ext {e : TypeId} {base : Nat} {w w' : World} {p : Pth} {v : Value} (h : PthOwn e base w p v) (hE : Ext w w') : PthOwn e base w' p v := by
  obtain ⟨a, m, c, h1, h2, h3⟩ := h
  exact ⟨a, m, c, h1, h2.ext hE, h3⟩
end Fm

namespace Go.Proofs
open Go.Shelf
def Tryz.lays160_ren : Go.Shelf.Ren := ⟨fun | 160 => 80 | 232 => 94 | 231 => 93 | 227 => 95 | 234 => 97 | 233 => 96 | 236 => 99 | 235 => 98 | 228 => 115 | 271 => 117 | 151 => 116 | 197 => 87 | 120 => 132 | 152 => 131 | 260 => 107 | 137 => 142 | 119 => 143 | 224 => 126 | 225 => 125 | 217 => 124 | 266 => 138 | n => n, fun | 9 => 9 | 4 => 4 | 3 => 3 | 5 => 5 | 117 => 128 | 116 => 127 | 0 => 0 | 124 => 131 | 21 => 21 | 105 => 121 | 46 => 154 | 119 => 153 | 139 => 157 | 138 => 156 | n => n, fun | 3 => 0 | 4 => 1 | n => n⟩
theorem Tryz.lays160 : Go.Proofs.Lays.n160 Tryz.prog Tryz.lays160_ren := {
  mixed := by kernel_rfl
  f119 := Tryz.func143.trans (congrArg some (by kernel_rfl))
  f120 := Tryz.func132.trans (congrArg some (by kernel_rfl))
  f137 := Tryz.func142.trans (congrArg some (by kernel_rfl))
  f151 := Tryz.func116.trans (congrArg some (by kernel_rfl))
  f152 := Tryz.func131.trans (congrArg some (by kernel_rfl))
  f160 := Tryz.func80.trans (congrArg some (by kernel_rfl))
  f197 := Tryz.func87.trans (congrArg some (by kernel_rfl))
  f217 := Tryz.func124.trans (congrArg some (by kernel_rfl))
  f224 := Tryz.func126.trans (congrArg some (by kernel_rfl))
  f225 := Tryz.func125.trans (congrArg some (by kernel_rfl))
  f227 := Tryz.func95.trans (congrArg some (by kernel_rfl))
  f228 := Tryz.func115.trans (congrArg some (by kernel_rfl))
  f231 := Tryz.func93.trans (congrArg some (by kernel_rfl))
  f232 := Tryz.func94.trans (congrArg some (by kernel_rfl))
  f233 := Tryz.func96.trans (congrArg some (by kernel_rfl))
  f234 := Tryz.func97.trans (congrArg some (by kernel_rfl))
  f235 := Tryz.func98.trans (congrArg some (by kernel_rfl))
  f236 := Tryz.func99.trans (congrArg some (by kernel_rfl))
  f260 := Tryz.func107.trans (congrArg some (by kernel_rfl))
  f266 := Tryz.func138.trans (congrArg some (by kernel_rfl))
  f271 := Tryz.func117.trans (congrArg some (by kernel_rfl))
  t0 := Tryz.underlying0
  a0 := Tryz.isAgg0
  z0 := Tryz.sizeOf0
  v0 := Tryz.zeroValue0
  t3 := Tryz.underlying3
  a3 := Tryz.isAgg3
  z3 := Tryz.sizeOf3
  v3 := Tryz.zeroValue3
  t4 := Tryz.underlying4
  a4 := Tryz.isAgg4
  z4 := Tryz.sizeOf4
  v4 := Tryz.zeroValue4
  t5 := Tryz.underlying5
  a5 := Tryz.isAgg5
  z5 := Tryz.sizeOf5
  v5 := Tryz.zeroValue5
  t9 := Tryz.underlying9
  a9 := Tryz.isAgg9
  z9 := Tryz.sizeOf9
  v9 := Tryz.zeroValue9
  t21 := Tryz.underlying21
  a21 := Tryz.isAgg21
  z21 := Tryz.sizeOf21
  v21 := Tryz.zeroValue21
  t46 := Tryz.underlying154
  a46 := Tryz.isAgg154
  z46 := Tryz.sizeOf154
  v46 := Tryz.zeroValue154
  t105 := Tryz.underlying121
  a105 := Tryz.isAgg121
  z105 := Tryz.sizeOf121
  v105 := Tryz.zeroValue121
  t116 := Tryz.underlying127
  a116 := Tryz.isAgg127
  z116 := Tryz.sizeOf127
  t117 := Tryz.underlying128
  a117 := Tryz.isAgg128
  z117 := Tryz.sizeOf128
  v117 := Tryz.zeroValue128
  t119 := Tryz.underlying153
  a119 := Tryz.isAgg153
  z119 := Tryz.sizeOf153
  t124 := Tryz.underlying131
  a124 := Tryz.isAgg131
  z124 := Tryz.sizeOf131
  v124 := Tryz.zeroValue131
  t138 := Tryz.underlying156
  a138 := Tryz.isAgg156
  z138 := Tryz.sizeOf156
  v138 := Tryz.zeroValue156
  t139 := Tryz.underlying157
  a139 := Tryz.isAgg157
  z139 := Tryz.sizeOf157
  v139 := Tryz.zeroValue157
  g3 := by kernel_rfl
  g4 := by kernel_rfl }
open Go.RowKit Go.Lib in
theorem Tryz.strings_Trim_any (s cutset : ByteArray) (w : World) (hs : s.size ≤ 9223372036854775807) (hcs : cutset.size < 4294967281) (hascii : ∀ (j : Nat) b, cutset.data.toList[j]? = some b → b.toNat < 128) :
    Calls Tryz.prog 80 #[.string s, .string cutset] w fun e w' => e = .returned (.string ⟨(Lib.trimS s.data.toList cutset.data.toList).toArray⟩) ∧ Below w.heap.size w w' := Any.strings_Trim_laid Tryz.lays160 (by kernel_rfl) s cutset w hs hcs hascii
end Go.Proofs

open Go.RowKit Go.Shelf
namespace Go.Proofs.YtpcgpcjleedilaaGreatDoor
open Go Go.Proofs Fm
attribute [local go_sem] Oper.semAt_some

theorem info_u8 : (Tryz.prog.info? 5).map (fun i => (i.zero, i.size, i.bytes)) = some (some (.int .u8 0), 1, 1) := by kernel_rfl

/-- The call has made a slice of its own of these bytes, and nothing that lay has turned. -/
def OwnBytes (w w' : World) (v : Value) (xs : List UInt8) : Prop :=
  w'.ownsRow w.heap.size 5 1 v xs.length (xs.map bv) ∧ Ext w w'
theorem OwnBytes.bytes {w w' : World} {v : Value} {xs : List UInt8} (h : OwnBytes w w' v xs) : Bytes w' v xs := Bytes.of_own h.1
end Go.Proofs.YtpcgpcjleedilaaGreatDoor

open Go.RowKit Go.Shelf
namespace Go.Proofs.YtpcgpcjleedilaaGreatDoor
open Go Go.Proofs Fm

theorem elem_u8 : ElemOf Tryz.prog 66 5 (.int .u8 0) 1 1 := ⟨Tryz.underlying66, info_u8, rfl, by decide⟩

/-- v is a slice of the call's own, from block 'base' on, that holds these bytes. -/
def OwnB (base : Nat) (w : World) (v : Value) (xs : List UInt8) : Prop := w.ownsRow base 5 1 v xs.length (xs.map bv)
theorem OwnBytes.own {w w' : World} {v : Value} {xs : List UInt8} (h : OwnBytes w w' v xs) : OwnB w.heap.size w' v xs := h.1
theorem OwnB.bytes {base : Nat} {w : World} {v : Value} {xs : List UInt8} (h : OwnB base w v xs) : Bytes w v xs := Bytes.of_own h
theorem OwnB.ext {base : Nat} {w w' : World} {v : Value} {xs : List UInt8} (h : OwnB base w v xs) (hE : Ext w w') : OwnB base w' v xs := hE.own h
theorem OwnB.mono {base base' : Nat} {w : World} {v : Value} {xs : List UInt8} (h : OwnB base w v xs) (hb : base' ≤ base) : OwnB base' w v xs := by
  refine ⟨h.1, ?_⟩
  rcases h.2 with hn | ⟨g, cap, cur, hv, hg, rest⟩
  · exact .inl hn
  · exact .inr ⟨g, cap, cur, hv, Nat.le_trans hb hg, rest⟩
theorem OwnB.nil (base : Nat) (w : World) : OwnB base w (.slice none 0 0) [] := World.ownsRow_nil w base 5 1
end Go.Proofs.YtpcgpcjleedilaaGreatDoor

open Go.RowKit Go.Shelf
namespace Go.Proofs.YtpcgpcjleedilaaGreatDoor
open Go Go.Proofs Fm

set_option maxRecDepth 100000 in
set_option maxHeartbeats 2000000 in
theorem few_any (d : Nat) : ∀ (D : Int) (t : Tr) (w : World) (v : Value), Hid (D = d) → Lies w t v → d ≤ 20 →
    Calls Tryz.prog 85 #[v, .int .i64 D] w fun e w' => e = .returned (.int .i64 (fewT d t)) ∧ Ext w w' := by
  induction d with
  | zero =>
    intro D t w v hD hl _
    have HF := Lib.hid (fewT_zero t)
    obtain rfl : D = 0 := hD.out
    cases hl with
    | node k n s l a cap C hn hs h1 h2 h3 h4 h5 =>
    clear hn hs h3 h4 h5
    go_enter Tryz.func85, Tryz.ntmps85
    go_wp2
    go_ret
    exact ⟨by rw [HF.out]; rfl, (Ext.refl w).alloc _⟩
  | succ d ih =>
    intro D t w v HD hl hd
    cases hl with
    | node kd n s l a cap C hn hs h1 h2 h3 h4 h5 =>
    have HF := Lib.hid (fewT_succ d kd n s l)
    have H4 := Lib.hid h4; have H5 := Lib.hid h5; have IH := Lib.hid ih
    clear h3 h4 h5 hs hn ih
    have hD := HD.out
    have hD1 : 1 ≤ D := by omega
    have hD2 : D ≤ 20 := by omega
    have h0 : (D == 0) = false := by simp; omega
    clear hD
    have HB : Hid (∀ t, fewT d t ≤ 1000000 * (d + 1)) := fewT_le d
    have hll : l.length ≤ 9223372036854775807 := by unfold maxLen at h2; omega
    go_enter Tryz.func85, Tryz.ntmps85
    go_wp2_with fail
    go_loopw [5, 13] (fun x i wr => ∃ k N : Nat, k ≤ l.length ∧ x = .int .i64 (N : Int) ∧ i = .int .i64 k ∧ N ≤ 1000000 ∧ Hid (fewL (fewT d) 1 l = fewL (fewT d) N (l.drop k)) ∧ Ext w wr) (fun _ i _ => l.length - (intOf i).toNat)
    case atStart => exact ⟨0, 1, by omega, rfl, rfl, by omega, Lib.hid (by rw [List.drop_zero]), (Ext.refl w).alloc _⟩
    case round =>
      obtain ⟨k, N, hk, rfl, rfl, hN, HN, hE⟩ := hrel
      by_cases hlt : k < l.length
      · obtain ⟨b, off, rfl, hb, hc⟩ := H4.out (by omega)
        obtain ⟨k0, n0, s0, a0, m0, c0, e0, e1, e2, e3, hx⟩ := elem4 hE hb hc H5.out k hlt
        have hst := fewL_drop (fewT d) N l k hlt
        have hPB := HB.out l[k]
        go_wp2_with fail
        refine (IH.out (D - 1) _ _ _ (Lib.hid (by have := HD.out; omega)) (hx.ext ((Ext.refl wr).alloc _)) (by omega)).mono ?_
        rintro e w1 ⟨rfl, hE1⟩
        have hE2 := (hE.alloc _).trans hE1
        obtain ⟨P, hP⟩ : ∃ P, P = fewT d l[k] := ⟨_, rfl⟩
        rw [← hP] at hst hPB ⊢
        have hPB' : P ≤ 20000000 := by omega
        by_cases hbig : 1000000 < N + P
        · rw [if_pos hbig] at hst
          have HR : Hid (fewT (d + 1) (.node kd n s l) = N + P) := Lib.hid (by rw [HF.out, HN.out, hst])
          clear hE1 e0 e1 e2 e3 hx hb hc HN hP hst
          go_wp2
          go_ret
          exact ⟨by rw [HR.out]; rfl, hE2⟩
        · rw [if_neg hbig] at hst
          have HR : Hid (fewL (fewT d) 1 l = fewL (fewT d) (N + P) (l.drop (k + 1))) := Lib.hid (by rw [HN.out, hst])
          clear hE1 e0 e1 e2 e3 hx hb hc HN hP hst
          go_wp2
          go_roundw
          case rel => exact ⟨k + 1, N + P, by omega, by go_num, by go_num, by omega, HR, hE2⟩
          case measure => simp [intOf]; omega
      · have hk' : k = l.length := by omega
        have HX := Lib.hid (show fewT (d + 1) (.node kd n s l) = N by rw [HF.out, HN.out, hk', List.drop_length, fewL_nil])
        clear hk'
        go_wp2
        go_ret
        exact ⟨by rw [HX.out]; rfl, hE⟩
end Go.Proofs.YtpcgpcjleedilaaGreatDoor

/- Walks over a value's tree that only read: the reference's Parts, Deep; Same. -/
open Go.RowKit Go.Shelf
namespace Go.Proofs.YtpcgpcjleedilaaGreatDoor
open Go Go.Proofs Fm

set_option maxRecDepth 100000 in
set_option maxHeartbeats 2000000 in
theorem Few_any (t : Tr) (w : World) (v : Value) (h : Lies w t v) :
    Calls Tryz.prog 65 #[v] w fun e w' => e = .returned (.bool (decide (fewT 20 t ≤ 600))) ∧ Ext w w' := by
  cases h with
  | node k n s l a cap C hn hs h1 h2 h3 h4 h5 =>
  have HL := Lib.hid (Lies.node k n s l a cap C hn hs h1 h2 h3 h4 h5)
  clear hn hs h1 h2 h3 h4 h5
  have hle := fewT_le 20 (.node k n s l)
  go_enter Tryz.func65, Tryz.ntmps65
  go_wp2_with fail
  refine (few_any 20 20 (.node k n s l) _ _ (Lib.hid rfl) (HL.out.ext ((Ext.refl w).alloc _)) (by omega)).mono ?_
  rintro e w1 ⟨rfl, hE1⟩
  have hE2 := ((Ext.refl w).alloc _).trans hE1
  obtain ⟨N, hN⟩ : ∃ N, N = fewT 20 (.node k n s l) := ⟨_, rfl⟩
  rw [← hN] at hle ⊢
  have HX := Lib.hid (show decide (fewT 20 (.node k n s l) ≤ 600) = decide ((N : Int) ≤ 600) by rw [← hN]; simp only [decide_eq_decide]; omega)
  clear hE1 hN
  go_wp2
  go_ret
  exact ⟨by rw [HX.out]; rfl, hE2⟩

end Go.Proofs.YtpcgpcjleedilaaGreatDoor

/- Walks: plain, the reference's kinds, Right, Same. -/
open Go.RowKit Go.Shelf
namespace Go.Proofs.YtpcgpcjleedilaaGreatDoor
open Go Go.Proofs Fm

theorem str_toList (s : List UInt8) : (str s).toList = s := by rw [Lib.toList_data]; rfl
theorem u8_eq (k c : UInt8) : ((k.toNat : Int) == (c.toNat : Int)) = decide (k = c) := by
  rw [Bool.eq_iff_iff]
  simp only [beq_iff_eq, decide_eq_true_eq]
  exact ⟨fun h => UInt8.toNat_inj.1 (by omega), fun h => by rw [h]⟩
end Go.Proofs.YtpcgpcjleedilaaGreatDoor

/- Walks: the reference's kinds, Right, Same. -/
open Go.RowKit Go.Shelf
namespace Go.Proofs.YtpcgpcjleedilaaGreatDoor
open Go Go.Proofs Fm

end Go.Proofs.YtpcgpcjleedilaaGreatDoor

/- Walks: the reference's Same. -/
open Go.RowKit Go.Shelf
namespace Go.Proofs.YtpcgpcjleedilaaGreatDoor
open Go Go.Proofs Fm

theorem str_beq (s t : List UInt8) : ((str s).toList == (str t).toList) = decide (s = t) := by
  rw [str_toList, str_toList, Bool.eq_iff_iff]; simp

set_option maxRecDepth 100000 in
set_option maxHeartbeats 4000000 in
theorem rsame_any (t : Tr) : ∀ (u : Tr) (w : World) (v x : Value), Lies w t v → Lies w u x →
    Calls Tryz.prog 42 #[v, x] w fun e w' => e = .returned (.bool (eqT t u)) ∧ Ext w w' := by
  induction t using Tr.ind with
  | h k n s l ih =>
  intro u w v x hv hx
  cases hx with
  | node k' n' s' l' a' cap' C' hn' hs' h1' h2' h3' h4' h5' =>
  cases hv with
  | node _ _ _ _ a cap C hn hs h1 h2 h3 h4 h5 =>
  have H4 := Lib.hid h4; have H5 := Lib.hid h5
  have H4' := Lib.hid h4'; have H5' := Lib.hid h5'
  have hll : l.length ≤ 9223372036854775807 := by unfold maxLen at h2; omega
  have hll' : l'.length ≤ 9223372036854775807 := by unfold maxLen at h2'; omega
  have ek : ((k.toNat : Int) != (k'.toNat : Int)) = !decide (k = k') := by rw [bne, u8_eq]
  have es : ((str s).toList == (str s').toList) = decide (s = s') := str_beq s s'
  clear h3 h4 h5 hn h3' h4' h5' hn' h1 h2 h1' h2'
  generalize hK : (k.toNat : Int) = K at *
  generalize hK' : (k'.toNat : Int) = K' at *
  clear hK hK'
  by_cases hk : k = k'
  · have f0 : (K != K') = false := by rw [ek]; simpa using hk
    by_cases hn : n = n'
    · have f1 : (n != n') = false := by simpa using hn
      by_cases hs : s = s'
      · have f2 : ((str s).toList == (str s').toList) = true := by rw [es]; simpa using hs
        by_cases hl : l.length = l'.length
        · have f3 : ((l.length : Int) != (l'.length : Int)) = false := by rw [hl]; simp
          have HX : Hid ((l = l' → eqT (.node k n s l) (.node k' n' s' l') = true) ∧ (l ≠ l' → eqT (.node k n s l) (.node k' n' s' l') = false)) :=
            Lib.hid ⟨fun e => eqT_iff.2 (by rw [hk, hn, hs, e]), fun e => eqT_ne fun h => e (by injection h)⟩
          have HL := Lib.hid hl
          clear ek es hk hn hs hl
          go_enter Tryz.func42, Tryz.ntmps42
          go_wp2_with fail
          obtain ⟨-, -, -, m3, hsz⟩ := alloc4 w (.int .u8 K) (.int .i64 n) (.string (str s)) (.slice a l.length cap) 44
          have hE0 := (Ext.refl w).alloc (.cells #[.int .u8 K, .int .i64 n, .string (str s), .slice a l.length cap] 44)
          have hs1 : (w.alloc (.cells #[.int .u8 K, .int .i64 n, .string (str s), .slice a l.length cap] 44)).heap.size = w.heap.size + 1 := by simp
          generalize w.alloc (.cells #[.int .u8 K, .int .i64 n, .string (str s), .slice a l.length cap] 44) = W1 at *
          obtain ⟨-, -, -, m3', hsz'⟩ := alloc4 W1 (.int .u8 K') (.int .i64 n') (.string (str s')) (.slice a' l'.length cap') 44
          have hE1 := (Ext.refl W1).alloc (.cells #[.int .u8 K', .int .i64 n', .string (str s'), .slice a' l'.length cap'] 44)
          generalize W1.alloc (.cells #[.int .u8 K', .int .i64 n', .string (str s'), .slice a' l'.length cap'] 44) = W2 at *
          have m3 := (hE1.cell (p := ⟨w.heap.size, 3, none⟩) hsz).trans m3
          have hE2 := hE0.trans hE1
          have hsz2 : w.heap.size < W2.heap.size := Nat.lt_of_lt_of_le hsz hE1.size
          rw [hs1] at m3' hsz'
          clear hE0 hE1 hsz hs1 f0 f1 f2 f3
          go_loopw [5] (fun i wr => ∃ j : Nat, j ≤ l.length ∧ i = .int .i64 j ∧ Hid (l.take j = l'.take j) ∧ Ext W2 wr) (fun i _ => l.length - (intOf i).toNat)
          case atStart => exact ⟨0, by omega, rfl, by simp [Hid], Ext.refl _⟩
          case round =>
            obtain ⟨j, hj, rfl, HA, hE'⟩ := hrel
            have hE := hE2.trans hE'
            have q3 := (hE'.cell (p := ⟨w.heap.size, 3, none⟩) hsz2).trans m3
            have q3' := (hE'.cell (p := ⟨w.heap.size + 1, 3, none⟩) hsz').trans m3'
            by_cases hlt : j < l.length
            · obtain ⟨b, off, rfl, hb, hc⟩ := H4.out (by omega)
              have hlt' : j < l'.length := by have := HL.out; omega
              obtain ⟨b', off', rfl, hb', hc'⟩ := H4'.out (by omega)
              obtain ⟨k0, n0, s0, a0, m0, c0, e0, e1, e2, e3, hx⟩ := elem4 hE hb hc H5.out j hlt
              obtain ⟨k1, n1, s1, a1, m1, c1, g0, g1, g2, g3, hx'⟩ := elem4 hE hb' hc' H5'.out j hlt'
              go_wp2_with fail
              go_still_tail 10, (by kernel_rfl)
              change wpList _ _ _ _ _ wr.drew
              have hx := hx.ext ((Ext.refl wr).drew)
              have hx' := hx'.ext ((Ext.refl wr).drew)
              have hE := hE.drew
              have hE' := hE'.drew
              generalize wr.drew = wd at *
              go_wp2_with fail
              refine (ih _ (List.getElem_mem hlt) _ _ _ _ hx hx').mono ?_
              rintro e w1 ⟨rfl, hE1⟩
              have hE3 := hE'.trans hE1
              have hE4 := hE.trans hE1
              cases hkx : eqT l[j] l'[j] with
              | true =>
                have HA2 := Lib.hid (take_same hlt hlt' HA.out (eqT_iff.1 hkx))
                clear hE1 e0 e1 e2 e3 hx hb hc HA hkx g0 g1 g2 g3 hx' hb' hc'
                go_wp2
                go_roundw
                case rel => exact ⟨j + 1, by omega, by go_num, HA2, hE3⟩
                case measure => simp [intOf]; omega
              | false =>
                have HA2 := Lib.hid (HX.out.2 (fun e => by subst e; rw [eqT_self] at hkx; cases hkx))
                clear hE1 e0 e1 e2 e3 hx hb hc HA hkx g0 g1 g2 g3 hx' hb' hc'
                go_wp2
                go_ret
                exact ⟨by rw [HA2.out]; rfl, hE4⟩
            · have hj' : j = l.length := by omega
              have HA2 := Lib.hid (HX.out.1 (by have := HA.out; rw [hj', List.take_length, HL.out, List.take_length] at this; exact this))
              clear hj'
              go_wp2
              go_ret
              exact ⟨by rw [HA2.out]; rfl, hE⟩
        · have HX := Lib.hid (eqT_ne (t := .node k n s l) (u := .node k' n' s' l') (fun e => hl (by injection e; congr 1)))
          have f3 : ((l.length : Int) != (l'.length : Int)) = true := by rw [bne, Bool.not_eq_true']; simp; omega
          clear ek es hk hn hs hl H4 H5 H4' H5' ih
          go_enter Tryz.func42, Tryz.ntmps42
          go_wp2
          go_ret
          exact ⟨by rw [HX.out]; rfl, ((Ext.refl w).alloc _).alloc _⟩
      · have HX := Lib.hid (eqT_ne (t := .node k n s l) (u := .node k' n' s' l') (fun e => hs (by injection e)))
        have f2 : ((str s).toList == (str s').toList) = false := by rw [es]; simpa using hs
        clear ek es hk hn hs H4 H5 H4' H5' ih
        go_enter Tryz.func42, Tryz.ntmps42
        go_wp2
        go_ret
        exact ⟨by rw [HX.out]; rfl, ((Ext.refl w).alloc _).alloc _⟩
    · have HX := Lib.hid (eqT_ne (t := .node k n s l) (u := .node k' n' s' l') (fun e => hn (by injection e)))
      have f1 : (n != n') = true := by simpa using hn
      clear ek es hk hn H4 H5 H4' H5' ih
      go_enter Tryz.func42, Tryz.ntmps42
      go_wp2
      go_ret
      exact ⟨by rw [HX.out]; rfl, ((Ext.refl w).alloc _).alloc _⟩
  · have HX := Lib.hid (eqT_ne (t := .node k n s l) (u := .node k' n' s' l') (fun e => hk (by injection e)))
    have f0 : (K != K') = true := by rw [ek]; simpa using hk
    clear ek es hk H4 H5 H4' H5' ih
    go_enter Tryz.func42, Tryz.ntmps42
    go_wp2
    go_ret
    exact ⟨by rw [HX.out]; rfl, ((Ext.refl w).alloc _).alloc _⟩
end Go.Proofs.YtpcgpcjleedilaaGreatDoor

/- Walks: Same by slices.EqualFunc. -/
open Go.RowKit Go.Shelf
namespace Go.Proofs.YtpcgpcjleedilaaGreatDoor
open Go Go.Proofs Fm

set_option maxRecDepth 100000 in
set_option maxHeartbeats 4000000 in
theorem equalF_any (l l' : List Tr) (ih : ∀ t, t ∈ l → ∀ (u : Tr) (w : World) (v x : Value), Lies w t v → Lies w u x → Calls Tryz.prog 45 #[v, x] w fun e w' => e = .returned (.bool (eqT t u)) ∧ Ext w w')
    (w : World) (v x : Value) (hv : LiesS w l v) (hx : LiesS w l' x) :
    Calls Tryz.prog 74 #[v, x, .func (.func 45) #[] #[]] w fun e w' => ∃ b, e = .returned (.bool b) ∧ (b = true ↔ l = l') ∧ Ext w w' := by
  obtain ⟨a, cap, rfl, h1, h2, h3, C, h4, h5⟩ := hv
  obtain ⟨a', cap', rfl, h1', h2', h3', C', h4', h5'⟩ := hx
  have H4 := Lib.hid h4; have H5 := Lib.hid h5
  have H4' := Lib.hid h4'; have H5' := Lib.hid h5'
  have hll : l.length ≤ 9223372036854775807 := by unfold maxLen at h2; omega
  have hll' : l'.length ≤ 9223372036854775807 := by unfold maxLen at h2'; omega
  clear h3 h4 h5 h3' h4' h5' h1 h2 h1' h2'
  by_cases hl : l.length = l'.length
  · have f3 : ((l.length : Int) != (l'.length : Int)) = false := by rw [hl]; simp
    have HL := Lib.hid hl
    clear hl
    go_enter Tryz.func74, Tryz.ntmps74
    go_wp2_with fail
    clear f3
    go_loopw [17] (fun i wr => ∃ j : Nat, j ≤ l.length ∧ i = .int .i64 j ∧ Hid (l.take j = l'.take j) ∧ Ext w wr) (fun i _ => l.length - (intOf i).toNat)
    case atStart => exact ⟨0, by omega, rfl, by simp [Hid], Ext.refl _⟩
    case round =>
      obtain ⟨j, hj, rfl, HA, hE⟩ := hrel
      by_cases hlt : j < l.length
      · obtain ⟨b, off, rfl, hb, hc⟩ := H4.out (by omega)
        have hlt' : j < l'.length := by have := HL.out; omega
        obtain ⟨b', off', rfl, hb', hc'⟩ := H4'.out (by omega)
        obtain ⟨k0, n0, s0, a0, m0, c0, e0, e1, e2, e3, hx⟩ := elem4 hE hb hc H5.out j hlt
        obtain ⟨k1, n1, s1, a1, m1, c1, g0, g1, g2, g3, hx'⟩ := elem4 hE hb' hc' H5'.out j hlt'
        have hz := Nat.lt_of_lt_of_le hb hE.size
        have hz' := Nat.lt_of_lt_of_le hb' hE.size
        go_wp2_with fail
        refine (ih _ (List.getElem_mem hlt) _ _ _ _ (hx.ext (((Ext.refl wr).alloc _).alloc _)) (hx'.ext (((Ext.refl wr).alloc _).alloc _))).mono ?_
        rintro e w1 ⟨rfl, hE1⟩
        have hE3 := ((hE.alloc _).alloc _).trans hE1
        cases hkx : eqT l[j] l'[j] with
        | true =>
          have HA2 := Lib.hid (take_same hlt hlt' HA.out (eqT_iff.1 hkx))
          clear hE1 e0 e1 e2 e3 hx hb hc HA hkx g0 g1 g2 g3 hx' hb' hc'
          go_wp2
          go_roundw
          case rel => exact ⟨j + 1, by omega, by go_num, HA2, hE3⟩
          case measure => simp [intOf]; omega
        | false =>
          have HA2 := Lib.hid (show ¬ l = l' from fun e => by subst e; rw [eqT_self] at hkx; cases hkx)
          clear hE1 e0 e1 e2 e3 hx hb hc HA hkx g0 g1 g2 g3 hx' hb' hc'
          go_wp2
          go_ret
          exact ⟨false, rfl, by simp [HA2.out], hE3⟩
      · have hj' : j = l.length := by omega
        have HA2 : Hid (l = l') := by have := HA.out; rw [hj', List.take_length, HL.out, List.take_length] at this; exact this
        clear hj'
        go_wp2
        go_ret
        exact ⟨true, rfl, by simp [HA2.out], hE⟩
  · have f3 : ((l.length : Int) != (l'.length : Int)) = true := by rw [bne, Bool.not_eq_true']; simp; omega
    have HX := Lib.hid (show ¬ l = l' from fun e => hl (by rw [e]))
    clear hl H4 H5 H4' H5' ih
    go_enter Tryz.func74, Tryz.ntmps74
    go_wp2
    go_ret
    exact ⟨false, rfl, by simp [HX.out], Ext.refl w⟩

set_option maxRecDepth 100000 in
set_option maxHeartbeats 4000000 in
theorem vsame_any (t : Tr) : ∀ (u : Tr) (w : World) (v x : Value), Lies w t v → Lies w u x →
    Calls Tryz.prog 45 #[v, x] w fun e w' => e = .returned (.bool (eqT t u)) ∧ Ext w w' := by
  induction t using Tr.ind with
  | h k n s l ih =>
  intro u w v x hv hx
  cases hx with
  | node k' n' s' l' a' cap' C' hn' hs' h1' h2' h3' h4' h5' =>
  cases hv with
  | node _ _ _ _ a cap C hn hs h1 h2 h3 h4 h5 =>
  have H4 := Lib.hid h4; have H5 := Lib.hid h5
  have H4' := Lib.hid h4'; have H5' := Lib.hid h5'
  have hll : l.length ≤ 9223372036854775807 := by unfold maxLen at h2; omega
  have hll' : l'.length ≤ 9223372036854775807 := by unfold maxLen at h2'; omega
  have HS : Hid (LiesS w l (.slice a l.length cap)) := Lib.hid ⟨a, cap, rfl, h1, h2, h3, C, h4, h5⟩
  have HS' : Hid (LiesS w l' (.slice a' l'.length cap')) := Lib.hid ⟨a', cap', rfl, h1', h2', h3', C', h4', h5'⟩
  have ek : ((k.toNat : Int) == (k'.toNat : Int)) = decide (k = k') := by rw [u8_eq]
  have es : ((str s).toList == (str s').toList) = decide (s = s') := str_beq s s'
  clear h3 h4 h5 hn h3' h4' h5' hn' h1 h2 h1' h2'
  generalize hK : (k.toNat : Int) = K at *
  generalize hK' : (k'.toNat : Int) = K' at *
  clear hK hK'
  by_cases hk : k = k'
  · have f0 : (K == K') = true := by rw [ek]; simpa using hk
    by_cases hn : n = n'
    · have f1 : (n == n') = true := by simpa using hn
      by_cases hs : s = s'
      · have f2 : ((str s).toList == (str s').toList) = true := by rw [es]; simpa using hs
        have HX : Hid ((l = l' → eqT (.node k n s l) (.node k' n' s' l') = true) ∧ (l ≠ l' → eqT (.node k n s l) (.node k' n' s' l') = false)) :=
            Lib.hid ⟨fun e => eqT_iff.2 (by rw [hk, hn, hs, e]), fun e => eqT_ne fun h => e (by injection h)⟩
        clear ek es hk hn hs H4 H5 H4' H5'
        go_enter Tryz.func45, Tryz.ntmps45
        go_wp2_with fail
        refine (equalF_any l l' ih _ _ _ (LiesS.ext (((Ext.refl w).alloc _).alloc _) HS.out) (LiesS.ext (((Ext.refl w).alloc _).alloc _) HS'.out)).mono ?_
        rintro e w1 ⟨b, rfl, hb, hE1⟩
        have hE2 := (((Ext.refl w).alloc _).alloc _).trans hE1
        have HX2 : Hid (eqT (.node k n s l) (.node k' n' s' l') = b) := Lib.hid (by
          cases b with
          | true => exact HX.out.1 (hb.1 rfl)
          | false => exact HX.out.2 (fun e => by have := hb.2 e; cases this))
        clear hE1 HX hb
        go_wp2
        go_ret
        exact ⟨by rw [HX2.out]; rfl, hE2⟩
      · have HX := Lib.hid (eqT_ne (t := .node k n s l) (u := .node k' n' s' l') (fun e => hs (by injection e)))
        have f2 : ((str s).toList == (str s').toList) = false := by rw [es]; simpa using hs
        clear ek es hk hn hs H4 H5 H4' H5' ih
        go_enter Tryz.func45, Tryz.ntmps45
        go_wp2
        go_ret
        exact ⟨by rw [HX.out]; rfl, ((Ext.refl w).alloc _).alloc _⟩
    · have HX := Lib.hid (eqT_ne (t := .node k n s l) (u := .node k' n' s' l') (fun e => hn (by injection e)))
      have f1 : (n == n') = false := by simpa using hn
      clear ek es hk hn H4 H5 H4' H5' ih
      go_enter Tryz.func45, Tryz.ntmps45
      go_wp2
      go_ret
      exact ⟨by rw [HX.out]; rfl, ((Ext.refl w).alloc _).alloc _⟩
  · have HX := Lib.hid (eqT_ne (t := .node k n s l) (u := .node k' n' s' l') (fun e => hk (by injection e)))
    have f0 : (K == K') = false := by rw [ek]; simpa using hk
    clear ek es hk H4 H5 H4' H5' ih
    go_enter Tryz.func45, Tryz.ntmps45
    go_wp2
    go_ret
    exact ⟨by rw [HX.out]; rfl, ((Ext.refl w).alloc _).alloc _⟩
end Go.Proofs.YtpcgpcjleedilaaGreatDoor

/- Walks: Put. -/
open Go.RowKit Go.Shelf
namespace Go.Proofs.YtpcgpcjleedilaaGreatDoor
open Go Go.Proofs Fm

end Go.Proofs.YtpcgpcjleedilaaGreatDoor

open Go.RowKit Go.Shelf
namespace Go.Proofs.YtpcgpcjleedilaaGreatDoor
open Go Go.Proofs Fm

theorem trim_let (s : List UInt8) (hs : s.length ≤ 9223372036854775807) (w : World) :
    Calls Tryz.prog 80 #[.string (str s), .string { data := #[97, 98, 99, 100, 101, 102, 103, 104, 105, 106, 107, 108, 109, 110, 111, 112, 113, 114, 115, 116, 117, 118, 119, 120, 121, 122, 48, 49, 50, 51, 52, 53, 54, 55, 56, 57, 95] }] w fun e w' => e = .returned (.string (str (Lib.trimS s letL))) ∧ Ext w w' := by
  have h := Tryz.strings_Trim_any (str s) { data := #[97, 98, 99, 100, 101, 102, 103, 104, 105, 106, 107, 108, 109, 110, 111, 112, 113, 114, 115, 116, 117, 118, 119, 120, 121, 122, 48, 49, 50, 51, 52, 53, 54, 55, 56, 57, 95] } w (by rw [str_size]; exact hs) (by decide) (ascii_of_all (by decide +kernel))
  rw [str_list] at h
  exact h

set_option maxHeartbeats 1000000 in
theorem name_any (s : List UInt8) (hs : s.length ≤ 9223372036854775807) (w : World) :
    Calls Tryz.prog 54 #[.string (str s)] w fun e w' => e = .returned (.bool (nameB s)) ∧ Ext w w' := by
  have hss := str_size s
  by_cases h1 : 1 ≤ s.length
  case neg =>
    have HX := Lib.hid (nameB_short h1)
    have h1' : ¬ (1 : Int) ≤ (s.length : Int) := by omega
    go_enter Tryz.func54, Tryz.ntmps54
    go_wp2
    go_ret
    exact ⟨by rw [HX.out]; rfl, Ext.refl w⟩
  have h1' : (1 : Int) ≤ (s.length : Int) := by omega
  by_cases h2 : s.length ≤ 20
  case neg =>
    have HX := Lib.hid (nameB_long h2)
    have h2' : ¬ (s.length : Int) ≤ 20 := by omega
    go_enter Tryz.func54, Tryz.ntmps54
    go_wp2
    go_ret
    exact ⟨by rw [HX.out]; rfl, Ext.refl w⟩
  have h2' : (s.length : Int) ≤ 20 := by omega
  have HX := Lib.hid (nameB_all h1 h2)
  have HN := Lib.hid (trim_nil s)
  go_enter Tryz.func54, Tryz.ntmps54
  go_wp2_with fail
  refine (trim_let s hs w).mono ?_
  rintro e w1 ⟨rfl, hE⟩
  cases ha : s.all letB with
  | true =>
    rw [HN.out.2 ha]
    have HA := Lib.hid ha
    have e1 : (str []).toList = ([] : List UInt8) := str_toList []
    clear ha
    go_wp2
    go_ret
    exact ⟨by rw [HX.out, HA.out]; simp_all, hE⟩
  | false =>
    obtain ⟨T, hT⟩ : ∃ T, T = Lib.trimS s letL := ⟨_, rfl⟩
    have hT0 : T ≠ [] := by rw [hT]; intro h; rw [HN.out.1 h] at ha; cases ha
    rw [← hT]
    have HA := Lib.hid ha
    have e1 : (str T).toList = T := str_toList T
    have e2 : T.isEmpty = false := by cases T with | nil => exact absurd rfl hT0 | cons _ _ => rfl
    clear ha hT
    go_wp2
    go_ret
    exact ⟨by rw [HX.out, HA.out]; simp_all, hE⟩

set_option maxHeartbeats 2000000 in
theorem rname_any (s : List UInt8) (hs : s.length ≤ 9223372036854775807) (w : World) :
    Calls Tryz.prog 57 #[.string (str s)] w fun e w' => e = .returned (.bool (nameB s)) ∧ w = w' := by
  have hss := str_size s
  go_enter Tryz.func57, Tryz.ntmps57
  go_wp2_with fail
  go_loop [3] (fun i => ∃ j : Nat, j ≤ s.length ∧ i = .int .i64 j ∧ Hid ((s.take j).all letB = true)) (fun i => s.length - (intOf i).toNat)
  case atStart => exact ⟨0, by omega, rfl, Lib.hid (by simp)⟩
  case round =>
    obtain ⟨j, hj, rfl, HA⟩ := hrel
    by_cases hlt : j < s.length
    · obtain ⟨x, hx⟩ : ∃ x, x = s[j]?.getD 0 := ⟨_, rfl⟩
      have hxs : x = s[j] := by rw [hx]; simp [hlt]
      have hix := run_index_str (P := Tryz.prog) Tryz.underlying9 s j hlt
      rw [← hx] at hix
      have HI := Lib.hid hxs
      clear hx hxs
      cases hb : letB x with
      | true =>
        have HB := Lib.hid hb
        unfold letB at hb
        simp only [Bool.or_eq_true, Bool.and_eq_true, decide_eq_true_eq] at hb
        generalize hz : (x.toNat : Int) = z at *
        have hz2 : (97 ≤ z ∧ z ≤ 122) ∨ (48 ≤ z ∧ z ≤ 57) ∨ z = 95 := by omega
        clear hb hz
        rcases hz2 with ⟨z1, z2⟩ | ⟨z1, z2⟩ | hz95
        case' inl => skip
        case' inr.inl =>
          have z3 : ¬ 97 ≤ z := by omega
        case' inr.inr =>
          have z3 : ¬ 97 ≤ z := by omega
          have z4 : 48 ≤ z := by omega
          have z5 : ¬ z ≤ 57 := by omega
          have z6 : (z == 95) = true := by simp [hz95]
          clear hz95
        all_goals
          go_wp2
          go_round
          case rel => exact ⟨j + 1, by omega, by go_num, Lib.hid (all_at hlt HA.out (by rw [← HI.out]; exact HB.out))⟩
          case measure => simp [intOf]; omega
      | false =>
        have HB := Lib.hid (show nameB s = false by
          unfold nameB; rw [all_not hlt (by rw [← HI.out]; exact hb)]; rfl)
        unfold letB at hb
        simp only [Bool.or_eq_false_iff, Bool.and_eq_false_iff, decide_eq_false_iff_not] at hb
        generalize hz : (x.toNat : Int) = z at *
        have hz2 : (z < 97 ∨ 122 < z) ∧ (z < 48 ∨ 57 < z) ∧ (z == 95) = false := by
          refine ⟨by omega, by omega, ?_⟩
          simp; omega
        clear hb hz HA HI
        obtain ⟨ha, hb, hc⟩ := hz2
        by_cases k1 : 97 ≤ z
        case' pos =>
          have k2 : ¬ z ≤ 122 := by omega
          have k3 : 48 ≤ z := by omega
          have k4 : ¬ z ≤ 57 := by omega
        case' neg =>
          by_cases k3 : 48 ≤ z
          case' pos =>
            have k4 : ¬ z ≤ 57 := by omega
        all_goals
          clear ha hb
          go_wp2
          go_ret
          exact ⟨by rw [HB.out]; rfl, rfl⟩
    · have hjl : j = s.length := by omega
      have HA2 := Lib.hid (show s.all letB = true by have := HA.out; rwa [hjl, List.take_length] at this)
      clear HA
      by_cases h1 : 1 ≤ s.length
      case neg =>
        have HX := Lib.hid (nameB_short h1)
        have h1' : ¬ (1 : Int) ≤ (s.length : Int) := by omega
        clear hjl
        go_wp2
        go_ret
        exact ⟨by rw [HX.out]; rfl, rfl⟩
      have h1' : (1 : Int) ≤ (s.length : Int) := by omega
      by_cases h2 : s.length ≤ 20
      case neg =>
        have HX := Lib.hid (nameB_long h2)
        have h2' : ¬ (s.length : Int) ≤ 20 := by omega
        clear hjl
        go_wp2
        go_ret
        exact ⟨by rw [HX.out]; rfl, rfl⟩
      have h2' : (s.length : Int) ≤ 20 := by omega
      have HX := Lib.hid ((nameB_all h1 h2).trans HA2.out)
      clear hjl
      go_wp2
      go_ret
      exact ⟨by rw [HX.out]; rfl, rfl⟩
end Go.Proofs.YtpcgpcjleedilaaGreatDoor

/- Walks: slices.IndexFunc, ContainsFunc at []string and []api.Item. -/
open Go.RowKit Go.Shelf
namespace Go.Proofs.YtpcgpcjleedilaaGreatDoor
open Go Go.Proofs Fm

end Go.Proofs.YtpcgpcjleedilaaGreatDoor

/- Walks of package frag: fits, Right; the reference's item, Right. -/
open Go.RowKit Go.Shelf
namespace Go.Proofs.YtpcgpcjleedilaaGreatDoor
open Go Go.Proofs Fm

end Go.Proofs.YtpcgpcjleedilaaGreatDoor

open Go.RowKit Go.Shelf
namespace Go.Proofs.YtpcgpcjleedilaaGreatDoor
open Go Go.Proofs Fm

set_option maxRecDepth 100000 in
set_option maxHeartbeats 1000000 in
theorem indexSp_inv (l : List Stp) (f : FuncId) (eg : ∀ args w, (callFunc f args).run Tryz.prog w = .ok (.enter f args) w) (caps : Array Value) (q : Nat → Bool) (J : Nat → World → Prop) (w : World) (v : Value) (h : stpE.Row w l v) (hJ : ∀ i w', J i w' → Ext w w') (h0 : J 0 w)
    (hf : ∀ i (hi : i < l.length) w', J i w' → (∀ j, j < i → q j = false) → stpWf l[i] → Calls Tryz.prog f (#[.agg #[.string (str l[i].name), .int .i64 l[i].place]] ++ caps) w' fun e w'' => e = .returned (.bool (q i)) ∧ J (i + 1) w'') :
    Calls Tryz.prog 81 #[v, .func (.func f) #[] caps] w (IdxPost l.length q J) := by
  obtain ⟨a, c, rfl, hlc, hcm⟩ := h.slice
  have HR := Lib.hid h
  have HF := Lib.hid hf
  have HJ := Lib.hid hJ
  have hlm : l.length ≤ 9223372036854775807 := by omega
  clear h hf hJ
  go_enter Tryz.func81, Tryz.ntmps81
  go_wp2_with fail
  go_loopw [8] (fun i wr => ∃ j : Nat, j ≤ l.length ∧ i = .int .i64 j ∧ Hid (J j wr) ∧ Hid (∀ k, k < j → q k = false)) (fun i _ => l.length - (intOf i).toNat)
  case atStart => exact ⟨0, by omega, rfl, Lib.hid h0, Lib.hid (fun k hk => by omega)⟩
  case round =>
    clear h0
    obtain ⟨j, hj, rfl, HJj, HQ⟩ := hrel
    by_cases hlt : j < l.length
    · obtain ⟨b, off, rfl, hb, c0, c1, hs⟩ := stp_at HR.out (HJ.out _ _ HJj.out) j hlt
      have HS := Lib.hid hs
      clear hs
      go_wp2_with fail
      refine (HF.out j hlt wr HJj.out HQ.out HS.out).mono ?_
      rintro e w1 ⟨rfl, hJ1⟩
      have HJ1 := Lib.hid hJ1
      clear hJ1 c0 c1
      cases hq : q j with
      | true =>
        have HX : Hid (IdxPost l.length q J (.returned (.int .i64 (j : Int))) w1) := Lib.hid (.inl ⟨j, hlt, hq, HQ.out, rfl, HJ1.out⟩)
        clear hq
        go_wp2
        go_ret
        exact HX.out
      | false =>
        have HQ1 : Hid (∀ k, k < j + 1 → q k = false) := Lib.hid (fun k hk => by
          by_cases h : k = j
          · rw [h]; exact hq
          · exact HQ.out k (by omega))
        clear hq
        go_wp2
        go_roundw
        case rel => exact ⟨j + 1, by omega, by go_num, HJ1, HQ1⟩
        case measure => simp [intOf]; omega
    · obtain rfl : j = l.length := by omega
      have HX : Hid (IdxPost l.length q J (.returned (.int .i64 (-1))) wr) := Lib.hid (.inr ⟨HQ.out, rfl, HJj.out⟩)
      go_wp2
      go_ret
      exact HX.out
set_option maxRecDepth 100000 in
set_option maxHeartbeats 1000000 in
theorem hasSp_inv (l : List Stp) (f : FuncId) (eg : ∀ args w, (callFunc f args).run Tryz.prog w = .ok (.enter f args) w) (caps : Array Value) (q : Nat → Bool) (J : Nat → World → Prop) (w : World) (v : Value) (h : stpE.Row w l v) (hJ : ∀ i w', J i w' → Ext w w') (h0 : J 0 w)
    (hf : ∀ i (hi : i < l.length) w', J i w' → (∀ j, j < i → q j = false) → stpWf l[i] → Calls Tryz.prog f (#[.agg #[.string (str l[i].name), .int .i64 l[i].place]] ++ caps) w' fun e w'' => e = .returned (.bool (q i)) ∧ J (i + 1) w'') :
    Calls Tryz.prog 56 #[v, .func (.func f) #[] caps] w (HasPost l.length q J) := by
  have hC := indexSp_inv l f eg caps q J w v h hJ h0 hf
  obtain ⟨a, c, rfl, hlc, hcm⟩ := h.slice
  have HC := Lib.hid hC
  clear h hf hJ hC h0
  go_enter Tryz.func56, Tryz.ntmps56
  go_wp2_with fail
  refine HC.out.mono ?_
  rintro e w1 (⟨i, hi, h1, h2, rfl, h3⟩ | ⟨h1, rfl, h3⟩)
  · have HX : Hid (HasPost l.length q J (.returned (.bool true)) w1) := Lib.hid (.inl ⟨i, hi, h1, h2, rfl, h3⟩)
    clear h1 h2 h3
    have h0 : (0 : Int) ≤ (i : Int) := by omega
    go_wp2
    go_ret
    exact HX.out
  · have HX : Hid (HasPost l.length q J (.returned (.bool false)) w1) := Lib.hid (.inr ⟨h1, rfl, h3⟩)
    clear h1 h3
    go_wp2
    go_ret
    exact HX.out
/-- Where the world only grows. -/
theorem hasSp_any (l : List Stp) (f : FuncId) (eg : ∀ args w, (callFunc f args).run Tryz.prog w = .ok (.enter f args) w) (caps : Array Value) (q : Nat → Bool) (w : World) (v : Value) (h : stpE.Row w l v)
    (hf : ∀ i (hi : i < l.length) w', Ext w w' → stpWf l[i] → Calls Tryz.prog f (#[.agg #[.string (str l[i].name), .int .i64 l[i].place]] ++ caps) w' fun e w'' => e = .returned (.bool (q i)) ∧ Ext w' w'') :
    Calls Tryz.prog 56 #[v, .func (.func f) #[] caps] w fun e w' => ∃ b, e = .returned (.bool b) ∧ (b = true ↔ ∃ i, i < l.length ∧ q i = true) ∧ Ext w w' := by
  refine (hasSp_inv l f eg caps q (fun _ => Ext w) w v h (fun _ _ h => h) (Ext.refl w) (fun i hi w' hE _ hs => (hf i hi w' hE hs).mono fun e w'' ⟨a, b⟩ => ⟨a, hE.trans b⟩)).mono ?_
  rintro e w' (⟨i, hi, h1, h2, rfl, hE⟩ | ⟨h1, rfl, hE⟩)
  · exact ⟨true, rfl, ⟨fun _ => ⟨i, hi, h1⟩, fun _ => rfl⟩, hE⟩
  · exact ⟨false, rfl, ⟨(fun h => by cases h), (fun ⟨i, hi, h⟩ => by rw [h1 i hi] at h; cases h)⟩, hE⟩
end Go.Proofs.YtpcgpcjleedilaaGreatDoor

open Go.RowKit Go.Shelf
namespace Go.Proofs.YtpcgpcjleedilaaGreatDoor
open Go Go.Proofs Fm

theorem idMay_any (n : Int) (w : World) : Calls Tryz.prog 55 #[.int .i64 n] w fun e w' => e = .returned (.bool (mayB n)) ∧ w = w' := by
  have HX := Lib.hid (show mayB n = (decide (0 ≤ n) && decide (n ≤ 999999)) from rfl)
  by_cases h1 : 0 ≤ n
  · have k1 := Lib.hid (decide_eq_true h1)
    by_cases h2 : n ≤ 999999
    · have k2 := Lib.hid (decide_eq_true h2)
      go_enter Tryz.func55, Tryz.ntmps55
      go_wp2
      go_ret
      exact ⟨by rw [HX.out, k1.out, k2.out]; rfl, rfl⟩
    · have k2 := Lib.hid (decide_eq_false h2)
      have h3 : 999999 < n := by omega
      go_enter Tryz.func55, Tryz.ntmps55
      go_wp2
      go_ret
      exact ⟨by rw [HX.out, k1.out, k2.out]; rfl, rfl⟩
  · have k1 := Lib.hid (decide_eq_false h1)
    have h3 : n < 0 := by omega
    go_enter Tryz.func55, Tryz.ntmps55
    go_wp2
    go_ret
    exact ⟨by rw [HX.out, k1.out]; rfl, rfl⟩
set_option maxHeartbeats 1000000 in
theorem idWrong_any (x : Stp) (hx : stpWf x) (w : World) :
    Calls Tryz.prog 53 #[.agg #[.string (str x.name), .int .i64 x.place]] w fun e w' => e = .returned (.bool (!stpB x)) ∧ Ext w w' := by
  have HX := Lib.hid (show stpB x = (nameB x.name && (decide (x.place = -1) || mayB x.place)) from rfl)
  have hn := hx.1
  have HE0 := Lib.hid ((Ext.refl w).alloc (.cells #[.string (str x.name), .int .i64 x.place] 27))
  have hb := BoxL.new w [.string (str x.name), .int .i64 x.place] 27
  go_enter Tryz.func53, Tryz.ntmps53
  go_upto_region 1 with (fail)
  generalize w.alloc (.cells #[.string (str x.name), .int .i64 x.place] 27) = W1 at *
  have p0 := hb.cell 0 _ rfl
  have p1 := hb.cell 1 _ rfl
  have HB := Lib.hid hb
  clear hb
  go_wp2_with fail
  refine (name_any x.name hn W1).mono ?_
  rintro e w1 ⟨rfl, hE⟩
  have HE1 := Lib.hid (HE0.out.trans hE)
  have p0 := (HB.out.ext hE).cell 0 _ rfl
  have p1 := (HB.out.ext hE).cell 1 _ rfl
  clear hE HE0 HB
  cases hq : nameB x.name with
  | false =>
    have HY := Lib.hid (show stpB x = false by rw [HX.out, hq]; rfl)
    clear hq
    go_wp2
    go_ret
    exact ⟨by rw [HY.out]; rfl, HE1.out⟩
  | true =>
  by_cases hp : x.place = -1
  · have HY := Lib.hid (show stpB x = true by rw [HX.out, hq, decide_eq_true hp]; rfl)
    have ht : (x.place != -1) = false := by simp [hp]
    clear hq hp
    go_wp2
    go_ret
    exact ⟨by rw [HY.out]; rfl, HE1.out⟩
  · have HY := Lib.hid (show stpB x = mayB x.place by rw [HX.out, hq, decide_eq_false hp]; rfl)
    have ht : (x.place != -1) = true := by simp [hp]
    clear hq hp
    go_wp2_with fail
    refine (idMay_any x.place w1).mono ?_
    rintro e w2 ⟨rfl, rfl⟩
    go_wp2
    go_ret
    exact ⟨by rw [HY.out]; rfl, HE1.out⟩
theorem hasWrong_any (l : List Stp) (w : World) (v : Value) (h : stpE.Row w l v) :
    Calls Tryz.prog 56 #[v, .func (.func 53) #[] #[]] w fun e w' => e = .returned (.bool (!l.all stpB)) ∧ Ext w w' := by
  refine (hasSp_any l 53 Tryz.call53 #[] (fun i => if h : i < l.length then !stpB l[i] else false) w v h (fun i hi w' hE hs => ?_)).mono ?_
  · simp only [dif_pos hi]
    exact idWrong_any l[i] hs w'
  · rintro e w' ⟨b, rfl, hb, hE⟩
    refine ⟨?_, hE⟩
    congr 2
    rw [Bool.eq_iff_iff, hb, Bool.not_eq_true', ← Bool.not_eq_true, List.all_eq_true]
    constructor
    · rintro ⟨i, hi, hq⟩ h
      simp only [dif_pos hi] at hq
      rw [h _ (List.getElem_mem hi)] at hq
      cases hq
    · intro h
      rw [Classical.not_forall] at h
      obtain ⟨x, h⟩ := h
      rw [Classical.not_imp] at h
      obtain ⟨i, hi, rfl⟩ := List.getElem_of_mem h.1
      refine ⟨i, hi, ?_⟩
      simp only [dif_pos hi]
      simpa using h.2
set_option maxHeartbeats 1000000 in
theorem idRight_any (p : Pth) (w : World) (v : Value) (h : PthV w p v) :
    Calls Tryz.prog 13 #[v] w fun e w' => e = .returned (.bool (pthB p)) ∧ Ext w w' := by
  obtain ⟨a, m, c, rfl, hr, hi⟩ := h
  have HX := Lib.hid (show pthB p = (mayB p.flow && p.steps.all stpB) from rfl)
  have HE0 := Lib.hid ((Ext.refl w).alloc (.cells #[.int .i64 p.flow, .slice a m c] 24))
  have hb := BoxL.new w [.int .i64 p.flow, .slice a m c] 24
  have HR := Lib.hid (hr.ext HE0.out)
  clear hr
  go_enter Tryz.func13, Tryz.ntmps13
  go_wp2_with fail
  generalize w.alloc (.cells #[.int .i64 p.flow, .slice a m c] 24) = W1 at *
  have p0 := hb.cell 0 _ rfl
  have p1 := hb.cell 1 _ rfl
  clear hb
  refine (idMay_any p.flow _).mono ?_
  rintro e w1 ⟨rfl, rfl⟩
  cases hq : mayB p.flow with
  | false =>
    have HY := Lib.hid (show pthB p = false by rw [HX.out, hq]; rfl)
    clear hq
    go_wp2
    go_ret
    exact ⟨by rw [HY.out]; rfl, HE0.out⟩
  | true =>
    have HY := Lib.hid (show pthB p = p.steps.all stpB by rw [HX.out, hq]; rfl)
    clear hq
    go_wp2_with fail
    refine (hasWrong_any p.steps W1 _ HR.out).mono ?_
    rintro e w2 ⟨rfl, hE⟩
    have HE := Lib.hid (HE0.out.trans hE)
    clear hE
    go_wp2
    go_ret
    exact ⟨by rw [HY.out]; simp [go_sem], HE.out⟩
end Go.Proofs.YtpcgpcjleedilaaGreatDoor

namespace Go.Proofs
open Go.Shelf
def Tryz.lays166_ren : Go.Shelf.Ren := ⟨fun | 166 => 58 | 240 => 82 | 276 => 100 | n => n, fun | 0 => 0 | 3 => 3 | 4 => 4 | 9 => 9 | 20 => 20 | 37 => 66 | 70 => 88 | 72 => 90 | 75 => 92 | 164 => 132 | 5 => 5 | 80 => 96 | n => n, fun | n => n⟩
theorem Tryz.lays166 : Go.Proofs.Lays.n166 Tryz.prog Tryz.lays166_ren := {
  mixed := by kernel_rfl
  f166 := Tryz.func58.trans (congrArg some (by kernel_rfl))
  f240 := Tryz.func82.trans (congrArg some (by kernel_rfl))
  f276 := Tryz.func100.trans (congrArg some (by kernel_rfl))
  t0 := Tryz.underlying0
  a0 := Tryz.isAgg0
  z0 := Tryz.sizeOf0
  v0 := Tryz.zeroValue0
  t3 := Tryz.underlying3
  a3 := Tryz.isAgg3
  z3 := Tryz.sizeOf3
  v3 := Tryz.zeroValue3
  t4 := Tryz.underlying4
  a4 := Tryz.isAgg4
  z4 := Tryz.sizeOf4
  v4 := Tryz.zeroValue4
  t9 := Tryz.underlying9
  a9 := Tryz.isAgg9
  z9 := Tryz.sizeOf9
  v9 := Tryz.zeroValue9
  t20 := Tryz.underlying20
  a20 := Tryz.isAgg20
  z20 := Tryz.sizeOf20
  v20 := Tryz.zeroValue20
  t37 := Tryz.underlying66
  a37 := Tryz.isAgg66
  z37 := Tryz.sizeOf66
  v37 := Tryz.zeroValue66
  t70 := Tryz.underlying88
  a70 := Tryz.isAgg88
  z70 := Tryz.sizeOf88
  v70 := Tryz.zeroValue88
  t72 := Tryz.underlying90
  a72 := Tryz.isAgg90
  z72 := Tryz.sizeOf90
  v72 := Tryz.zeroValue90
  t75 := Tryz.underlying92
  a75 := Tryz.isAgg92
  z75 := Tryz.sizeOf92
  v75 := Tryz.zeroValue92
  t164 := Tryz.underlying132
  a164 := Tryz.isAgg132
  z164 := Tryz.sizeOf132
  v164 := Tryz.zeroValue132 }
theorem Tryz.Builder_Extra_166 : Builder.Extra Tryz.prog Tryz.lays166_ren := {
  sizeBuilder := by kernel_rfl
  liesBuilder := by kernel_rfl
  t5 := Tryz.underlying5
  a5 := Tryz.isAgg5
  z5 := Tryz.sizeOf5
  v5 := Tryz.zeroValue5
  infoByte := by kernel_rfl
  cellsByte := by kernel_rfl
  sizeByte := by kernel_rfl
  neB5 := by decide }
def Tryz.lays169_ren : Go.Shelf.Ren := ⟨fun | 169 => 60 | n => n, fun | 70 => 88 | 9 => 9 | 0 => 0 | 72 => 90 | 37 => 66 | 127 => 118 | 3 => 3 | 5 => 5 | n => n, fun | n => n⟩
theorem Tryz.lays169 : Go.Proofs.Lays.n169 Tryz.prog Tryz.lays169_ren := {
  mixed := by kernel_rfl
  f169 := Tryz.func60.trans (congrArg some (by kernel_rfl))
  t0 := Tryz.underlying0
  a0 := Tryz.isAgg0
  z0 := Tryz.sizeOf0
  v0 := Tryz.zeroValue0
  t3 := Tryz.underlying3
  a3 := Tryz.isAgg3
  z3 := Tryz.sizeOf3
  v3 := Tryz.zeroValue3
  t9 := Tryz.underlying9
  a9 := Tryz.isAgg9
  z9 := Tryz.sizeOf9
  v9 := Tryz.zeroValue9
  t37 := Tryz.underlying66
  a37 := Tryz.isAgg66
  z37 := Tryz.sizeOf66
  v37 := Tryz.zeroValue66
  t70 := Tryz.underlying88
  a70 := Tryz.isAgg88
  z70 := Tryz.sizeOf88
  v70 := Tryz.zeroValue88
  t72 := Tryz.underlying90
  a72 := Tryz.isAgg90
  z72 := Tryz.sizeOf90
  v72 := Tryz.zeroValue90
  t127 := Tryz.underlying118
  a127 := Tryz.isAgg118
  z127 := Tryz.sizeOf118
  v127 := Tryz.zeroValue118 }
theorem Tryz.Builder_Extra_169 : Builder.Extra Tryz.prog Tryz.lays169_ren := {
  sizeBuilder := by kernel_rfl
  liesBuilder := by kernel_rfl
  t5 := Tryz.underlying5
  a5 := Tryz.isAgg5
  z5 := Tryz.sizeOf5
  v5 := Tryz.zeroValue5
  infoByte := by kernel_rfl
  cellsByte := by kernel_rfl
  sizeByte := by kernel_rfl
  neB5 := by decide }
open Go.RowKit in
theorem Tryz.Builder_String_any (B b : Nat) (l : List UInt8) (w : World) (h : Lib.IsBuilder 90 5 B b (Lib.byteCells l) w) (hBw : B ≤ w.heap.size) :
    Calls Tryz.prog 60 #[.pointer (some ⟨b, 0, none⟩)] w fun e w' => e = .returned (.string ⟨l.toArray⟩) ∧ Below B w w' := Any.Builder_String_any Tryz.lays169 Tryz.Builder_Extra_169 B b l w h hBw
end Go.Proofs

open Go.RowKit Go.Shelf
namespace Go.Proofs.YtpcgpcjleedilaaGreatDoor
open Go Go.Proofs Fm

end Go.Proofs.YtpcgpcjleedilaaGreatDoor

/- Walks: Right, Bytes. -/
open Go.RowKit Go.Shelf
namespace Go.Proofs.YtpcgpcjleedilaaGreatDoor
open Go Go.Proofs Fm

end Go.Proofs.YtpcgpcjleedilaaGreatDoor

/- Walks: the reader's num and text. -/
open Go.RowKit Go.Shelf
namespace Go.Proofs.YtpcgpcjleedilaaGreatDoor
open Go Go.Proofs Fm

/-- The reader in block R: what is left, and how much room. -/
structure RdAt (w0 w : World) (R : Nat) (v : Value) (xs : List UInt8) (m : Int) : Prop where
  ext : Ext w0 w
  old : w0.heap.size ≤ R
  lt : R < w.heap.size
  c0 : w.cell? ⟨R, 0, none⟩ = some v
  c1 : w.cell? ⟨R, 1, none⟩ = some (.int .i64 m)
  f0 : w.frozen? ⟨R, 0, none⟩ = false
  f1 : w.frozen? ⟨R, 1, none⟩ = false
  bytes : Bytes w0 v xs
theorem RdAt.kept {w0 w w' : World} {R : Nat} {v : Value} {xs : List UInt8} {m : Int} (h : RdAt w0 w R v xs m) {row : Option Nat} (hg : w.grownBy w' row) (hr : ∀ k, row = some k → w0.heap.size ≤ k ∧ k ≠ R) : RdAt w0 w' R v xs m := by
  have hne : some R ≠ row := fun e => (hr R e.symm).2 rfl
  exact ⟨h.ext.grown hg (fun k hk => (hr k hk).1), h.old, Nat.lt_of_lt_of_le h.lt hg.size, (hg.cell_far ⟨R, 0, none⟩ h.lt hne).trans h.c0, (hg.cell_far ⟨R, 1, none⟩ h.lt hne).trans h.c1,
    (hg.frozen_far ⟨R, 0, none⟩ h.lt hne).trans h.f0, (hg.frozen_far ⟨R, 1, none⟩ h.lt hne).trans h.f1, h.bytes⟩
theorem RdAt.then {w0 w w' : World} {R : Nat} {v : Value} {xs : List UInt8} {m : Int} (h : RdAt w0 w R v xs m) (hE : Ext w w') : RdAt w0 w' R v xs m := h.kept hE.grownBy (fun k hk => by cases hk)
theorem grown_set (w : World) (R o : Nat) (u : Value) : w.grownBy (w.setCell ⟨R, o, none⟩ u) (some R) := ⟨rfl, rfl, rfl, by simp [World.setCell], fun k _ hk => Below.heap_setCell _ _ _ _ (fun e => hk (by simp [e]))⟩
end Go.Proofs.YtpcgpcjleedilaaGreatDoor

/- Walks: the reader's value. -/
open Go.RowKit Go.Shelf
namespace Go.Proofs.YtpcgpcjleedilaaGreatDoor
open Go Go.Proofs Fm

/-- A struct of four cells in a block of its own. -/
def Box4 (w : World) (b : Nat) (c0 c1 c2 c3 : Value) : Prop := w.heap[b]? = some (.cells #[c0, c1, c2, c3] 44 (0, 0))
theorem Box4.new (w : World) (c0 c1 c2 c3 : Value) : Box4 (w.alloc (.cells #[c0, c1, c2, c3] 44)) w.heap.size c0 c1 c2 c3 := heap_alloc_new w _
theorem Box4.lt {w : World} {b : Nat} {c0 c1 c2 c3 : Value} (h : Box4 w b c0 c1 c2 c3) : b < w.heap.size := (Array.getElem?_eq_some_iff.1 h).1
theorem Box4.kept {w w' : World} {b : Nat} {c0 c1 c2 c3 : Value} (h : Box4 w b c0 c1 c2 c3) {row : Option Nat} (hg : w.grownBy w' row) (hr : row ≠ some b) : Box4 w' b c0 c1 c2 c3 := (hg.block b h.lt (fun e => hr e.symm)).trans h
theorem Box4.ext {w w' : World} {b : Nat} {c0 c1 c2 c3 : Value} (h : Box4 w b c0 c1 c2 c3) (hE : Ext w w') : Box4 w' b c0 c1 c2 c3 := (hE.block b h.lt).trans h
theorem Box4.cells {w : World} {b : Nat} {c0 c1 c2 c3 : Value} (h : Box4 w b c0 c1 c2 c3) : w.cell? ⟨b, 0, none⟩ = some c0 ∧ w.cell? ⟨b, 1, none⟩ = some c1 ∧ w.cell? ⟨b, 2, none⟩ = some c2 ∧ w.cell? ⟨b, 3, none⟩ = some c3 := by
  unfold Box4 at h
  refine ⟨?_, ?_, ?_, ?_⟩ <;> simp [World.cell?, h]
theorem Box4.frozen {w : World} {b : Nat} {c0 c1 c2 c3 : Value} (h : Box4 w b c0 c1 c2 c3) : w.frozen? ⟨b, 0, none⟩ = false ∧ w.frozen? ⟨b, 1, none⟩ = false ∧ w.frozen? ⟨b, 2, none⟩ = false ∧ w.frozen? ⟨b, 3, none⟩ = false := by
  unfold Box4 at h
  refine ⟨?_, ?_, ?_, ?_⟩ <;> simp [World.frozen?, h]
/-- It tells a tree in memory of its own, and has read on. -/
def ValOK (w0 w : World) (R : Nat) (t : Tr) (xs : List UInt8) (m : Int) (e : Ending) (w' : World) : Prop :=
  ∃ v, e = .returned v ∧ (∃ v', RdAt w0 w' R v' xs m) ∧ w.grownBy w' (some R) ∧ OwnT 44 w' w.heap.size t v

end Go.Proofs.YtpcgpcjleedilaaGreatDoor

open Go.RowKit Go.Shelf
namespace Go.Proofs.YtpcgpcjleedilaaGreatDoor
open Go Go.Proofs Fm

theorem ValOK.two {w0 w : World} {R : Nat} {k : UInt8} {n : Int} {s : List UInt8} {l : List Tr} {xs : List UInt8} {m : Int} {e : Ending} {w' : World} (h : ValOK w0 w R (.node k n s l) xs m e w') :
    ∃ (a4 : Option Addr) (n4 c4 : Nat), e = .returned (.agg #[.int .u8 (k.toNat : Int), .int .i64 n, .string (str s), .slice a4 n4 c4]) ∧ (∃ v', RdAt w0 w' R v' xs m) ∧ w.grownBy w' (some R) ∧
      OwnT 44 w' w.heap.size (.node k n s l) (.agg #[.int .u8 (k.toNat : Int), .int .i64 n, .string (str s), .slice a4 n4 c4]) := by
  obtain ⟨v, he, h1, h2, F, h3⟩ := h
  obtain ⟨d, rfl, _, _, h4⟩ := h3.parts
  obtain ⟨a, c, rfl⟩ := h4.slice
  exact ⟨a, _, c, he, h1, h2, F, h3⟩

theorem info_val : (Tryz.prog.info? 44).map (fun i => (i.zero, i.size, i.bytes)) = some (some (.agg #[.int .u8 0, .int .i64 0, .string (str []), .slice none 0 0]), 4, 56) := by kernel_rfl

theorem grown_row {a b c : World} {r1 row : Option Nat} (h : a.grownBy b r1) (k : b.grownBy c row) (hr : ∀ x, row = some x → a.heap.size ≤ x) : a.grownBy c r1 :=
  ⟨k.os.trans h.os, k.tape.trans h.tape, k.output.trans h.output, Nat.le_trans h.size k.size,
    fun i hi hne => (k.block i (Nat.lt_of_lt_of_le hi h.size) (fun e => by have := hr i e.symm; omega)).trans (h.block i hi hne)⟩
theorem Box4.set3 {w : World} {b : Nat} {c0 c1 c2 c3 : Value} (h : Box4 w b c0 c1 c2 c3) (u : Value) : Box4 (w.setCell ⟨b, 3, none⟩ u) b c0 c1 c2 u := by
  unfold Box4 at *
  simp [World.setCell, Array.getElem?_modify, h]
end Go.Proofs.YtpcgpcjleedilaaGreatDoor

open Go.RowKit Go.Shelf
namespace Go.Proofs.YtpcgpcjleedilaaGreatDoor
open Go Go.Proofs Fm

end Go.Proofs.YtpcgpcjleedilaaGreatDoor

/- Walks: Take, Parse. -/
open Go.RowKit Go.Shelf
namespace Go.Proofs.YtpcgpcjleedilaaGreatDoor
open Go Go.Proofs Fm

theorem Box4.set0 {w : World} {b : Nat} {c0 c1 c2 c3 : Value} (h : Box4 w b c0 c1 c2 c3) (u : Value) : Box4 (w.setCell ⟨b, 0, none⟩ u) b u c1 c2 c3 := by
  unfold Box4 at *; simp [World.setCell, Array.getElem?_modify, h]
theorem Box4.set1 {w : World} {b : Nat} {c0 c1 c2 c3 : Value} (h : Box4 w b c0 c1 c2 c3) (u : Value) : Box4 (w.setCell ⟨b, 1, none⟩ u) b c0 u c2 c3 := by
  unfold Box4 at *; simp [World.setCell, Array.getElem?_modify, h]
theorem Box4.set2 {w : World} {b : Nat} {c0 c1 c2 c3 : Value} (h : Box4 w b c0 c1 c2 c3) (u : Value) : Box4 (w.setCell ⟨b, 2, none⟩ u) b c0 c1 u c3 := by
  unfold Box4 at *; simp [World.setCell, Array.getElem?_modify, h]
theorem Box4.other {w : World} {b g : Nat} {c0 c1 c2 c3 : Value} (h : Box4 w b c0 c1 c2 c3) (hb : g ≠ b) (o : Nat) (u : Value) : Box4 (w.setCell ⟨g, o, none⟩ u) b c0 c1 c2 c3 :=
  h.kept (grown_set w g o u) (by simpa using hb)
theorem blk_ext {w w' : World} {b : Nat} {o : Obj} (h : w.heap[b]? = some o) (hE : Ext w w') : w'.heap[b]? = some o := (hE.block b (Array.getElem?_eq_some_iff.1 h).1).trans h
theorem blk_cell {w : World} {b : Nat} {cs : Array Value} {t : TypeId} (h : w.heap[b]? = some (.cells cs t (0, 0))) (j : Nat) : w.cell? ⟨b, j, none⟩ = cs[j]? := by simp [World.cell?, h]
theorem blk_free {w : World} {b : Nat} {cs : Array Value} {t : TypeId} (h : w.heap[b]? = some (.cells cs t (0, 0))) (j : Nat) : w.frozen? ⟨b, j, none⟩ = false := by simp [World.frozen?, h]

end Go.Proofs.YtpcgpcjleedilaaGreatDoor

/- Walks: Parse. -/
open Go.RowKit Go.Shelf
namespace Go.Proofs.YtpcgpcjleedilaaGreatDoor
open Go Go.Proofs Fm

/-- A struct of four cells is written. -/
def set4W (w : World) (B : Nat) (k n s d : Value) : World := (((w.setCell ⟨B, 0, none⟩ k).setCell ⟨B, 1, none⟩ n).setCell ⟨B, 2, none⟩ s).setCell ⟨B, 3, none⟩ d
theorem set4_facts {w0 w : World} {B : Nat} {k n s d c0 c1 c2 c3 : Value} (hE : Ext w0 w) (h2 : Box4 w B c0 c1 c2 c3) (hB : w0.heap.size ≤ B) :
    Ext w0 (set4W w B k n s d) ∧ Box4 (set4W w B k n s d) B k n s d ∧ w.grownBy (set4W w B k n s d) (some B) :=
  ⟨(((hE.setCell (p := ⟨B, 0, none⟩) hB k).setCell (p := ⟨B, 1, none⟩) hB n).setCell (p := ⟨B, 2, none⟩) hB s).setCell (p := ⟨B, 3, none⟩) hB d, (((h2.set0 k).set1 n).set2 s).set3 d,
    grown_trans (grown_trans (grown_trans (grown_set w B 0 k) (grown_set _ B 1 n)) (grown_set _ B 2 s)) (grown_set _ B 3 d)⟩

end Go.Proofs.YtpcgpcjleedilaaGreatDoor

/- What a round that appends to a box's list leaves. -/
open Go.RowKit Go.Shelf
namespace Go.Proofs.YtpcgpcjleedilaaGreatDoor
open Go Go.Proofs Fm

/-- What a round leaves. -/
theorem list_step2 {w0 wr w4 w6 : World} {V Pb base mid L gg cap6 : Nat} {ad : Option Addr} {cd : Nat} {ts : List Tr} {t : Tr} {x0 x1 x2 x3 : Value} {xsr : List Value} {p0 p1 p2 p3 u0 u1 u2 : Value}
    (hVb : V < base) (hPb : Pb < base) (hPV : Pb ≠ V) (hV0 : w0.heap.size ≤ V) (hE : Ext w0 wr) (hb : Box4 wr V u0 u1 u2 (.slice ad L cd)) (hB : Box4 wr Pb p0 p1 p2 p3) (hL : ts.length = L)
    (hO : OwnL 44 wr base ts (.slice ad L cd)) (hbr : base ≤ wr.heap.size) (hE4 : Ext wr w4) (hmid : wr.heap.size ≤ mid)
    (ho4 : OwnT 44 w4 mid t (.agg #[x0, x1, x2, x3]))
    (hx : (w4.alloc (.cells #[x0, x1, x2, x3] 44)).ownsRow base 44 4 (.slice ad L cd) L xsr)
    (hown6 : w6.ownsRow base 44 4 (.slice (some ⟨gg, 0, none⟩) (L + 1) cap6) (L + 1) (xsr ++ [x0, x1, x2, x3]))
    (hgrow6 : (w4.alloc (.cells #[x0, x1, x2, x3] 44)).grownBy w6 (Value.slice ad L cd).ownBlock)
    (hat6 : (Value.slice ad L cd).ownBlock = some gg ∨ gg = w4.heap.size + 1) :
    Ext w0 (w6.setCell ⟨V, 3, none⟩ (.slice (some ⟨gg, 0, none⟩) (L + 1) cap6)) ∧
      Box4 (w6.setCell ⟨V, 3, none⟩ (.slice (some ⟨gg, 0, none⟩) (L + 1) cap6)) V u0 u1 u2 (.slice (some ⟨gg, 0, none⟩) (L + 1) cap6) ∧ Box4 (w6.setCell ⟨V, 3, none⟩ (.slice (some ⟨gg, 0, none⟩) (L + 1) cap6)) Pb p0 p1 p2 p3 ∧
      OwnL 44 (w6.setCell ⟨V, 3, none⟩ (.slice (some ⟨gg, 0, none⟩) (L + 1) cap6)) base (ts ++ [t]) (.slice (some ⟨gg, 0, none⟩) (L + 1) cap6) ∧ wr.heap.size ≤ (w6.setCell ⟨V, 3, none⟩ (.slice (some ⟨gg, 0, none⟩) (L + 1) cap6)).heap.size := by
  have hRo : ∀ k, (Value.slice ad L cd).ownBlock = some k → base ≤ k := fun k hk => (hx.lt k hk).1
  have hEa : Ext w4 (w4.alloc (.cells #[x0, x1, x2, x3] 44)) := (Ext.refl w4).alloc _
  have hza : (w4.alloc (.cells #[x0, x1, x2, x3] 44)).heap.size = w4.heap.size + 1 := by simp
  generalize w4.alloc (.cells #[x0, x1, x2, x3] 44) = wa at *
  have hset := grown_set w6 V 3 (.slice (some ⟨gg, 0, none⟩) (L + 1) cap6)
  have hne : ∀ b, b < base → (Value.slice ad L cd).ownBlock ≠ some b := fun b hb e => by have := hRo b e; omega
  refine ⟨?_, ?_, ?_, ?_, ?_⟩
  · exact (((hE.trans hE4).trans hEa).grown hgrow6 (fun k hk => by have := hRo k hk; omega)).setCell (p := ⟨V, 3, none⟩) hV0 _
  · exact (((hb.ext hE4).ext hEa).kept hgrow6 (hne V hVb)).set3 _
  · exact (((hB.ext hE4).ext hEa).kept hgrow6 (hne Pb hPb)).other hPV.symm 3 _
  · subst hL
    refine (hO.snoc (w := wa) (mid := mid) hmid (fun b h1 h2 => ?_) (ho4.ext hEa) (by omega) hgrow6 hx hown6 ?_).grown hset (fun b hb => by injection hb with hb; omega)
    · rw [hEa.block b (by have := hE4.size; omega), hE4.block b h2]
    · rcases hat6 with h | h
      · exact .inl h.symm
      · right; rw [hza, ← h]; rfl
  · have h1 := hE4.size
    have h2 := hEa.size
    have h3 := hgrow6.size
    have h4 := hset.size
    omega

end Go.Proofs.YtpcgpcjleedilaaGreatDoor

open Go.RowKit Go.Shelf
namespace Go.Proofs.YtpcgpcjleedilaaGreatDoor
open Go Go.Proofs Fm

/-- A builder in block b, of the call's own from block B on, holds these bytes. -/
def Bld (B b : Nat) (xs : List UInt8) (w : World) : Prop := Lib.IsBuilder 90 5 B b (xs.map bv) w
/-- .. and has been written. -/
def BldU (B b : Nat) (xs : List UInt8) (w : World) : Prop := Lib.BuilderAt 90 5 B b (.pointer (some ⟨b, 0, none⟩)) (xs.map bv) w
theorem BldU.bld {B b : Nat} {xs : List UInt8} {w : World} (h : BldU B b xs w) : Bld B b xs w := .inr h
theorem BldU.lt {B b : Nat} {xs : List UInt8} {w : World} (h : BldU B b xs w) : B ≤ b ∧ b < w.heap.size := ⟨h.1, Lib.BuilderAt.lt h⟩
/-- It stays where nothing else but new memory comes. -/
theorem BldU.ext {B b : Nat} {xs : List UInt8} {w w' : World} (h : BldU B b xs w) (hE : Ext w w') : BldU B b xs w' := by
  have hlt := h.lt.2
  obtain ⟨h1, v, hb, ho, hn⟩ := h
  exact ⟨h1, v, (hE.block b hlt).trans hb, hE.own ho, hn⟩
theorem Bld.lt {B b : Nat} {xs : List UInt8} {w : World} (h : Bld B b xs w) : B ≤ b ∧ b < w.heap.size := by
  rcases h with h | h
  · exact ⟨h.1, Lib.BuilderAt.lt h⟩
  · exact ⟨h.1, Lib.BuilderAt.lt h⟩
theorem Bld.ext {B b : Nat} {xs : List UInt8} {w w' : World} (h : Bld B b xs w) (hE : Ext w w') : Bld B b xs w' := by
  have hlt := h.lt.2
  rcases h with h | h
  · obtain ⟨h1, v, hb, ho, hn⟩ := h
    exact .inl ⟨h1, v, (hE.block b hlt).trans hb, hE.own ho, hn⟩
  · obtain ⟨h1, v, hb, ho, hn⟩ := h
    exact .inr ⟨h1, v, (hE.block b hlt).trans hb, hE.own ho, hn⟩

/-- In which block its buffer lies. -/
def bufAt (w : World) (b : Nat) : Option Nat := match w.heap[b]? with
  | some (.cells cs _ _) => (cs.getD 1 undef).ownBlock
  | _ => none
/-- Block k is none of the builder's. -/
def Apart (w : World) (b k : Nat) : Prop := k < w.heap.size ∧ k ≠ b ∧ bufAt w b ≠ some k
/-- What is none of the builder's stays as it is, and none of its. -/
def Keep (b : Nat) (w w' : World) : Prop := ∀ k, Apart w b k → w'.heap[k]? = w.heap[k]? ∧ Apart w' b k
theorem Keep.refl (b : Nat) (w : World) : Keep b w w := fun _ h => ⟨rfl, h⟩
theorem Keep.trans {b : Nat} {x y z : World} (h : Keep b x y) (k : Keep b y z) : Keep b x z := fun i hi => by
  obtain ⟨a1, a2⟩ := h i hi
  obtain ⟨b1, b2⟩ := k i a2
  exact ⟨b1.trans a1, b2⟩
theorem bufAt_ext {w w' : World} {b : Nat} (hE : Ext w w') (hb : b < w.heap.size) : bufAt w' b = bufAt w b := by unfold bufAt; rw [hE.block b hb]
theorem BldU.buf {B b : Nat} {xs : List UInt8} {w : World} (h : BldU B b xs w) : ∀ k, bufAt w b = some k → B ≤ k ∧ k < w.heap.size := by
  obtain ⟨_, v, hb, ho, _⟩ := h
  intro k hk
  unfold bufAt at hk
  rw [hb] at hk
  exact ho.lt k hk
/-- What is new is none of the builder's. -/
theorem BldU.apart {B b : Nat} {xs : List UInt8} {w : World} (h : BldU B b xs w) (o : Obj) : Apart (w.alloc o) b w.heap.size := by
  have hlt := h.lt.2
  refine ⟨by simp, by omega, fun e => ?_⟩
  rw [bufAt_ext ((Ext.refl w).alloc o) hlt] at e
  have := (h.buf _ e).2
  omega

/-- What is written is behind it. -/
def WrotePost (B b : Nat) (xs : List UInt8) (w : World) (r : Value) (e : Ending) (w' : World) : Prop := e = .returned r ∧ BldU B b xs w' ∧ Below B w w' ∧ Keep b w w'

theorem copyCheck_any {B b : Nat} {xs : List UInt8} {w : World} (h : Bld B b xs w) :
    Calls Tryz.prog 82 #[.pointer (some ⟨b, 0, none⟩)] w (WrotePost B b xs w (.tuple #[])) := by
  rcases h with h | h
  · refine (Any.Builder_copyCheck_fresh (L := { Tryz.lays166 with }) Tryz.Builder_Extra_166.toX72 b w h.cell0 h.shape h.frozen0).mono ?_
    rintro e w' ⟨rfl, rfl⟩
    refine ⟨rfl, h.used _, (Below.refl B w).setCell (p := ⟨b, 0, none⟩) h.1 _, fun k hk => ?_⟩
    have e1 : bufAt (w.setCell ⟨b, 0, none⟩ (.pointer (some ⟨b, 0, none⟩))) b = bufAt w b := by
      obtain ⟨_, v, hb, _⟩ := h
      unfold bufAt
      rw [hb]
      simp [World.setCell, Array.getElem?_modify, hb]
    have hne : k ≠ b := hk.2.1
    refine ⟨Below.heap_setCell _ _ _ _ (by simpa using hne), by simpa [World.setCell] using hk.1, hk.2.1, ?_⟩
    rw [e1]; exact hk.2.2
  · refine (Any.Builder_copyCheck_used (L := { Tryz.lays166 with }) Tryz.Builder_Extra_166.toX72 b w h.cell0).mono ?_
    rintro e w' ⟨rfl, rfl⟩
    exact ⟨rfl, h, Below.refl B _, Keep.refl _ _⟩

theorem appSt {w : World} {ops : Array Oper} {rest : List Oper} {o : Oper} {a : Act} {Q : Exit → Act → World → Prop}
    (hg : Region.wanted o (yielded ops a.tmps) = true) (s x : Operand) (hop : o.op = Op.call { callee := Callee.builtin Builtin.append, args := #[s, x], argTypes := #[66, 9] }) {base : Nat}
    {v : Value} {xs : List UInt8} (hs : a.eval s = v) (hown : OwnB base w v xs) {ys : List UInt8} (hx : a.eval x = .string (str ys))
    (b1 : xs.length + ys.length ≤ 70368744177664) (b3 : base ≤ w.heap.size)
    (hK : ∀ v' w', OwnB base w' v' (xs ++ ys) → w.grownBy w' v.ownBlock → (v'.ownBlock = v.ownBlock ∨ v'.ownBlock = some w.heap.size) → wpList Tryz.prog ops Q rest (a.put o.dst v') w') :
    wpList Tryz.prog ops Q (o :: rest) a w := by
  have hsrc := Src.string (P := Tryz.prog) Tryz.underlying9 w (str ys)
  rw [str_list] at hsrc
  refine wpList_appAt w elem_u8 hg s x 9 hop base v _ _ hs hown _ _ _ hx hsrc (by unfold maxLen; omega) (by omega) b3 (fun v' w' h1 h2 h3 => hK v' w' ?_ h2 h3)
  unfold OwnB; rw [List.length_append, List.map_append]; exact h1

/-- A new buffer is laid into the builder. -/
theorem wrote {B b : Nat} {xs zs : List UInt8} {w wa w2 : World} {v v' : Value} (hBb : B ≤ b) (hbk : w.heap[b]? = some (.cells #[.pointer (some ⟨b, 0, none⟩), v] 90 (0, 0))) (ho : OwnB B w v xs) (hn : v.ownBlock ≠ some b) (hE : Ext w wa) (hB : B ≤ wa.heap.size)
    (hown' : OwnB B w2 v' zs) (hg : wa.grownBy w2 v.ownBlock) (hat : v'.ownBlock = v.ownBlock ∨ v'.ownBlock = some wa.heap.size) :
    w2.cell? ⟨b, 1, none⟩ = some v ∧ w2.frozen? ⟨b, 1, none⟩ = false ∧ BldU B b zs (w2.setCell ⟨b, 1, none⟩ v') ∧ Below B w (w2.setCell ⟨b, 1, none⟩ v') ∧ Keep b w (w2.setCell ⟨b, 1, none⟩ v') := by
  have hlt : b < w.heap.size := (Array.getElem?_eq_some_iff.1 hbk).1
  have hba := blk_ext hbk hE
  have hz := hE.size
  have hb2 : w2.heap[b]? = some (.cells #[.pointer (some ⟨b, 0, none⟩), v] 90 (0, 0)) := by
    rw [hg.block b (by omega) (fun e => hn e.symm)]; exact hba
  have h1 : (w2.setCell ⟨b, 1, none⟩ v').heap[b]? = some (.cells #[.pointer (some ⟨b, 0, none⟩), v'] 90 (0, 0)) := by simp [World.setCell, Array.getElem?_modify, hb2]
  refine ⟨(blk_cell hb2 1).trans rfl, blk_free hb2 1, ?_, ?_, ?_⟩
  · exact Lib.BuilderAt.put (T := 90) (e := 5) hBb hb2 (bs' := zs.map bv) (by rw [List.length_map]; exact hown') Tryz.Builder_Extra_166.neB5
  · exact (((Below.refl B w).trans (hE.mono (by have := ho.lt; omega))).grown hg hB (fun k hk => (ho.lt k hk).1)).setCell (p := ⟨b, 1, none⟩) hBb _
  · intro k hk
    have e0 : bufAt w b = v.ownBlock := by unfold bufAt; rw [hbk]; rfl
    have e1 : bufAt (w2.setCell ⟨b, 1, none⟩ v') b = v'.ownBlock := by unfold bufAt; rw [h1]; rfl
    have hkv : v.ownBlock ≠ some k := by rw [← e0]; exact hk.2.2
    refine ⟨?_, ?_, hk.2.1, ?_⟩
    · rw [Below.heap_setCell _ _ _ _ (by simpa using hk.2.1), hg.block k (by have := hk.1; omega) (fun e => hkv e.symm)]
      exact hE.block k hk.1
    · have := hg.size; have := hk.1; simp [World.setCell]; omega
    · rw [e1]
      rcases hat with h | h
      · rw [h]; exact hkv
      · rw [h]; intro e; injection e with e; have := hk.1; omega

theorem BldU.open {B b : Nat} {xs : List UInt8} {w : World} (h : BldU B b xs w) : B ≤ b ∧ ∃ v, w.heap[b]? = some (.cells #[.pointer (some ⟨b, 0, none⟩), v] 90 (0, 0)) ∧ OwnB B w v xs ∧ v.ownBlock ≠ some b := by
  obtain ⟨h1, v, hb, ho, hn⟩ := h
  rw [List.length_map] at ho
  exact ⟨h1, v, hb, ho, hn⟩

set_option maxRecDepth 100000 in
set_option maxHeartbeats 2000000 in
theorem wstring_any {B b : Nat} {xs : List UInt8} {w : World} (h : Bld B b xs w) (s : List UInt8) (hl : xs.length ≤ 1000000000000) (hs : s.length ≤ 1000000000000) (hB : B ≤ w.heap.size) :
    Calls Tryz.prog 58 #[.pointer (some ⟨b, 0, none⟩), .string (str s)] w (WrotePost B b (xs ++ s) w (.tuple #[.int .i64 (s.length : Int), .nilIface])) := by
  have H := Lib.hid h
  clear h
  go_enter Tryz.func58, Tryz.ntmps58
  go_wp2_with fail
  refine (copyCheck_any H.out).mono ?_
  rintro e w1 ⟨rfl, hu, hB1, hK1⟩
  obtain ⟨hBb, v, hbk, ho, hn⟩ := hu.open
  have c1 : w1.cell? ⟨b, 1, none⟩ = some v := (blk_cell hbk 1).trans rfl
  have hb1 : B ≤ w1.heap.size := Nat.le_trans hB hB1.size
  have hsz := str_size s
  have HO := Lib.hid ho
  have HK := Lib.hid hbk
  have HN := Lib.hid hn
  have HB1 := Lib.hid hB1
  have HK1 := Lib.hid hK1
  clear ho hbk hn hu hB1 hK1
  go_wp2_with (at_builtin; refine appSt rfl _ _ rfl rfl HO.out rfl ?b1 hb1 ?_)
  case b1 => omega
  intro v' w2 hown' hgrow hat
  obtain ⟨d1, f1, r1, r2, r3⟩ := wrote hBb HK.out HO.out HN.out (Ext.refl w1) (by omega) hown' hgrow hat
  obtain ⟨ao, n', cap, rfl⟩ : ∃ ao n' cap, v' = .slice ao n' cap := by
    rcases hown'.2 with ⟨hv, _⟩ | ⟨g, cap, cur, hv, _⟩
    · exact ⟨_, _, _, hv⟩
    · exact ⟨_, _, _, hv⟩
  have HX : Hid (WrotePost B b (xs ++ s) w (.tuple #[.int .i64 (s.length : Int), .nilIface]) (.returned (.tuple #[.int .i64 (s.length : Int), .nilIface])) (w2.setCell ⟨b, 1, none⟩ (.slice ao n' cap))) := Lib.hid ⟨rfl, r1, HB1.out.trans r2, HK1.out.trans r3⟩
  clear hown' hgrow hat r1 r2 r3
  go_wp2
  go_ret2
  exact HX.out

theorem bstring_any {B b : Nat} {xs : List UInt8} {w : World} (h : Bld B b xs w) (hB : B ≤ w.heap.size) :
    Calls Tryz.prog 60 #[.pointer (some ⟨b, 0, none⟩)] w fun e w' => e = .returned (.string (str xs)) ∧ Below B w w' :=
  Tryz.Builder_String_any B b xs w h hB

end Go.Proofs.YtpcgpcjleedilaaGreatDoor

open Go.RowKit Go.Shelf
namespace Go.Proofs.YtpcgpcjleedilaaGreatDoor
open Go Go.Proofs Fm

/-- The table that FormatInt reads is as the program's text lays it. -/
def Tab (w : World) : Prop := Lib.TabIs Tryz.prog w "internal/strconv.uint64pow10" .u64 Lib.pow10Tab
theorem Tab.ext {w w' : World} (h : Tab w) (hE : Ext w w') : Tab w' := by
  have hg : Tryz.prog.globalNamed "internal/strconv.uint64pow10" = some 5 := by kernel_rfl
  unfold Tab Lib.TabIs World.var? at *
  rw [hg] at h ⊢
  simp only [Option.bind_some] at h ⊢
  have hlt : 5 < w.heap.size := by
    rcases Nat.lt_or_ge 5 w.heap.size with h' | h'
    · exact h'
    · rw [Array.getElem?_eq_none h'] at h; cases h
  rw [hE.block _ hlt]
  exact h
theorem ext_grow (w : World) (os : Array Obj) : Ext w (Go.Sort.grow w os) :=
  ⟨rfl, rfl, rfl, by simp [Go.Sort.grow], fun i hi => by simp [Go.Sort.grow, Array.getElem?_append_left hi]⟩
theorem Bld.buf {B b : Nat} {xs : List UInt8} {w : World} (h : Bld B b xs w) : ∀ k, bufAt w b = some k → B ≤ k ∧ k < w.heap.size := by
  intro k hk
  unfold bufAt at hk
  rcases h with h | h
  · obtain ⟨_, v, hb, ho, _⟩ := h
    rw [hb] at hk; exact ho.lt k hk
  · obtain ⟨_, v, hb, ho, _⟩ := h
    rw [hb] at hk; exact ho.lt k hk
theorem Bld.apart {B b : Nat} {xs : List UInt8} {w : World} (h : Bld B b xs w) (o : Obj) : Apart (w.alloc o) b w.heap.size := by
  have hlt := h.lt.2
  refine ⟨by simp, by omega, fun e => ?_⟩
  rw [bufAt_ext ((Ext.refl w).alloc o) hlt] at e
  have := (h.buf _ e).2
  omega
end Go.Proofs.YtpcgpcjleedilaaGreatDoor

namespace Go.Proofs
open Go.Shelf
def Tryz.lays104_ren : Go.Shelf.Ren := ⟨fun | 104 => 78 | 211 => 92 | 207 => 114 | n => n, fun | 9 => 9 | 4 => 4 | 24 => 30 | 3 => 3 | n => n, fun | n => n⟩
theorem Tryz.lays104 : Go.Proofs.Lays.n104 Tryz.prog Tryz.lays104_ren := {
  mixed := by kernel_rfl
  f104 := Tryz.func78.trans (congrArg some (by kernel_rfl))
  f207 := Tryz.func114.trans (congrArg some (by kernel_rfl))
  f211 := Tryz.func92.trans (congrArg some (by kernel_rfl))
  t3 := Tryz.underlying3
  a3 := Tryz.isAgg3
  z3 := Tryz.sizeOf3
  v3 := Tryz.zeroValue3
  t4 := Tryz.underlying4
  a4 := Tryz.isAgg4
  z4 := Tryz.sizeOf4
  v4 := Tryz.zeroValue4
  t9 := Tryz.underlying9
  a9 := Tryz.isAgg9
  z9 := Tryz.sizeOf9
  v9 := Tryz.zeroValue9
  t24 := Tryz.underlying30
  a24 := Tryz.isAgg30
  z24 := Tryz.sizeOf30
  v24 := Tryz.zeroValue30 }
open Go.RowKit in
theorem Tryz.strings_CutSuffix (s p : ByteArray) (w : World) (hs : s.size ≤ 9223372036854775807) :
    Calls Tryz.prog 78 #[.string s, .string p] w fun e w' => e = .returned (.tuple #[.string ⟨(Lib.trimSuffix s.data.toList p.data.toList).toArray⟩, .bool (Lib.hasSuffix s.data.toList p.data.toList)]) ∧ w' = w := Any.strings_CutSuffix Tryz.lays104 s p w hs
def Tryz.laysM171_ren : Go.Shelf.Ren := ⟨fun | 171 => 59 | 243 => 83 | 246 => 101 | 283 => 118 | 284 => 119 | 285 => 120 | 286 => 121 | 129 => 134 | 317 => 133 | 318 => 135 | 319 => 136 | 320 => 137 | 337 => 144 | 338 => 145 | n => n, fun | 3 => 3 | 9 => 9 | 2 => 2 | 4 => 4 | 171 => 147 | 0 => 0 | 53 => 148 | 37 => 66 | 5 => 5 | 173 => 151 | 212 => 168 | 51 => 169 | 20 => 20 | 213 => 170 | 46 => 154 | 232 => 180 | 233 => 181 | n => n, fun | 17 => 5 | 18 => 6 | 19 => 7 | n => n⟩
theorem Tryz.laysM171 : Go.Proofs.LaysM.n171 Tryz.prog Tryz.laysM171_ren := {
  mixed := by kernel_rfl
  f129 := Tryz.func134.trans (congrArg some (by kernel_rfl))
  f171 := Tryz.func59.trans (congrArg some (by kernel_rfl))
  f243 := Tryz.func83.trans (congrArg some (by kernel_rfl))
  f246 := Tryz.func101.trans (congrArg some (by kernel_rfl))
  f283 := Tryz.func118.trans (congrArg some (by kernel_rfl))
  f284 := Tryz.func119.trans (congrArg some (by kernel_rfl))
  f285 := Tryz.func120.trans (congrArg some (by kernel_rfl))
  f286 := Tryz.func121.trans (congrArg some (by kernel_rfl))
  f317 := Tryz.func133.trans (congrArg some (by kernel_rfl))
  f318 := Tryz.func135.trans (congrArg some (by kernel_rfl))
  f319 := Tryz.func136.trans (congrArg some (by kernel_rfl))
  f320 := Tryz.func137.trans (congrArg some (by kernel_rfl))
  f337 := Tryz.func144.trans (congrArg some (by kernel_rfl))
  f338 := Tryz.func145.trans (congrArg some (by kernel_rfl))
  t0 := Tryz.underlying0
  a0 := Tryz.isAgg0
  z0 := Tryz.sizeOf0
  v0 := Tryz.zeroValue0
  t2 := Tryz.underlying2
  a2 := Tryz.isAgg2
  z2 := Tryz.sizeOf2
  v2 := Tryz.zeroValue2
  t3 := Tryz.underlying3
  a3 := Tryz.isAgg3
  z3 := Tryz.sizeOf3
  v3 := Tryz.zeroValue3
  t4 := Tryz.underlying4
  a4 := Tryz.isAgg4
  z4 := Tryz.sizeOf4
  v4 := Tryz.zeroValue4
  t5 := Tryz.underlying5
  a5 := Tryz.isAgg5
  z5 := Tryz.sizeOf5
  v5 := Tryz.zeroValue5
  t9 := Tryz.underlying9
  a9 := Tryz.isAgg9
  z9 := Tryz.sizeOf9
  v9 := Tryz.zeroValue9
  t20 := Tryz.underlying20
  a20 := Tryz.isAgg20
  z20 := Tryz.sizeOf20
  v20 := Tryz.zeroValue20
  t37 := Tryz.underlying66
  a37 := Tryz.isAgg66
  z37 := Tryz.sizeOf66
  v37 := Tryz.zeroValue66
  t46 := Tryz.underlying154
  a46 := Tryz.isAgg154
  z46 := Tryz.sizeOf154
  v46 := Tryz.zeroValue154
  t51 := Tryz.underlying169
  a51 := Tryz.isAgg169
  z51 := Tryz.sizeOf169
  v51 := Tryz.zeroValue169
  t53 := Tryz.underlying148
  a53 := Tryz.isAgg148
  z53 := Tryz.sizeOf148
  v53 := Tryz.zeroValue148
  t171 := Tryz.underlying147
  a171 := Tryz.isAgg147
  z171 := Tryz.sizeOf147
  v171 := Tryz.zeroValue147
  t173 := Tryz.underlying151
  a173 := Tryz.isAgg151
  z173 := Tryz.sizeOf151
  v173 := Tryz.zeroValue151
  t212 := Tryz.underlying168
  a212 := Tryz.isAgg168
  z212 := Tryz.sizeOf168
  v212 := Tryz.zeroValue168
  t213 := Tryz.underlying170
  a213 := Tryz.isAgg170
  z213 := Tryz.sizeOf170
  t232 := Tryz.underlying180
  a232 := Tryz.isAgg180
  z232 := Tryz.sizeOf180
  v232 := Tryz.zeroValue180
  t233 := Tryz.underlying181
  a233 := Tryz.isAgg181
  z233 := Tryz.sizeOf181
  v233 := Tryz.zeroValue181
  g17 := by kernel_rfl
  g18 := by kernel_rfl
  g19 := by kernel_rfl
  i0 := by kernel_rfl
  i2 := by kernel_rfl
  i3 := by kernel_rfl
  i4 := by kernel_rfl
  i5 := by kernel_rfl
  i9 := by kernel_rfl
  i20 := by kernel_rfl
  i37 := by kernel_rfl
  i46 := by kernel_rfl
  i51 := by kernel_rfl
  i53 := by kernel_rfl
  i171 := by kernel_rfl
  i173 := by kernel_rfl
  i212 := by kernel_rfl
  i232 := by kernel_rfl
  i233 := by kernel_rfl
  m17 := by kernel_rfl
  m18 := by kernel_rfl
  m19 := by kernel_rfl }
open Go.RowKit Go.Sort Go.Lib in
theorem Tryz.strconv_Itoa (n : Int) (h0 : -9223372036854775808 ≤ n) (h1 : n ≤ 9223372036854775807) (w : World) (htab : Lib.TabIs Tryz.prog w "internal/strconv.uint64pow10" .u64 Lib.pow10Tab) :
    Calls Tryz.prog 59 #[.int .i64 n] w fun e w' => e = .returned (.string ⟨(Lib.itoa n).toArray⟩) ∧ ∃ k os, w' = grow (w.drewN k) os := Any.strconv_Itoa Tryz.laysM171 n h0 h1 w htab
def Tryz.laysC172_ren : Go.Shelf.Ren := ⟨fun | 172 => 76 | 244 => 89 | 245 => 90 | 247 => 109 | 279 => 110 | 280 => 111 | 281 => 112 | 282 => 113 | 287 => 128 | 316 => 129 | 171 => 59 | 205 => 130 | 321 => 140 | 322 => 141 | 243 => 83 | 246 => 101 | 283 => 118 | 284 => 119 | 285 => 120 | 286 => 121 | 129 => 134 | 317 => 133 | 318 => 135 | 319 => 136 | 320 => 137 | 337 => 144 | 338 => 145 | n => n, fun | 9 => 9 | 3 => 3 | 75 => 92 | 76 => 93 | 4 => 4 | 5 => 5 | 167 => 139 | 37 => 66 | 0 => 0 | 85 => 140 | 2 => 2 | 168 => 142 | 53 => 148 | 175 => 160 | 46 => 154 | 210 => 164 | 127 => 118 | 145 => 177 | 143 => 175 | 21 => 21 | 171 => 147 | 173 => 151 | 212 => 168 | 51 => 169 | 20 => 20 | 213 => 170 | 232 => 180 | 233 => 181 | 80 => 96 | n => n, fun | 15 => 3 | 16 => 4 | 17 => 5 | 18 => 6 | 19 => 7 | n => n⟩
theorem Tryz.laysC172 : Go.Proofs.LaysC.n172 Tryz.prog Tryz.laysC172_ren := {
  mixed := by kernel_rfl
  f129 := Tryz.func134.trans (congrArg some (by kernel_rfl))
  f171 := Tryz.func59.trans (congrArg some (by kernel_rfl))
  f172 := Tryz.func76.trans (congrArg some (by kernel_rfl))
  f205 := Tryz.func130.trans (congrArg some (by kernel_rfl))
  f243 := Tryz.func83.trans (congrArg some (by kernel_rfl))
  f244 := Tryz.func89.trans (congrArg some (by kernel_rfl))
  f245 := Tryz.func90.trans (congrArg some (by kernel_rfl))
  f246 := Tryz.func101.trans (congrArg some (by kernel_rfl))
  f247 := Tryz.func109.trans (congrArg some (by kernel_rfl))
  f279 := Tryz.func110.trans (congrArg some (by kernel_rfl))
  f280 := Tryz.func111.trans (congrArg some (by kernel_rfl))
  f281 := Tryz.func112.trans (congrArg some (by kernel_rfl))
  f282 := Tryz.func113.trans (congrArg some (by kernel_rfl))
  f283 := Tryz.func118.trans (congrArg some (by kernel_rfl))
  f284 := Tryz.func119.trans (congrArg some (by kernel_rfl))
  f285 := Tryz.func120.trans (congrArg some (by kernel_rfl))
  f286 := Tryz.func121.trans (congrArg some (by kernel_rfl))
  f287 := Tryz.func128.trans (congrArg some (by kernel_rfl))
  f316 := Tryz.func129.trans (congrArg some (by kernel_rfl))
  f317 := Tryz.func133.trans (congrArg some (by kernel_rfl))
  f318 := Tryz.func135.trans (congrArg some (by kernel_rfl))
  f319 := Tryz.func136.trans (congrArg some (by kernel_rfl))
  f320 := Tryz.func137.trans (congrArg some (by kernel_rfl))
  f321 := Tryz.func140.trans (congrArg some (by kernel_rfl))
  f322 := Tryz.func141.trans (congrArg some (by kernel_rfl))
  f337 := Tryz.func144.trans (congrArg some (by kernel_rfl))
  f338 := Tryz.func145.trans (congrArg some (by kernel_rfl))
  t0 := Tryz.underlying0
  a0 := Tryz.isAgg0
  z0 := Tryz.sizeOf0
  v0 := Tryz.zeroValue0
  t2 := Tryz.underlying2
  a2 := Tryz.isAgg2
  z2 := Tryz.sizeOf2
  v2 := Tryz.zeroValue2
  t3 := Tryz.underlying3
  a3 := Tryz.isAgg3
  z3 := Tryz.sizeOf3
  v3 := Tryz.zeroValue3
  t4 := Tryz.underlying4
  a4 := Tryz.isAgg4
  z4 := Tryz.sizeOf4
  v4 := Tryz.zeroValue4
  t5 := Tryz.underlying5
  a5 := Tryz.isAgg5
  z5 := Tryz.sizeOf5
  v5 := Tryz.zeroValue5
  t9 := Tryz.underlying9
  a9 := Tryz.isAgg9
  z9 := Tryz.sizeOf9
  v9 := Tryz.zeroValue9
  t20 := Tryz.underlying20
  a20 := Tryz.isAgg20
  z20 := Tryz.sizeOf20
  v20 := Tryz.zeroValue20
  t21 := Tryz.underlying21
  a21 := Tryz.isAgg21
  z21 := Tryz.sizeOf21
  v21 := Tryz.zeroValue21
  t37 := Tryz.underlying66
  a37 := Tryz.isAgg66
  z37 := Tryz.sizeOf66
  v37 := Tryz.zeroValue66
  t46 := Tryz.underlying154
  a46 := Tryz.isAgg154
  z46 := Tryz.sizeOf154
  v46 := Tryz.zeroValue154
  t51 := Tryz.underlying169
  a51 := Tryz.isAgg169
  z51 := Tryz.sizeOf169
  v51 := Tryz.zeroValue169
  t53 := Tryz.underlying148
  a53 := Tryz.isAgg148
  z53 := Tryz.sizeOf148
  v53 := Tryz.zeroValue148
  t75 := Tryz.underlying92
  a75 := Tryz.isAgg92
  z75 := Tryz.sizeOf92
  v75 := Tryz.zeroValue92
  t76 := Tryz.underlying93
  a76 := Tryz.isAgg93
  z76 := Tryz.sizeOf93
  v76 := Tryz.zeroValue93
  t85 := Tryz.underlying140
  a85 := Tryz.isAgg140
  z85 := Tryz.sizeOf140
  v85 := Tryz.zeroValue140
  t127 := Tryz.underlying118
  a127 := Tryz.isAgg118
  z127 := Tryz.sizeOf118
  v127 := Tryz.zeroValue118
  t143 := Tryz.underlying175
  a143 := Tryz.isAgg175
  z143 := Tryz.sizeOf175
  v143 := Tryz.zeroValue175
  t145 := Tryz.underlying177
  a145 := Tryz.isAgg177
  z145 := Tryz.sizeOf177
  v145 := Tryz.zeroValue177
  t167 := Tryz.underlying139
  a167 := Tryz.isAgg139
  z167 := Tryz.sizeOf139
  v167 := Tryz.zeroValue139
  t168 := Tryz.underlying142
  a168 := Tryz.isAgg142
  z168 := Tryz.sizeOf142
  v168 := Tryz.zeroValue142
  t171 := Tryz.underlying147
  a171 := Tryz.isAgg147
  z171 := Tryz.sizeOf147
  v171 := Tryz.zeroValue147
  t173 := Tryz.underlying151
  a173 := Tryz.isAgg151
  z173 := Tryz.sizeOf151
  v173 := Tryz.zeroValue151
  t175 := Tryz.underlying160
  a175 := Tryz.isAgg160
  z175 := Tryz.sizeOf160
  v175 := Tryz.zeroValue160
  t210 := Tryz.underlying164
  a210 := Tryz.isAgg164
  z210 := Tryz.sizeOf164
  v210 := Tryz.zeroValue164
  t212 := Tryz.underlying168
  a212 := Tryz.isAgg168
  z212 := Tryz.sizeOf168
  v212 := Tryz.zeroValue168
  t213 := Tryz.underlying170
  a213 := Tryz.isAgg170
  z213 := Tryz.sizeOf170
  t232 := Tryz.underlying180
  a232 := Tryz.isAgg180
  z232 := Tryz.sizeOf180
  v232 := Tryz.zeroValue180
  t233 := Tryz.underlying181
  a233 := Tryz.isAgg181
  z233 := Tryz.sizeOf181
  v233 := Tryz.zeroValue181
  g15 := by kernel_rfl
  g16 := by kernel_rfl
  g17 := by kernel_rfl
  g18 := by kernel_rfl
  g19 := by kernel_rfl
  t80 := Tryz.underlying96
  a80 := Tryz.isAgg96
  z80 := Tryz.sizeOf96
  v80 := Tryz.zeroValue96
  i0 := by kernel_rfl
  i2 := by kernel_rfl
  i3 := by kernel_rfl
  i4 := by kernel_rfl
  i5 := by kernel_rfl
  i9 := by kernel_rfl
  i20 := by kernel_rfl
  i21 := by kernel_rfl
  i37 := by kernel_rfl
  i46 := by kernel_rfl
  i51 := by kernel_rfl
  i53 := by kernel_rfl
  i75 := by kernel_rfl
  i76 := by kernel_rfl
  i80 := by kernel_rfl
  i85 := by kernel_rfl
  i127 := by kernel_rfl
  i143 := by kernel_rfl
  i145 := by kernel_rfl
  i167 := by kernel_rfl
  i168 := by kernel_rfl
  i171 := by kernel_rfl
  i173 := by kernel_rfl
  i175 := by kernel_rfl
  i210 := by kernel_rfl
  i212 := by kernel_rfl
  i232 := by kernel_rfl
  i233 := by kernel_rfl
  m15 := by kernel_rfl
  m16 := by kernel_rfl
  m17 := by kernel_rfl
  m18 := by kernel_rfl
  m19 := by kernel_rfl
  c0 := by kernel_rfl
  c2 := by kernel_rfl
  c3 := by kernel_rfl
  c4 := by kernel_rfl
  c5 := by kernel_rfl
  c9 := by kernel_rfl
  c20 := by kernel_rfl
  c21 := by kernel_rfl
  c37 := by kernel_rfl
  c46 := by kernel_rfl
  c51 := by kernel_rfl
  c53 := by kernel_rfl
  c75 := by kernel_rfl
  c76 := by kernel_rfl
  c80 := by kernel_rfl
  c85 := by kernel_rfl
  c127 := by kernel_rfl
  c143 := by kernel_rfl
  c145 := by kernel_rfl
  c167 := by kernel_rfl
  c168 := by kernel_rfl
  c171 := by kernel_rfl
  c173 := by kernel_rfl
  c175 := by kernel_rfl
  c210 := by kernel_rfl
  c212 := by kernel_rfl
  c213 := by kernel_rfl
  c232 := by kernel_rfl
  c233 := by kernel_rfl }
open Go.RowKit in
theorem Tryz.strconv_Atoi_ok (s : ByteArray) (hmax : s.size ≤ 9223372036854775806) (v : Int) (h : Lib.atoiAll s.data.toList = .ok v) (w : World) :
    Calls Tryz.prog 76 #[.string s] w fun e w' => e = .returned (.tuple #[.int .i64 v, .nilIface]) ∧ (w' = w ∨ ∃ t, w' = Lib.bytesWorld w 5 t) := Any.strconv_Atoi_ok Tryz.laysC172 s hmax v h w
open Go.RowKit in
theorem Tryz.strconv_Atoi_syntax (s : ByteArray) (hlim : s.size ≤ 281474976710656) (h1 : ∀ v, Lib.atoiAll s.data.toList ≠ .ok v) (h2 : Lib.atoiAll s.data.toList ≠ .range) (ev : Value) (w : World) (hv : w.cell? ⟨3, 0, none⟩ = some ev) (hev : ev = .nilIface ∨ ∃ te pe, ev = .iface te pe) :
    Calls Tryz.prog 76 #[.string s] w fun e w' => ∃ N, e = .returned (.tuple #[.int .i64 (0), .iface 142 (.pointer (some ⟨N, 0, none⟩))]) ∧ w.heap.size ≤ N ∧ w'.heap[N]? = some (.cells #[.string ⟨#[65, 116, 111, 105]⟩, .string s, ev] 164 (0, 0)) ∧ Below w.heap.size w w' := Any.strconv_Atoi_syntax Tryz.laysC172 s hlim (by cases e : Lib.atoiAll s.data.toList <;> first | rfl | exact absurd e (h1 _) | exact absurd e h2) ev w hv hev
open Go.RowKit in
theorem Tryz.strconv_Atoi_range (s : ByteArray) (hlim : s.size ≤ 281474976710656) (h : Lib.atoiAll s.data.toList = .range) (ev : Value) (w : World) (hv : w.cell? ⟨4, 0, none⟩ = some ev) (hev : ev = .nilIface ∨ ∃ te pe, ev = .iface te pe) :
    Calls Tryz.prog 76 #[.string s] w fun e w' => ∃ N, e = .returned (.tuple #[.int .i64 (Lib.atoiSat s.data.toList), .iface 142 (.pointer (some ⟨N, 0, none⟩))]) ∧ w.heap.size ≤ N ∧ w'.heap[N]? = some (.cells #[.string ⟨#[65, 116, 111, 105]⟩, .string s, ev] 164 (0, 0)) ∧ Below w.heap.size w w' := Any.strconv_Atoi_range Tryz.laysC172 s hlim h ev w hv hev
def Tryz.lays143_ren : Go.Shelf.Ren := ⟨fun | 143 => 88 | 219 => 108 | 217 => 124 | 225 => 125 | 224 => 126 | 267 => 127 | 266 => 138 | 314 => 139 | n => n, fun | 9 => 9 | 3 => 3 | 4 => 4 | 5 => 5 | 46 => 154 | 146 => 172 | 51 => 169 | n => n, fun | 1 => 2 | n => n⟩
theorem Tryz.lays143 : Go.Proofs.Lays.n143 Tryz.prog Tryz.lays143_ren := {
  mixed := by kernel_rfl
  f143 := Tryz.func88.trans (congrArg some (by kernel_rfl))
  f217 := Tryz.func124.trans (congrArg some (by kernel_rfl))
  f219 := Tryz.func108.trans (congrArg some (by kernel_rfl))
  f224 := Tryz.func126.trans (congrArg some (by kernel_rfl))
  f225 := Tryz.func125.trans (congrArg some (by kernel_rfl))
  f266 := Tryz.func138.trans (congrArg some (by kernel_rfl))
  f267 := Tryz.func127.trans (congrArg some (by kernel_rfl))
  f314 := Tryz.func139.trans (congrArg some (by kernel_rfl))
  t3 := Tryz.underlying3
  a3 := Tryz.isAgg3
  z3 := Tryz.sizeOf3
  v3 := Tryz.zeroValue3
  t4 := Tryz.underlying4
  a4 := Tryz.isAgg4
  z4 := Tryz.sizeOf4
  v4 := Tryz.zeroValue4
  t5 := Tryz.underlying5
  a5 := Tryz.isAgg5
  z5 := Tryz.sizeOf5
  v5 := Tryz.zeroValue5
  t9 := Tryz.underlying9
  a9 := Tryz.isAgg9
  z9 := Tryz.sizeOf9
  v9 := Tryz.zeroValue9
  t46 := Tryz.underlying154
  a46 := Tryz.isAgg154
  z46 := Tryz.sizeOf154
  v46 := Tryz.zeroValue154
  t51 := Tryz.underlying169
  a51 := Tryz.isAgg169
  z51 := Tryz.sizeOf169
  v51 := Tryz.zeroValue169
  t146 := Tryz.underlying172
  a146 := Tryz.isAgg172
  z146 := Tryz.sizeOf172
  v146 := Tryz.zeroValue172
  g1 := by kernel_rfl }
open Go.RowKit Go.Lib in
theorem Tryz.strings_Index_one (s : ByteArray) (c : UInt8) (w : World) :
    Calls Tryz.prog 88 #[.string s, .string ⟨#[c]⟩] w fun e w' => e = .returned (.int .i64 (Lib.indexByte s.data.toList c)) ∧ w' = w := Any.strings_Index_one Tryz.lays143 s c w

def Tryz.lays219_ren : Go.Shelf.Ren := ⟨fun | 219 => 108 | 217 => 124 | 225 => 125 | 224 => 126 | 267 => 127 | 266 => 138 | 314 => 139 | n => n, fun | 9 => 9 | 3 => 3 | 4 => 4 | 5 => 5 | 46 => 154 | 146 => 172 | 51 => 169 | n => n, fun | 1 => 2 | n => n⟩
theorem Tryz.lays219 : Go.Proofs.Lays.n219 Tryz.prog Tryz.lays219_ren := {
  mixed := by kernel_rfl
  f217 := Tryz.func124.trans (congrArg some (by kernel_rfl))
  f219 := Tryz.func108.trans (congrArg some (by kernel_rfl))
  f224 := Tryz.func126.trans (congrArg some (by kernel_rfl))
  f225 := Tryz.func125.trans (congrArg some (by kernel_rfl))
  f266 := Tryz.func138.trans (congrArg some (by kernel_rfl))
  f267 := Tryz.func127.trans (congrArg some (by kernel_rfl))
  f314 := Tryz.func139.trans (congrArg some (by kernel_rfl))
  t3 := Tryz.underlying3
  a3 := Tryz.isAgg3
  z3 := Tryz.sizeOf3
  v3 := Tryz.zeroValue3
  t4 := Tryz.underlying4
  a4 := Tryz.isAgg4
  z4 := Tryz.sizeOf4
  v4 := Tryz.zeroValue4
  t5 := Tryz.underlying5
  a5 := Tryz.isAgg5
  z5 := Tryz.sizeOf5
  v5 := Tryz.zeroValue5
  t9 := Tryz.underlying9
  a9 := Tryz.isAgg9
  z9 := Tryz.sizeOf9
  v9 := Tryz.zeroValue9
  t46 := Tryz.underlying154
  a46 := Tryz.isAgg154
  z46 := Tryz.sizeOf154
  v46 := Tryz.zeroValue154
  t51 := Tryz.underlying169
  a51 := Tryz.isAgg169
  z51 := Tryz.sizeOf169
  v51 := Tryz.zeroValue169
  t146 := Tryz.underlying172
  a146 := Tryz.isAgg172
  z146 := Tryz.sizeOf172
  v146 := Tryz.zeroValue172
  g1 := by kernel_rfl }
open Go.RowKit Go.Lib in
theorem Tryz.stringslite_Index_one (s : ByteArray) (c : UInt8) (w : World) :
    Calls Tryz.prog 108 #[.string s, .string ⟨#[c]⟩] w fun e w' => e = .returned (.int .i64 (Lib.indexByte s.data.toList c)) ∧ w' = w := Any.stringslite_Index_one Tryz.lays219 s c w

end Go.Proofs

open Go.RowKit Go.Shelf
namespace Go.Proofs.YtpcgpcjleedilaaGreatDoor
open Go Go.Proofs Fm

/-- A variable that holds an error, or none. -/
def ErrAt (w : World) (g : Nat) : Prop := ∃ ev, w.cell? ⟨g, 0, none⟩ = some ev ∧ (ev = .nilIface ∨ ∃ te pe, ev = .iface te pe)
theorem cell_lt {w : World} {a : Addr} {v : Value} (h : w.cell? a = some v) : a.block < w.heap.size := by
  obtain ⟨o, ho, _⟩ := cells_of_cell h
  exact (Array.getElem?_eq_some_iff.1 ho).1
theorem ErrAt.ext {w w' : World} {g : Nat} (h : ErrAt w g) (hE : Ext w w') : ErrAt w' g := by
  obtain ⟨ev, h1, h2⟩ := h
  exact ⟨ev, (hE.cell (p := ⟨g, 0, none⟩) (cell_lt h1)).trans h1, h2⟩
/-- What package ident reads of the world that is not its own. -/
structure KW (w : World) : Prop where
  tab : Tab w
  sx : ErrAt w 3
  rg : ErrAt w 4
theorem KW.ext {w w' : World} (h : KW w) (hE : Ext w w') : KW w' := ⟨h.tab.ext hE, h.sx.ext hE, h.rg.ext hE⟩
theorem itoa_any {n : Int} (h : isI64 n) {w : World} (ht : KW w) :
    Calls Tryz.prog 59 #[.int .i64 n] w fun e w' => e = .returned (.string (str (Lib.itoa n))) ∧ Ext w w' :=
  (Tryz.strconv_Itoa n h.1 h.2 w ht.tab).mono fun e w' ⟨h1, k, os, h2⟩ => ⟨h1, by rw [h2]; exact ((Ext.refl w).drewN k).trans (ext_grow _ os)⟩
theorem ext_bytesW (w : World) (e : TypeId) (s : ByteArray) : Ext w (Lib.bytesWorld w e s) :=
  ⟨rfl, rfl, rfl, by rw [Lib.bytesWorld_size]; omega, fun j hj => Lib.bytesWorld_at_old w _ _ j hj⟩
theorem i64_may {v : Int} (h : mayB v = true) : isI64 v := by
  have := mayB_iff.1 h
  unfold isI64; omega
/-- What number hands back. -/
def numV (s : List UInt8) : Int := (numI s).getD (-1)
theorem numV_none {s : List UInt8} (h : numI s = none) : numV s = -1 := by unfold numV; rw [h]; rfl
theorem numV_some {s : List UInt8} {n : Int} (h : numI s = some n) : numV s = n := by unfold numV; rw [h]; rfl
theorem numV_eq {s : List UInt8} : numV s = -1 ↔ numI s = none := by
  constructor
  · intro h
    cases e : numI s with
    | none => rfl
    | some n => rw [numV_some e] at h; have := (numI_iff.1 e).1; omega
  · exact numV_none
theorem numV_isI64 (s : List UInt8) : isI64 (numV s) := by
  cases e : numI s with
  | none => rw [numV_none e]; unfold isI64; omega
  | some n => rw [numV_some e]; have := (numI_iff.1 e).1; unfold isI64; omega
set_option maxHeartbeats 1000000 in
theorem idNumber_any (s : List UInt8) (hs : s.length ≤ 1000000) (w : World) (hw : KW w) :
    Calls Tryz.prog 49 #[.string (str s)] w fun e w' => e = .returned (.int .i64 (numV s)) ∧ Ext w w' := by
  have hsz := str_size s
  have hl := str_list s
  cases ha : Lib.atoiAll s with
  | range =>
    have HY := Lib.hid (show numV s = -1 from numV_none (by unfold numI; rw [ha]))
    obtain ⟨ev, h1, h2⟩ := hw.rg
    have HC := Lib.hid (Tryz.strconv_Atoi_range (str s) (by rw [hsz]; omega) (by rw [hl]; exact ha) ev w h1 h2)
    clear hw ha h1 h2 hl
    generalize Lib.atoiSat (str s).data.toList = m at HC
    go_enter Tryz.func49, Tryz.ntmps49
    go_wp2_with fail
    refine HC.out.mono ?_
    rintro e w1 ⟨N, rfl, -, -, hb⟩
    have HE := Lib.hid (show Ext w w1 from hb)
    clear hb HC
    go_wp2
    go_ret
    exact ⟨by rw [HY.out]; rfl, HE.out⟩
  | ok v =>
    have HX := Lib.hid (show numI s = if mayB v = true ∧ Lib.itoa v = s then some v else none by unfold numI; rw [ha])
    have HC := Lib.hid (Tryz.strconv_Atoi_ok (str s) (by rw [hsz]; omega) v (by rw [hl]; exact ha) w)
    have HW := Lib.hid hw
    clear hw ha hl
    go_enter Tryz.func49, Tryz.ntmps49
    go_wp2_with fail
    refine HC.out.mono ?_
    rintro e w1 ⟨rfl, hb⟩
    have hE : Ext w w1 := by
      rcases hb with rfl | ⟨t, rfl⟩
      · exact Ext.refl _
      · exact ext_bytesW _ _ _
    have HE := Lib.hid hE
    clear hb HC hE
    go_wp2_with fail
    refine (idMay_any v w1).mono ?_
    rintro e w2 ⟨rfl, rfl⟩
    cases hm : mayB v with
    | false =>
      have HY := Lib.hid (show numV s = -1 from numV_none (by rw [HX.out, hm]; simp))
      clear hm
      go_wp2
      go_ret
      exact ⟨by rw [HY.out]; rfl, HE.out⟩
    | true =>
      have hv := Lib.hid (i64_may hm)
      have HW1 := Lib.hid (HW.out.ext HE.out)
      have HX := Lib.hid (show numI s = if Lib.itoa v = s then some v else none by rw [HX.out, hm]; simp)
      clear hm
      go_wp2_with fail
      refine (itoa_any hv.out HW1.out).mono ?_
      rintro e w3 ⟨rfl, hE3⟩
      have HE3 := Lib.hid (HE.out.trans hE3)
      clear hE3
      have es : ((str (Lib.itoa v)).toList == (str s).toList) = decide (Lib.itoa v = s) := str_beq _ _
      by_cases hc : Lib.itoa v = s
      · have HY := Lib.hid (show numV s = v from numV_some (by rw [HX.out, if_pos hc]))
        have f0 : ((str (Lib.itoa v)).toList == (str s).toList) = true := by rw [es]; simpa using hc
        clear es hc
        go_wp2
        go_ret
        exact ⟨by rw [HY.out]; rfl, HE3.out⟩
      · have HY := Lib.hid (show numV s = -1 from numV_none (by rw [HX.out, if_neg hc]))
        have f0 : ((str (Lib.itoa v)).toList == (str s).toList) = false := by rw [es]; simpa using hc
        clear es hc
        go_wp2
        go_ret
        exact ⟨by rw [HY.out]; rfl, HE3.out⟩
  | _ =>
    have HY := Lib.hid (show numV s = -1 from numV_none (by unfold numI; rw [ha]))
    obtain ⟨ev, h1, h2⟩ := hw.sx
    have HC := Lib.hid (Tryz.strconv_Atoi_syntax (str s) (by rw [hsz]; omega) (by rw [hl, ha]; intro v h; cases h) (by rw [hl, ha]; intro h; cases h) ev w h1 h2)
    clear hw ha h1 h2 hl
    go_enter Tryz.func49, Tryz.ntmps49
    go_wp2_with fail
    refine HC.out.mono ?_
    rintro e w1 ⟨N, rfl, -, -, hb⟩
    have HE := Lib.hid (show Ext w w1 from hb)
    clear hb HC
    go_wp2
    go_ret
    exact ⟨by rw [HY.out]; rfl, HE.out⟩
theorem extract_strI (s : List UInt8) (a b : Nat) : (str s).extract a b = str ((s.take b).drop a) := by
  unfold str
  rw [ByteArray.extract_mk]
  congr 1
  apply Array.toList_inj.1
  simp [List.drop_take]
/-- The index of a byte. -/
theorem idxByte_at (a r : List UInt8) (c : UInt8) (h : ∀ d, d ∈ a → d ≠ c) : Lib.indexByte (a ++ c :: r) c = (a.length : Int) := by rw [← Lib.index_one]; exact Fm.index_one a r c h
theorem idxByte_no (a : List UInt8) (c : UInt8) (h : ∀ d, d ∈ a → d ≠ c) : Lib.indexByte a c = -1 := by rw [← Lib.index_one]; exact index_none a c h
set_option maxHeartbeats 1000000 in
theorem slCut_at (a r : List UInt8) (c : UInt8) (h : ∀ d, d ∈ a → d ≠ c) (hl : (a ++ c :: r).length ≤ 1000000) (w : World) :
    Calls Tryz.prog 91 #[.string (str (a ++ c :: r)), .string (str [c])] w fun e w' => e = .returned (.tuple #[.string (str a), .string (str r), .bool true]) ∧ Ext w w' := by
  have hI := Lib.hid (Tryz.stringslite_Index_one (str (a ++ c :: r)) c w)
  have hsz := str_size (a ++ c :: r)
  have hsc : (str [c]).size = 1 := str_size [c]
  have hi := idxByte_at a r c h
  rw [str_list] at hI
  rw [hi] at hI
  have e1 : (str (a ++ c :: r)).extract 0 a.length = str a := by rw [extract_strI, List.drop_zero, List.take_left' rfl]
  have e2 : (str (a ++ c :: r)).extract (a.length + 1) (str (a ++ c :: r)).size = str r := by rw [hsz, extract_strI, List.take_length, show a ++ c :: r = (a ++ [c]) ++ r by simp]; exact congrArg str (List.drop_left' (by simp))
  have hal : a.length + 1 ≤ (a ++ c :: r).length := by simp
  have E1 := Lib.hid e1
  have E2 := Lib.hid e2
  clear hi h e1 e2
  rw [hsz] at E2
  generalize (a ++ c :: r).length = N at *
  generalize str (a ++ c :: r) = S at *
  go_enter Tryz.func91, Tryz.ntmps91
  go_wp2_with fail
  refine hI.out.mono ?_
  rintro e w1 ⟨rfl, rfl⟩
  have hw : IntKind.i64.wrap ((a.length : Int) + 1) = (a.length : Int) + 1 := IntWalk.i64_in _ (by omega)
  have h0 : (0 : Int) ≤ (a.length : Int) + 1 := by omega
  have ht : ((a.length : Int) + 1).toNat = a.length + 1 := by omega
  go_wp2_with fail
  go_quiet (fail)
  go_wp2
  go_ret3
  exact ⟨by rw [← E1.out, ← E2.out]; rfl, (Ext.refl _).drewN nq⟩
set_option maxHeartbeats 1000000 in
theorem slCut_no (a : List UInt8) (c : UInt8) (h : ∀ d, d ∈ a → d ≠ c) (w : World) :
    Calls Tryz.prog 91 #[.string (str a), .string (str [c])] w fun e w' => e = .returned (.tuple #[.string (str a), .string (str []), .bool false]) ∧ Ext w w' := by
  have hI := Lib.hid (Tryz.stringslite_Index_one (str a) c w)
  have hi := idxByte_no a c h
  rw [str_list] at hI
  rw [hi] at hI
  clear hi h
  go_enter Tryz.func91, Tryz.ntmps91
  go_wp2_with fail
  refine hI.out.mono ?_
  rintro e w1 ⟨rfl, rfl⟩
  go_wp2
  go_ret3
  exact ⟨rfl, Ext.refl _⟩
/-- strings.Cut at one byte. -/
def CutPost (s : List UInt8) (c : UInt8) (w : World) (e : Ending) (w' : World) : Prop := e = .returned (.tuple #[.string (str (Lib.cut s [c]).1), .string (str (Lib.cut s [c]).2.1), .bool (Lib.cut s [c]).2.2]) ∧ Ext w w'
theorem slCut_any (s : List UInt8) (c : UInt8) (hs : s.length ≤ 1000000) (w : World) :
    Calls Tryz.prog 91 #[.string (str s), .string (str [c])] w (CutPost s c w) := by
  by_cases h : c ∈ s
  · obtain ⟨a, r, rfl, hk⟩ := first_of c s h
    refine (slCut_at a r c hk hs w).mono ?_
    rintro e w' ⟨h1, h2⟩
    unfold CutPost
    rw [cut_at a r c hk]
    exact ⟨h1, h2⟩
  · refine (slCut_no s c (fun d hd e => h (e ▸ hd)) w).mono ?_
    rintro e w' ⟨h1, h2⟩
    unfold CutPost
    rw [cut_no s c (fun d hd e => h (e ▸ hd))]
    exact ⟨h1, h2⟩
set_option maxHeartbeats 1000000 in
theorem cut_any (s : List UInt8) (c : UInt8) (hs : s.length ≤ 1000000) (w : World) :
    Calls Tryz.prog 77 #[.string (str s), .string (str [c])] w (CutPost s c w) := by
  have HC := Lib.hid (slCut_any s c hs w)
  go_enter Tryz.func77, Tryz.ntmps77
  go_wp2_with fail
  refine HC.out.mono ?_
  rintro e w1 ⟨rfl, hE⟩
  have HE := Lib.hid hE
  clear hE
  go_wp2
  go_ret3
  exact ⟨rfl, HE.out⟩
end Go.Proofs.YtpcgpcjleedilaaGreatDoor

open Go.RowKit Go.Shelf
namespace Go.Proofs.YtpcgpcjleedilaaGreatDoor
open Go Go.Proofs Fm

set_option maxHeartbeats 1000000 in
theorem fplace_any (l : List Nd) (i : Int) (w : World) (v : Value) (h : ndE.Row w l v) :
    Calls Tryz.prog 68 #[v, .int .i64 i] w fun e w' => e = .returned (.bool (placeF l i)) ∧ w = w' := by
  obtain ⟨a, c, rfl, hc1, hc2⟩ := h.slice
  have HX := Lib.hid (show placeF l i = (decide (0 ≤ i) && decide (i < l.length)) from rfl)
  clear h
  by_cases h0 : 0 ≤ i
  · go_enter Tryz.func68, Tryz.ntmps68
    go_wp2
    go_ret
    exact ⟨by rw [HX.out]; simp [h0], rfl⟩
  · go_enter Tryz.func68, Tryz.ntmps68
    go_wp2
    go_ret
    exact ⟨by rw [HX.out]; simp; omega, rfl⟩
set_option maxHeartbeats 1000000 in
theorem rplace18_any (l : List Nd) (i : Int) (w : World) (v : Value) (h : ndE.Row w l v) :
    Calls Tryz.prog 70 #[v, .int .i64 i] w fun e w' => e = .returned (.bool (placeF l i)) ∧ w = w' := by
  obtain ⟨a, c, rfl, hc1, hc2⟩ := h.slice
  have HX := Lib.hid (show placeF l i = (decide (0 ≤ i) && decide (i < l.length)) from rfl)
  clear h
  by_cases h0 : 0 ≤ i
  · go_enter Tryz.func70, Tryz.ntmps70
    go_wp2
    go_ret
    exact ⟨by rw [HX.out]; simp [h0], rfl⟩
  · go_enter Tryz.func70, Tryz.ntmps70
    go_wp2
    go_ret
    exact ⟨by rw [HX.out]; simp; omega, rfl⟩
theorem u8_one {k : UInt8} (c : UInt8) : ((k.toNat : Int) == (c.toNat : Int)) = decide (k = c) := by
  rw [Bool.eq_iff_iff, beq_iff_eq, decide_eq_true_iff]
  constructor
  · intro h; exact UInt8.toNat_inj.1 (by exact_mod_cast h)
  · intro h; rw [h]
set_option maxRecDepth 100000 in
set_option maxHeartbeats 2000000 in
theorem fmaps_any (n : Nd) (w : World) (v : Value) (h : NdV w n v) :
    Calls Tryz.prog 66 #[v] w fun e w' => e = .returned (.bool (mapsF n)) ∧ Ext w w' := by
  obtain ⟨a, m, c, k, N, s, l, rfl, hr, hl, hb⟩ := h
  obtain ⟨a', c', e, hc1, hc2⟩ := hr.slice
  injection e with e1 e2 e3
  subst e1 e2 e3
  have HX := Lib.hid (show mapsF n = (decide (n.kind = 1) && decide (n.after ≠ [])) from rfl)
  have hk := u8_one (k := n.kind) 1
  rw [show (((1 : UInt8).toNat : Nat) : Int) = 1 from rfl] at hk
  have HB := Lib.hid (BoxL.new w (ndCells n (.slice a n.after.length c) k N s l) 46)
  have HE := Lib.hid ((Ext.refl w).alloc (.cells (ndCells n (.slice a n.after.length c) k N s l).toArray 46))
  clear hr hl hb
  unfold ndCells at HB HE ⊢
  generalize (n.kind.toNat : Int) = K at *
  go_enter Tryz.func66, Tryz.ntmps66
  go_upto_region 1 with (fail)
  generalize w.alloc _ = W1 at *
  have p2 := HB.out.cell 2 _ rfl
  have p6 := HB.out.cell 6 _ rfl
  by_cases h1 : n.kind = 1
  · have f1 : (K == 1) = true := by rw [hk]; simpa using h1
    have HY := Lib.hid (show mapsF n = decide (0 < n.after.length) by
      rw [HX.out, h1]
      cases n.after <;> simp)
    clear hk h1 HB HX
    go_wp2
    go_ret
    exact ⟨by rw [HY.out]; rfl, HE.out⟩
  · have f1 : (K == 1) = false := by rw [hk]; simpa using h1
    have HY := Lib.hid (show mapsF n = false by rw [HX.out]; simp [h1])
    clear hk h1 HB HX
    go_wp2
    go_ret
    exact ⟨by rw [HY.out]; rfl, HE.out⟩
set_option maxRecDepth 100000 in
set_option maxHeartbeats 2000000 in
theorem fanFits_any (t : Tr) (width : Int) (w : World) (v : Value) (h : Lies w t v) :
    Calls Tryz.prog 39 #[v, .int .i64 width] w fun e w' => e = .returned (.int .i64 (fitsF t width)) ∧ Ext w w' := by
  obtain ⟨kk, nn, ss, l⟩ := t
  obtain ⟨d, rfl, hn, hs, hl⟩ := h.parts
  obtain ⟨a, cap, rfl, hc1, hc2, -⟩ := hl
  have HX := Lib.hid (show fitsF (.node kk nn ss l) width = if kk ≠ 2 then 26 else if width < (l.length : Nat) then 24 else 0 from rfl)
  have hk := u8_one (k := kk) 2
  rw [show (((2 : UInt8).toNat : Nat) : Int) = 2 from rfl] at hk
  have HB := Lib.hid (BoxL.new w [.int .u8 (kk.toNat : Int), .int .i64 nn, .string (str ss), .slice a l.length cap] 44)
  have HE := Lib.hid ((Ext.refl w).alloc (.cells #[.int .u8 (kk.toNat : Int), .int .i64 nn, .string (str ss), .slice a l.length cap] 44))
  clear h hn hs
  generalize (kk.toNat : Int) = K at *
  go_enter Tryz.func39, Tryz.ntmps39
  go_upto_region 1 with (fail)
  generalize w.alloc _ = W1 at *
  have p0 := HB.out.cell 0 _ rfl
  have p3 := HB.out.cell 3 _ rfl
  by_cases h1 : kk = 2
  · have f1 : (K == 2) = true := by rw [hk]; simpa using h1
    have f2 : (K != 2) = false := by rw [bne, f1]; rfl
    have HY := Lib.hid (show fitsF (.node kk nn ss l) width = if width < (l.length : Nat) then 24 else 0 by rw [HX.out, if_neg (by simp [h1])])
    clear hk h1 HB HX
    by_cases h2 : width < (l.length : Int)
    · have HZ := Lib.hid (show fitsF (.node kk nn ss l) width = 24 by rw [HY.out, if_pos h2])
      clear HY
      go_wp2
      go_ret
      exact ⟨by rw [HZ.out]; rfl, HE.out⟩
    · have HZ := Lib.hid (show fitsF (.node kk nn ss l) width = 0 by rw [HY.out, if_neg h2])
      clear HY
      go_wp2
      go_ret
      exact ⟨by rw [HZ.out]; rfl, HE.out⟩
  · have f1 : (K == 2) = false := by rw [hk]; simpa using h1
    have f2 : (K != 2) = true := by rw [bne, f1]; rfl
    have HY := Lib.hid (show fitsF (.node kk nn ss l) width = 26 by rw [HX.out, if_pos h1])
    clear hk h1 HB HX
    go_wp2
    go_ret
    exact ⟨by rw [HY.out]; rfl, HE.out⟩
set_option maxRecDepth 100000 in
set_option maxHeartbeats 2000000 in
theorem rfits18_any (t : Tr) (width : Int) (w : World) (v : Value) (h : Lies w t v) :
    Calls Tryz.prog 40 #[v, .int .i64 width] w fun e w' => e = .returned (.int .i64 (fitsF t width)) ∧ Ext w w' := by
  obtain ⟨kk, nn, ss, l⟩ := t
  obtain ⟨d, rfl, hn, hs, hl⟩ := h.parts
  obtain ⟨a, cap, rfl, hc1, hc2, -⟩ := hl
  have HX := Lib.hid (show fitsF (.node kk nn ss l) width = if kk ≠ 2 then 26 else if width < (l.length : Nat) then 24 else 0 from rfl)
  have hk := u8_one (k := kk) 2
  rw [show (((2 : UInt8).toNat : Nat) : Int) = 2 from rfl] at hk
  have HB := Lib.hid (BoxL.new w [.int .u8 (kk.toNat : Int), .int .i64 nn, .string (str ss), .slice a l.length cap] 44)
  have HE := Lib.hid ((Ext.refl w).alloc (.cells #[.int .u8 (kk.toNat : Int), .int .i64 nn, .string (str ss), .slice a l.length cap] 44))
  clear h hn hs
  generalize (kk.toNat : Int) = K at *
  go_enter Tryz.func40, Tryz.ntmps40
  go_upto_region 1 with (fail)
  generalize w.alloc _ = W1 at *
  have p0 := HB.out.cell 0 _ rfl
  have p3 := HB.out.cell 3 _ rfl
  by_cases h1 : kk = 2
  · have f1 : (K == 2) = true := by rw [hk]; simpa using h1
    have f2 : (K != 2) = false := by rw [bne, f1]; rfl
    have HY := Lib.hid (show fitsF (.node kk nn ss l) width = if width < (l.length : Nat) then 24 else 0 by rw [HX.out, if_neg (by simp [h1])])
    clear hk h1 HB HX
    by_cases h2 : width < (l.length : Int)
    · have HZ := Lib.hid (show fitsF (.node kk nn ss l) width = 24 by rw [HY.out, if_pos h2])
      clear HY
      go_wp2
      go_ret
      exact ⟨by rw [HZ.out]; rfl, HE.out⟩
    · have HZ := Lib.hid (show fitsF (.node kk nn ss l) width = 0 by rw [HY.out, if_neg h2])
      clear HY
      go_wp2
      go_ret
      exact ⟨by rw [HZ.out]; rfl, HE.out⟩
  · have f1 : (K == 2) = false := by rw [hk]; simpa using h1
    have f2 : (K != 2) = true := by rw [bne, f1]; rfl
    have HY := Lib.hid (show fitsF (.node kk nn ss l) width = 26 by rw [HX.out, if_pos h1])
    clear hk h1 HB HX
    go_wp2
    go_ret
    exact ⟨by rw [HY.out]; rfl, HE.out⟩
end Go.Proofs.YtpcgpcjleedilaaGreatDoor
