/- FanTells answers true at every input. -/
import Derived.Test.YtpcgpcjleedilaaGreatDoorPlW
import Derived.Test.YtpcgpcjleedilaaGreatDoorSnL
import Derived.Test.YtpcgpcjleedilaaGreatDoorSnRs
open Go.RowKit Go.Shelf
namespace Go.Proofs.YtpcgpcjleedilaaGreatDoor
open Go Go.Proofs Fm

def vT (l : List Nd) (m : Int) : Tr := match valuesF l m with
  | some r => listV r
  | none => zT
def iT (l : List Nd) (i : Int) : List Tr := (inputF l i).getD []
theorem ValuesPost.tells {w w' : World} {l : List Nd} {m : Int} {e : Ending} (h : ValuesPost w l m e w') : ∃ (k0 n0 : Int) (s0 : ByteArray) (a0 : Option Addr) (m0 c0 : Nat), e = .returned (.tuple #[.agg #[.int .u8 k0, .int .i64 n0, .string s0, .slice a0 m0 c0], .bool (valuesF l m).isSome]) ∧ Ext w w' ∧ Lies w' (vT l m) (.agg #[.int .u8 k0, .int .i64 n0, .string s0, .slice a0 m0 c0]) := by
  obtain ⟨v, b, rfl, hE, hy, hn⟩ := h
  unfold vT
  cases e : valuesF l m with
  | none =>
    obtain ⟨rfl, rfl⟩ := hn e
    exact ⟨_, _, _, _, _, _, rfl, hE, zT_lies w'⟩
  | some r =>
    obtain ⟨rfl, ho⟩ := hy r e
    have hl := ho.lies
    obtain ⟨d, rfl, -, -, hd⟩ := ho.lies.parts
    obtain ⟨a, c, rfl, -⟩ := hd
    exact ⟨_, _, _, _, _, _, rfl, hE, hl⟩
theorem RValuesPost.tells {w w' : World} {l : List Nd} {m : Int} {e : Ending} (h : RValuesPost w l m e w') : ∃ (k0 n0 : Int) (s0 : ByteArray) (a0 : Option Addr) (m0 c0 : Nat), e = .returned (.tuple #[.agg #[.int .u8 k0, .int .i64 n0, .string s0, .slice a0 m0 c0], .bool (valuesF l m).isSome]) ∧ Ext w w' ∧ Lies w' (vT l m) (.agg #[.int .u8 k0, .int .i64 n0, .string s0, .slice a0 m0 c0]) := by
  obtain ⟨k0, n0, s0, a0, m0, c0, b, rfl, hE, hy, hn⟩ := h
  unfold vT
  cases e : valuesF l m with
  | none =>
    obtain ⟨rfl, ho⟩ := hn e
    exact ⟨_, _, _, _, _, _, rfl, hE, ho⟩
  | some r =>
    obtain ⟨rfl, ho⟩ := hy r e
    exact ⟨_, _, _, _, _, _, rfl, hE, ho⟩
theorem InputPost.tells {w w' : World} {l : List Nd} {i : Int} {e : Ending} (h : InputPost w l i e w') : ∃ (A : Option Addr) (m c : Nat), e = .returned (.tuple #[.slice A m c, .bool (inputF l i).isSome]) ∧ Ext w w' ∧ LiesS w' (iT l i) (.slice A m c) := by
  obtain ⟨A, m, c, b, rfl, hE, hy, hn⟩ := h
  unfold iT
  cases e : inputF l i with
  | none =>
    obtain ⟨rfl, rfl, rfl, rfl⟩ := hn e
    exact ⟨_, _, _, rfl, hE, LiesS.nil w' none⟩
  | some r =>
    obtain ⟨rfl, ho⟩ := hy r e
    exact ⟨_, _, _, rfl, hE, ho.lies⟩
theorem RInputPost.tells {w w' : World} {l : List Nd} {i : Int} {e : Ending} (h : RInputPost w l i e w') : ∃ (A : Option Addr) (m c : Nat), e = .returned (.tuple #[.slice A m c, .bool (inputF l i).isSome]) ∧ Ext w w' ∧ LiesS w' (iT l i) (.slice A m c) := by
  obtain ⟨A, m, c, b, rfl, hE, hy, hn⟩ := h
  unfold iT
  cases e : inputF l i with
  | none =>
    obtain ⟨rfl, rfl, rfl, rfl⟩ := hn e
    exact ⟨_, _, _, rfl, hE, LiesS.nil w' none⟩
  | some r =>
    obtain ⟨rfl, ho⟩ := hy r e
    exact ⟨_, _, _, rfl, hE, ho⟩
theorem ListPost.tells {w w' : World} {l : List Nd} {m : Int} {e : Ending} (h : ListPost w l m e w') : ∃ (A : Option Addr) (n c : Nat), e = .returned (.tuple #[.slice A n c, .int .i64 (listF l m).2]) ∧ Ext w w' ∧ LiesS w' (listF l m).1 (.slice A n c) := by
  obtain ⟨d, rfl, hE, ho⟩ := h
  have hl := ho.lies
  obtain ⟨a, c, rfl, -⟩ := ho.lies
  exact ⟨_, _, _, rfl, hE, hl⟩
theorem _root_.Fm.CopyN.rowE {eN eI eV : TypeId} {base : Nat} {w : World} {v : Value} {l : List Nd} (h : CopyN eN eI eV base w v l) : ndE.Row w l v := by
  obtain ⟨ds, h1, h2, h3⟩ := h.far (row := none) (fun b hb => by cases hb)
  exact ndRow_parts h1 h2 (fun i hi hc => ⟨(h3 i hi hc).1, (h3 i hi hc).2.2 w (grown_ext (Ext.refl w) _)⟩)
def sn0 (l : List Nd) : Sn := ⟨0, 0, 0, 0, 0, 0, l, 0⟩
theorem sn0_v {w : World} {l : List Nd} {a : Option Addr} {m c : Nat} (h : ndE.Row w l (.slice a m c)) : SnV w (sn0 l) (.agg #[.int .i64 0, .int .i64 0, .int .i64 0, .int .i64 0, .int .i64 0, .int .i64 0, .slice a m c, .int .i64 0]) := by
  have z : isI64 0 := by unfold isI64; omega
  exact ⟨a, m, c, rfl, h, z, z, z, z, z, z, z⟩
theorem row_one {w : World} {n : Nd} {C : List Value} (h : NdV w n (.agg C.toArray)) : ndE.Row (w.alloc (.cells C.toArray 46)) [n] (.slice (some ⟨w.heap.size, 0, none⟩) 1 1) := by
  have h16 := (ndV_one h).1
  have ho := World.ownsRow_lit w C.toArray 1 (base := w.heap.size) (e := 46) (size := 16) (Nat.le_refl _) (by unfold maxLen; omega) (by simpa using h16)
  refine ndRow_parts (cs := [C]) rfl (by simpa using ho) (fun i hi hc => ?_)
  obtain rfl : i = 0 := by simpa using hi
  exact ⟨h16, h.ext ((Ext.refl w).alloc _)⟩
theorem fill_nodes1 {C : List Value} (hC : C.length = 16) (n : Nat) (hn : n = 16) (z : Value) (hz : z = .agg ndZ.toArray) :
    Instr.fill (fun i => some (i * n, n)) ((Array.range (1 * n)).map (z.cells[· % z.cells.size]!)) [(0, .agg C.toArray)] = some C.toArray := by
  subst hn hz
  obtain ⟨c0, c1, c2, c3, c4, c5, c6, c7, c8, c9, c10, c11, c12, c13, c14, c15, rfl⟩ := list_of16 hC
  kernel_rfl
/-- A slice of one node, whatever its cells, at an operation that is wanted. -/
theorem wpList_nodes1G {ops : Array Oper} {rest : List Oper} {o : Oper} {a : Act} {w : World} {Q : Exit → Act → World → Prop} {C : List Value} (hg : Region.wanted o (yielded ops a.tmps) = true) (s1 : Operand) (ho : o.op = .buildSlice 40 1 #[(0, s1)])
    (h1 : a.eval s1 = .agg C.toArray) (hC : C.length = 16)
    (h : wpList Tryz.prog ops Q rest (a.put o.dst (.slice (some ⟨w.heap.size, 0, none⟩) 1 1)) (w.alloc (.cells C.toArray 46))) : wpList Tryz.prog ops Q (o :: rest) a w := by
  obtain ⟨i, i1, i2, i3, i4⟩ := info_parts infonode_F
  unfold wpList
  rw [if_pos hg]
  left
  refine wp_buildSlice 40 46 1 _ ho C.toArray i (.agg ndZ.toArray) Tryz.underlying40 i1 i2 (by rw [i3]; decide) (by rw [i3]; decide) ?_ h
  have e : (#[(0, s1)].map fun (x : Nat × Operand) => (x.1, a.eval x.2)).toList = [(0, .agg C.toArray)] := by simp [h1]
  exact (congrArg _ e).trans (fill_nodes1 hC i.size i3 _ rfl)
theorem few_one {s : Sn} (h : fewSn s = true) : s.nodes.length ≤ 60 ∧ ∀ x, x ∈ s.nodes → x.id.length ≤ 500 ∧ x.after.length ≤ 40 ∧ partsT x.val ≤ 600 := by
  unfold fewSn at h
  simp only [Bool.and_eq_true, decide_eq_true_eq, List.all_eq_true] at h
  refine ⟨h.1, fun x hx => ?_⟩
  have h2 := h.2 x hx
  unfold lightNd lightT at h2
  simp only [Bool.and_eq_true, decide_eq_true_eq] at h2
  exact ⟨h2.1, h2.2.2.1, Nat.le_trans (Nat.le_of_eq (fewT_light 20 x.val h2.2.2.2).1.symm) h2.2.2.2⟩
set_option maxRecDepth 100000 in
set_option maxHeartbeats 4000000 in
theorem fanTells_any (w : World) (l : List Nd) (v : Value) (hv : ndE.Row w l v) (i : Int) (hi : isI64 i) (m : Nd) (x : Value) (hx : NdV w m x) (at' : Int) (hat : isI64 at') (n : Int) (hn : isI64 n) (hw : KW w) :
    Calls Tryz.prog 4 #[v, .int .i64 i, x, .int .i64 at', .int .i64 n] w fun e w' => e = .returned (.bool true) ∧ Ext w w' := by
  have HKW := Lib.hid hw
  have HR := Lib.hid hv
  have HAT := Lib.hid hat
  obtain ⟨a, c, rfl, hc1, hc2⟩ := hv.slice
  obtain ⟨Cs, rfl, hCs⟩ : ∃ Cs : List Value, x = .agg Cs.toArray ∧ NdV w m (.agg Cs.toArray) := by
    obtain ⟨aa, ma, ca, k, N, s, d, e, h⟩ := id hx
    exact ⟨_, e, by rw [← e]; exact hx⟩
  obtain ⟨hC16, hC1⟩ := ndV_one hCs
  have HC16 := Lib.hid hC16
  have HC1 := Lib.hid hC1
  have HNV := Lib.hid hCs
  have HLn : Hid ((Tryz.prog.info? 46).map (·.size) = some Cs.length) := Lib.hid (by rw [hC16]; exact sizenode_F)
  obtain ⟨LL, hLL⟩ : ∃ LL, LL = l.length := ⟨_, rfl⟩
  have HLL := Lib.hid hLL
  have HRL : Hid (ndE.Row w l (.slice a LL c)) := Lib.hid (by rw [hLL]; exact HR.out)
  rw [← hLL] at hc1 ⊢
  have hE1 := (Ext.refl w).alloc (.cells Cs.toArray 46)
  have hXR := rangeAt_new w Cs 46
  clear hv hx hi hat hn hw hC16 hC1 hCs hLL HR
  go_enter Tryz.func4, Tryz.ntmps4
  go_upto_region 1 with (fail)
  obtain ⟨XB, hXB⟩ : ∃ XB, XB = w.heap.size := ⟨_, rfl⟩
  have hXs : XB < (w.alloc (.cells Cs.toArray 46)).heap.size := by rw [hXB]; simp
  rw [← hXB] at hXR ⊢
  generalize w.alloc (.cells Cs.toArray 46) = W1 at *
  have HE1 := Lib.hid hE1
  have HXR := Lib.hid hXR
  clear hXB hE1 hXR
  go_wp2_with fail
  refine (few11_any (sn0 l) W1 _ (sn0_v (HRL.out.ext HE1.out))).mono ?_
  rintro e w2 ⟨rfl, hE2⟩
  have HE2 := Lib.hid (HE1.out.trans hE2)
  have HX2 := Lib.hid (rangeAt_ext HXR.out hE2 hXs)
  have hXs2 : XB < w2.heap.size := Nat.lt_of_lt_of_le hXs hE2.size
  clear hE2 HE1 HXR hXs
  cases hf : fewSn (sn0 l)
  case false =>
    have HAW := Lib.hid (awake18_any w2 (HKW.out.ext HE2.out))
    clear hf
    go_wp2_with fail
    refine HAW.out.mono ?_
    rintro e w3 ⟨rfl, hE⟩
    have HE := Lib.hid (HE2.out.trans hE)
    clear hE
    go_wp2
    go_ret
    exact ⟨rfl, HE.out⟩
  have HF1 := Lib.hid (few_one hf)
  clear hf
  go_wp2_with (first | (refine wpList_load_midG (by rfl) _ _ rfl _ _ rfl _ _ HX2.out Tryz.underlying46 rfl HLn.out ?_) | (refine wpList_nodes1G (C := Cs) (by rfl) (.tmp 31) rfl rfl HC16.out ?_))
  have hEa := (Ext.refl w2).alloc (.cells Cs.toArray 46)
  refine (few11_any (sn0 [m]) _ _ (sn0_v (row_one (HNV.out.ext HE2.out)))).mono ?_
  rintro e w3 ⟨rfl, hE3⟩
  have HE3 := Lib.hid (HE2.out.trans (hEa.trans hE3))
  have HX3 := Lib.hid (rangeAt_ext HX2.out (hEa.trans hE3) hXs2)
  have hXs3 : XB < w3.heap.size := Nat.lt_of_lt_of_le hXs2 (hEa.trans hE3).size
  clear hEa hE3 HE2 HX2 hXs2
  cases hf : fewSn (sn0 [m])
  case false =>
    have HAW := Lib.hid (awake18_any w3 (HKW.out.ext HE3.out))
    clear hf
    go_wp2_with fail
    refine HAW.out.mono ?_
    rintro e w4 ⟨rfl, hE⟩
    have HE := Lib.hid (HE3.out.trans hE)
    clear hE
    go_wp2
    go_ret
    exact ⟨rfl, HE.out⟩
  have HFM := Lib.hid ((few_one hf).2 m (by show m ∈ [m]; simp))
  clear hf
  go_upto_region 3 with (fail)
  have HXS : Hid (∀ wx, Ext w3 wx → wx.rangeAt XB 0 Cs) := Lib.hid (fun wx hx => rangeAt_ext HX3.out hx hXs3)
  have ED := Lib.hid (Ext.refl w3).drew
  refine wp_region_held_drew (S := (fun w' => w'.rangeAt XB 0 Cs)) (by kernel_rfl) ?_ (fun hHeld => ?_)
  · (try dsimp only)
    (first | exact HXS.out _ ED.out | exact HXS.out _ E1.out | exact HXS.out _ E2.out)
  refine take_mid 0 (some 38) (cs := Cs) (by kernel_rfl) (by kernel_rfl) (by kernel_rfl) (by kernel_rfl) (by kernel_rfl) (fun _ _ _ h => h) (by rfl) 46 (.tmp 7) (by kernel_rfl) XB 0 (by rfl) _ (fun _ h => h) Tryz.underlying46 rfl HLn.out (by assumption) ?_
  try simp only [Act.put, List.setIfInBounds_toArray, List.set_cons_zero, List.set_cons_succ]
  refine take_w 1 (some 39) (v := ?_) (by kernel_rfl) (by kernel_rfl) (by kernel_rfl) (by kernel_rfl) (by kernel_rfl) (fun _ _ _ h => h) (by rfl) ?_ (by assumption) ?_
  rotate_left
  · (intro w hSw; (try dsimp only at hSw); go_simp; try with_reducible rfl)
  try simp only [Act.put, List.setIfInBounds_toArray, List.set_cons_zero, List.set_cons_succ]
  refine take_w 2 (some 40) (v := ?_) (by kernel_rfl) (by kernel_rfl) (by kernel_rfl) (by kernel_rfl) (by kernel_rfl) (fun _ _ _ h => h) (by rfl) ?_ (by assumption) ?_
  rotate_left
  · (intro w hSw; (try dsimp only at hSw); go_simp; try with_reducible rfl)
  try simp only [Act.put, List.setIfInBounds_toArray, List.set_cons_zero, List.set_cons_succ]
  refine take_mid 4 (some 42) (cs := Cs) (by kernel_rfl) (by kernel_rfl) (by kernel_rfl) (by kernel_rfl) (by kernel_rfl) (fun _ _ _ h => h) (by rfl) 46 (.tmp 7) (by kernel_rfl) XB 0 (by rfl) _ (fun _ h => h) Tryz.underlying46 rfl HLn.out (by assumption) ?_
  try simp only [Act.put, List.setIfInBounds_toArray, List.set_cons_zero, List.set_cons_succ]
  refine take_w 5 (some 43) (v := ?_) (by kernel_rfl) (by kernel_rfl) (by kernel_rfl) (by kernel_rfl) (by kernel_rfl) (fun _ _ _ h => h) (by rfl) ?_ (by assumption) ?_
  rotate_left
  · (intro w hSw; (try dsimp only at hSw); go_simp; try with_reducible rfl)
  try simp only [Act.put, List.setIfInBounds_toArray, List.set_cons_zero, List.set_cons_succ]
  refine take_w 6 (some 44) (v := ?_) (by kernel_rfl) (by kernel_rfl) (by kernel_rfl) (by kernel_rfl) (by kernel_rfl) (fun _ _ _ h => h) (by rfl) ?_ (by assumption) ?_
  rotate_left
  · (intro w hSw; (try dsimp only at hSw); go_simp; try with_reducible rfl)
  try simp only [Act.put, List.setIfInBounds_toArray, List.set_cons_zero, List.set_cons_succ]
  refine ready_one 3 (by kernel_rfl) (by kernel_rfl) (by rfl) (fun Kc hKc => ?_)
  go_simp
  refine (feach_any m at' n HAT.out (by have := HFM.out.1; omega) (by have := HFM.out.2.1; omega) _ (HKW.out.ext (HE3.out.trans ED.out)) _ (HNV.out.ext (HE3.out.trans ED.out))).mono ?_
  rintro e y1 ⟨d1, rfl, hE, hC⟩
  have hR1 := hC.rowE
  obtain ⟨A1, C1, rfl, -⟩ := hR1.slice
  have HC41 := Lib.hid hR1
  have E1 := Lib.hid (ED.out.trans hE)
  clear hE hC hR1
  try go_wp2_with fail
  refine hKc.out _ _ ?_ (fun hHeld => ?_)
  · (try dsimp only)
    (first | exact HXS.out _ ED.out | exact HXS.out _ E1.out | exact HXS.out _ E2.out)
  clear hKc Kc
  try simp only [Act.put, List.setIfInBounds_toArray, List.set_cons_zero, List.set_cons_succ]
  refine ready_one 7 (by kernel_rfl) (by kernel_rfl) (by rfl) (fun Kc hKc => ?_)
  go_simp
  refine (reach18_any m at' n HAT.out (by have := HFM.out.1; omega) (by have := HFM.out.2.1; omega) _ _ (HNV.out.ext (HE3.out.trans E1.out))).mono ?_
  rintro e y2 ⟨A2, k2, C2, rfl, hE, hR2⟩
  have HR45 := Lib.hid hR2
  have HE42 := Lib.hid hE
  have E2 := Lib.hid (E1.out.trans hE)
  clear hE hR2
  try go_wp2_with fail
  refine hKc.out _ _ ?_ (fun hHeld => ?_)
  · (try dsimp only)
    (first | exact HXS.out _ ED.out | exact HXS.out _ E1.out | exact HXS.out _ E2.out)
  clear hKc Kc
  try simp only [Act.put, List.setIfInBounds_toArray, List.set_cons_zero, List.set_cons_succ]
  refine take_w 8 (some 11) (v := ?_) (by kernel_rfl) (by kernel_rfl) (by kernel_rfl) (by kernel_rfl) (by kernel_rfl) (fun _ _ _ h => h) (by rfl) ?_ (by assumption) ?_
  rotate_left
  · (intro w hSw; (try dsimp only at hSw); go_simp; try with_reducible rfl)
  try simp only [Act.put, List.setIfInBounds_toArray, List.set_cons_zero, List.set_cons_succ]
  refine take_w 9 (some 12) (v := ?_) (by kernel_rfl) (by kernel_rfl) (by kernel_rfl) (by kernel_rfl) (by kernel_rfl) (fun _ _ _ h => h) (by rfl) ?_ (by assumption) ?_
  rotate_left
  · (intro w hSw; (try dsimp only at hSw); go_simp; try with_reducible rfl)
  try simp only [Act.put, List.setIfInBounds_toArray, List.set_cons_zero, List.set_cons_succ]
  refine wpAnyH_done (by kernel_rfl) ?_ _
  have HE4 := Lib.hid (HE3.out.trans E2.out)
  have HY1 := Lib.hid (HC41.out.ext HE42.out)
  have HY2 := HR45
  clear HXS HX3 hXs3 ED E1 E2 HC41 HE42 HR45 HE3 hHeld
  go_wp2_with fail
  refine (rsSame_any (sn0 (eachF m at' n)) (sn0 (eachF m at' n)) y2 _ _ (sn0_v HY1.out) (sn0_v HY2.out)).mono ?_
  rw [eqSn_refl]
  rintro e w5 ⟨rfl, hE5⟩
  have HE5 := Lib.hid (HE4.out.trans hE5)
  clear hE5 HY1 HY2 HE4
  have HPT := Lib.hid (fun x hx => Nat.le_trans (HF1.out.2 x hx).2.2 (by omega : 600 ≤ 1000000))
  have HC := Lib.hid (flist_any l i HPT.out w5 _ (HRL.out.ext HE5.out))
  go_wp2_with fail
  refine HC.out.mono ?_
  rintro e w6 h6
  obtain ⟨A6, n6, c6, rfl, hE6, hL6⟩ := h6.tells
  have HE6 := Lib.hid (HE5.out.trans hE6)
  have HL6 := Lib.hid hL6
  clear HC h6 hE6 hL6
  have HC := Lib.hid (rlist18_any l i w6 _ (HRL.out.ext HE6.out))
  obtain ⟨fe, hfe⟩ : ∃ fe, fe = (listF l i).2 := ⟨_, rfl⟩
  rw [← hfe]
  have HFE := Lib.hid hfe
  clear hfe
  go_wp2_with fail
  refine HC.out.mono ?_
  rintro e w7 ⟨A7, n7, c7, rfl, hE7, hL7⟩
  rw [← HFE.out]
  have HE7 := Lib.hid (HE6.out.trans hE7)
  have HL67 := Lib.hid (HL6.out.ext hE7)
  have HL7 := Lib.hid hL7
  clear HC hE7 hL7 HL6
  have HC := Lib.hid (fvalues_any l i (by have := HF1.out.1; show l.length ≤ _; have e : (sn0 l).nodes = l := rfl; rw [e] at this; omega) HPT.out w7 _ (HRL.out.ext HE7.out))
  obtain ⟨b1, hb1⟩ : ∃ b1 : Bool, b1 = (valuesF l i).isSome := ⟨_, rfl⟩
  have HB1 := Lib.hid hb1
  clear hb1
  go_wp2_with fail
  refine HC.out.mono ?_
  rintro e w8 h8
  obtain ⟨k8, n8, s8, a8, m8, c8, rfl, hE8, hL8⟩ := h8.tells
  rw [← HB1.out]
  have hEa := (Ext.refl w8).alloc (.cells #[.int .u8 k8, .int .i64 n8, .string s8, .slice a8 m8 c8] 44)
  have HBX := Lib.hid (Box4.new w8 (.int .u8 k8) (.int .i64 n8) (.string s8) (.slice a8 m8 c8))
  have HE8 := Lib.hid (HE7.out.trans (hE8.trans hEa))
  have HLx := Lib.hid (hL8.ext hEa)
  have HL6 := Lib.hid (HL67.out.ext (hE8.trans hEa))
  have HL7b := Lib.hid (HL7.out.ext (hE8.trans hEa))
  clear HC h8 hE8 hL8 hEa HL67 HL7
  go_upto_region 9 with (fail)
  generalize hBV : w8.heap.size = BV at *
  generalize w8.alloc (.cells #[.int .u8 k8, .int .i64 n8, .string s8, .slice a8 m8 c8] 44) = W8 at *
  have HC := Lib.hid (rvalues18_any l i (by have := HF1.out.1; show l.length ≤ _; have e : (sn0 l).nodes = l := rfl; rw [e] at this; omega) W8 _ (HRL.out.ext HE8.out))
  clear hBV
  go_wp2_with fail
  refine HC.out.mono ?_
  rintro e w9 h9
  obtain ⟨k9, n9, s9, a9, m9, c9, rfl, hE9, hL9⟩ := h9.tells
  rw [← HB1.out]
  have hEa := (Ext.refl w9).alloc (.cells #[.int .u8 k9, .int .i64 n9, .string s9, .slice a9 m9 c9] 44)
  have HBY := Lib.hid (Box4.new w9 (.int .u8 k9) (.int .i64 n9) (.string s9) (.slice a9 m9 c9))
  have HE9 := Lib.hid (HE8.out.trans (hE9.trans hEa))
  have HLy := Lib.hid (hL9.ext hEa)
  have HLx9 := Lib.hid (HLx.out.ext (hE9.trans hEa))
  have HBX9 := Lib.hid (HBX.out.ext (hE9.trans hEa))
  have HL69 := Lib.hid (HL6.out.ext (hE9.trans hEa))
  have HL79 := Lib.hid (HL7b.out.ext (hE9.trans hEa))
  clear HC h9 hE9 hL9 hEa HL6 HL7b HLx HBX
  go_upto_region 10 with (fail)
  generalize hBW : w9.heap.size = BW at *
  generalize w9.alloc (.cells #[.int .u8 k9, .int .i64 n9, .string s9, .slice a9 m9 c9] 44) = W9 at *
  have HC := Lib.hid (finput_any l i (fun x hx => ⟨HPT.out x hx, by have := (HF1.out.2 x hx).2.1; omega⟩) W9 _ (HRL.out.ext HE9.out))
  obtain ⟨b2, hb2⟩ : ∃ b2 : Bool, b2 = (inputF l i).isSome := ⟨_, rfl⟩
  have HB2 := Lib.hid hb2
  clear hb2 hBW
  go_wp2_with fail
  refine HC.out.mono ?_
  rintro e w10 h10
  obtain ⟨A10, n10, c10, rfl, hE10, hL10⟩ := h10.tells
  rw [← HB2.out]
  have HE10 := Lib.hid (HE9.out.trans hE10)
  have HEw := Lib.hid hE10
  have HL10 := Lib.hid hL10
  clear HC h10 hE10 hL10
  have HC := Lib.hid (rinput18_any l i (fun x hx => by have := (HF1.out.2 x hx).2.1; omega) w10 _ (HRL.out.ext HE10.out))
  go_wp2_with fail
  refine HC.out.mono ?_
  rintro e w11 h11
  obtain ⟨A11, n11, c11, rfl, hE11, hL11⟩ := h11.tells
  rw [← HB2.out]
  have HE11 := Lib.hid (HE10.out.trans hE11)
  have HEw11 := Lib.hid (HEw.out.trans hE11)
  have HL10b := Lib.hid (HL10.out.ext hE11)
  have HL11 := Lib.hid hL11
  clear HC h11 hE11 hL11 HL10 HEw
  by_cases h0 : 0 < LL
  case' pos =>
    have h0' : (0 : Int) < (LL : Int) := by omega
    have hl0 : 0 < l.length := by rw [← HLL.out]; exact h0
    obtain ⟨b', off', rfl, hb', aa', ma', ca', K', N', S', D', ⟨x0, x1, x2, x3, x4, x5, x6, x7, x8, x9, x10, x11, e0, e1, e2, e3⟩, hnv⟩ := nd_at16 HRL.out HE11.out 0 hl0
    obtain ⟨k0, n0, s0, a0, m0, c0, rfl, rfl, rfl, rfl⟩ := hnv.four
    obtain ⟨-, hlv, -⟩ := nd_parts hnv
    simp only [Nat.zero_mul, Nat.add_zero] at e0 e1 e2 e3
    have hEa := (Ext.refl w11).alloc (.cells #[.int .u8 k0, .int .i64 n0, .string s0, .slice a0 m0 c0] 44)
    have hBx := Box4.new w11 (.int .u8 k0) (.int .i64 n0) (.string s0) (.slice a0 m0 c0)
    obtain ⟨tv, htv⟩ : ∃ tv, tv = l[0].val := ⟨_, rfl⟩
    rw [← htv] at hlv
    have HLv := Lib.hid ((hlv.ext HE11.out).ext hEa)
    have HEz := Lib.hid (HE11.out.trans hEa)
    have HEw12 := Lib.hid (HEw11.out.trans hEa)
    have HL10c := Lib.hid (HL10b.out.ext hEa)
    have HL11c := Lib.hid (HL11.out.ext hEa)
    clear x0 x1 x2 x3 x4 x5 x6 x7 x8 x9 x10 x11 hnv hlv htv hEa h0 hb'
    go_upto_region 14 with (fail)
    clear e0 e1 e2 e3
    generalize hBU : w11.heap.size = BU at *
    generalize w11.alloc (.cells #[.int .u8 k0, .int .i64 n0, .string s0, .slice a0 m0 c0] 44) = w12 at *
    have HS : Hid (∀ wx, Ext w12 wx → wx.cell? ⟨BU, 0, none⟩ = some (.int .u8 k0) ∧ wx.cell? ⟨BU, 1, none⟩ = some (.int .i64 n0) ∧ wx.cell? ⟨BU, 2, none⟩ = some (.string s0) ∧ wx.cell? ⟨BU, 3, none⟩ = some (.slice a0 m0 c0)) := Lib.hid (fun wx hx => (hBx.ext hx).cells)
    have ED := Lib.hid (Ext.refl w12).drew
    clear hBU hBx
    refine wp_region_held_drew (S := (fun w' => w'.cell? ⟨BU, 0, none⟩ = some (.int .u8 k0) ∧ w'.cell? ⟨BU, 1, none⟩ = some (.int .i64 n0) ∧ w'.cell? ⟨BU, 2, none⟩ = some (.string s0) ∧ w'.cell? ⟨BU, 3, none⟩ = some (.slice a0 m0 c0))) (by kernel_rfl) ?_ (fun hHeld => ?_)
    · (try dsimp only)
      (first | exact HS.out _ ED.out | exact HS.out _ E1.out | exact HS.out _ E2.out)
    refine take_w 0 (some 95) (v := ?_) (by kernel_rfl) (by kernel_rfl) (by kernel_rfl) (by kernel_rfl) (by kernel_rfl) (fun _ _ _ h => h) (by rfl) ?_ (by assumption) ?_
    rotate_left
    · (intro w hSw; (try dsimp only at hSw); go_simp; try with_reducible rfl)
    try simp only [Act.put, List.setIfInBounds_toArray, List.set_cons_zero, List.set_cons_succ]
    refine take_w 1 (some 96) (v := ?_) (by kernel_rfl) (by kernel_rfl) (by kernel_rfl) (by kernel_rfl) (by kernel_rfl) (fun _ _ _ h => h) (by rfl) ?_ (by assumption) ?_
    rotate_left
    · (intro w hSw; (try dsimp only at hSw); go_simp; try with_reducible rfl)
    try simp only [Act.put, List.setIfInBounds_toArray, List.set_cons_zero, List.set_cons_succ]
    refine take_w 3 (some 98) (v := ?_) (by kernel_rfl) (by kernel_rfl) (by kernel_rfl) (by kernel_rfl) (by kernel_rfl) (fun _ _ _ h => h) (by rfl) ?_ (by assumption) ?_
    rotate_left
    · (intro w hSw; (try dsimp only at hSw); go_simp; try with_reducible rfl)
    try simp only [Act.put, List.setIfInBounds_toArray, List.set_cons_zero, List.set_cons_succ]
    refine take_w 4 (some 99) (v := ?_) (by kernel_rfl) (by kernel_rfl) (by kernel_rfl) (by kernel_rfl) (by kernel_rfl) (fun _ _ _ h => h) (by rfl) ?_ (by assumption) ?_
    rotate_left
    · (intro w hSw; (try dsimp only at hSw); go_simp; try with_reducible rfl)
    try simp only [Act.put, List.setIfInBounds_toArray, List.set_cons_zero, List.set_cons_succ]
    refine ready_one 2 (by kernel_rfl) (by kernel_rfl) (by rfl) (fun Kc hKc => ?_)
    go_simp
    refine (fanFits_any tv n _ _ (HLv.out.ext ED.out)).mono ?_
    rintro e y13 ⟨rfl, hE⟩
    have E1 := Lib.hid (ED.out.trans hE)
    clear hE
    try go_wp2_with fail
    refine hKc.out _ _ ?_ (fun hHeld => ?_)
    · (try dsimp only)
      (first | exact HS.out _ ED.out | exact HS.out _ E1.out | exact HS.out _ E2.out)
    clear hKc Kc
    try simp only [Act.put, List.setIfInBounds_toArray, List.set_cons_zero, List.set_cons_succ]
    refine ready_one 5 (by kernel_rfl) (by kernel_rfl) (by rfl) (fun Kc hKc => ?_)
    go_simp
    refine (rfits18_any tv n _ _ (HLv.out.ext E1.out)).mono ?_
    rintro e y14 ⟨rfl, hE⟩
    have E2 := Lib.hid (E1.out.trans hE)
    clear hE
    try go_wp2_with fail
    refine hKc.out _ _ ?_ (fun hHeld => ?_)
    · (try dsimp only)
      (first | exact HS.out _ ED.out | exact HS.out _ E1.out | exact HS.out _ E2.out)
    clear hKc Kc
    try simp only [Act.put, List.setIfInBounds_toArray, List.set_cons_zero, List.set_cons_succ]
    refine take_w 6 (some 101) (v := ?_) (by kernel_rfl) (by kernel_rfl) (by kernel_rfl) (by kernel_rfl) (by kernel_rfl) (fun _ _ _ h => h) (by rfl) ?_ (by assumption) ?_
    rotate_left
    · (intro w hSw; (try dsimp only at hSw); go_simp; try with_reducible rfl)
    try simp only [Act.put, List.setIfInBounds_toArray, List.set_cons_zero, List.set_cons_succ]
    refine wpAnyH_done (by kernel_rfl) ?_ _
    have HEz := Lib.hid (HEz.out.trans E2.out)
    have HEw := Lib.hid (HEw12.out.trans E2.out)
    have HLa := Lib.hid (HL10c.out.ext E2.out)
    have HLb := Lib.hid (HL11c.out.ext E2.out)
    obtain ⟨wz, hwz⟩ : ∃ wz, wz = y14 := ⟨_, rfl⟩
    subst hwz
    clear HS HEw12 HL10c HL11c E1 E2 ED hHeld h0'
    go_wp2_with fail
  case' neg =>
    obtain rfl : LL = 0 := by omega
    have HEz := HE11
    have HEw := HEw11
    have HLa := HL10b
    have HLb := HL11
    obtain ⟨wz, hwz⟩ : ∃ wz, wz = w11 := ⟨_, rfl⟩
    subst hwz
    clear h0
    go_wp2_with fail
  all_goals
    refine (values18_any _ _ _ _ _ _ _ _ _ (HL69.out.ext HEw.out) (HL79.out.ext HEw.out)).mono ?_
    rw [eqT_self]
    rintro e w13 ⟨rfl, hE13⟩
    have HE13 := Lib.hid (HEz.out.trans hE13)
    have HEw13 := Lib.hid (HEw.out.trans hE13)
    have HLa3 := Lib.hid (HLa.out.ext hE13)
    have HLb3 := Lib.hid (HLb.out.ext hE13)
    obtain ⟨p0, p1, p2, p3⟩ := (HBX9.out.ext HEw13.out).cells
    obtain ⟨q0, q1, q2, q3⟩ := (HBY.out.ext HEw13.out).cells
    clear hE13
    go_wp2_with fail
    refine (rsame_any (vT l i) (vT l i) _ _ _ (HLx9.out.ext HEw13.out) (HLy.out.ext HEw13.out)).mono ?_
    rw [eqT_self]
    rintro e w14 ⟨rfl, hE14⟩
    have HE14 := Lib.hid (HE13.out.trans hE14)
    have HLa4 := Lib.hid (HLa3.out.ext hE14)
    have HLb4 := Lib.hid (HLb3.out.ext hE14)
    clear hE14 p0 p1 p2 p3 q0 q1 q2 q3
    go_wp2_with fail
    refine (values18_any _ _ _ _ _ _ _ _ _ HLa4.out HLb4.out).mono ?_
    rw [eqT_self]
    rintro e w15 ⟨rfl, hE15⟩
    have HE15 := Lib.hid (HE14.out.trans hE15)
    clear hE15
    go_wp2_with fail
    refine (awake18_any w15 (HKW.out.ext HE15.out)).mono ?_
    rintro e w16 ⟨rfl, hE16⟩
    have HE16 := Lib.hid (HE15.out.trans hE16)
    clear hE16
    go_wp2
    go_ret
    exact ⟨rfl, HE16.out⟩
end Go.Proofs.YtpcgpcjleedilaaGreatDoor
