/- A region that draws its order, operation by operation: those that are wanted and those that are not. No program is imported. -/
import Derived.Test.YtpcgpcjleedilaaGreatDoorFaA
import Derived.RangeFuncNested
import Derived.RangeFuncBound
import Derived.RangeFuncCalls
import Derived.RangeFuncLeaves
import Derived.OwnWalkIn
import Derived.TacticsInMore
import Derived.LoopNIn
import Derived.LoopIn
import Derived.Maps.AppendAt
import Derived.Shelf.Abstract
import Derived.Deep.RegionWith
import Derived.Test.YtpcgpcjleedilaaGreatDoorPlI
import Derived.Deep.WholeRow
import Derived.Deep.MidRow
import Derived.Deep.RegionHeld3
open Go.RowKit Go.Shelf
namespace Go.Proofs.YtpcgpcjleedilaaGreatDoor
open Go Go.Proofs Fm

/-- What Copy comes to. -/
def CopyPost (w : World) (t : Tr) (e : Ending) (w' : World) : Prop := ∃ v, e = .returned v ∧ Ext w w' ∧ OwnT 44 w' w.heap.size t v
theorem CopyPost.two {w : World} {k : UInt8} {n : Int} {s : List UInt8} {l : List Tr} {e : Ending} {w' : World} (h : CopyPost w (.node k n s l) e w') :
    ∃ (a4 : Option Addr) (n4 c4 : Nat), e = .returned (.agg #[.int .u8 (k.toNat : Int), .int .i64 n, .string (str s), .slice a4 n4 c4]) ∧ Ext w w' ∧
      OwnT 44 w' w.heap.size (.node k n s l) (.agg #[.int .u8 (k.toNat : Int), .int .i64 n, .string (str s), .slice a4 n4 c4]) := by
  obtain ⟨v, he, h1, F, h3⟩ := h
  obtain ⟨d, rfl, _, _, h4⟩ := h3.parts
  obtain ⟨a, c, rfl⟩ := h4.slice
  exact ⟨a, _, c, he, h1, F, h3⟩

set_option maxRecDepth 100000 in
set_option maxHeartbeats 4000000 in
theorem copy_any (t : Tr) : ∀ (w : World) (v : Value), Lies w t v → partsT t ≤ 1000000 → Calls Tryz.prog 72 #[v] w (CopyPost w t) := by
  induction t using Tr.ind with
  | h k n s l ih =>
  intro w v hv hp
  have IH := Lib.hid ih
  obtain ⟨d, rfl, hn, hs, hl⟩ := hv.parts
  have ⟨a, cap, hd, h1, h2, h3, C, h4, h5⟩ := hl
  subst hd
  rw [partsT_node] at hp
  have hll : l.length ≤ 1000000 := by have := partsL_len l; omega
  have H4 := Lib.hid h4; have H5 := Lib.hid h5
  have HN := Lib.hid hn; have HS := Lib.hid hs
  clear h1 h2 h3 h4 h5 hl hn hv hs ih
  generalize hK : (k.toNat : Int) = K at *
  have HK := Lib.hid hK
  clear hK
  go_enter Tryz.func72, Tryz.ntmps72
  go_wp2_with fail
  have hE0 : Ext w ((w.alloc (.cells #[.int .u8 K, .int .i64 n, .string (str s), .slice none 0 0] 44)).alloc (.cells #[.int .u8 0, .int .i64 0, .string { data := #[] }, .slice none 0 0] 44)) := ((Ext.refl w).alloc _).alloc _
  have hz0 : ((w.alloc (.cells #[.int .u8 K, .int .i64 n, .string (str s), .slice none 0 0] 44)).alloc (.cells #[.int .u8 0, .int .i64 0, .string { data := #[] }, .slice none 0 0] 44)).heap.size = w.heap.size + 2 := by simp
  have hb0 : Box4 ((w.alloc (.cells #[.int .u8 K, .int .i64 n, .string (str s), .slice none 0 0] 44)).alloc (.cells #[.int .u8 0, .int .i64 0, .string { data := #[] }, .slice none 0 0] 44)) w.heap.size (.int .u8 K) (.int .i64 n) (.string (str s)) (.slice none 0 0) := (Box4.new w _ _ _ _).ext ((Ext.refl _).alloc _)
  have hB0 : Box4 ((w.alloc (.cells #[.int .u8 K, .int .i64 n, .string (str s), .slice none 0 0] 44)).alloc (.cells #[.int .u8 0, .int .i64 0, .string { data := #[] }, .slice none 0 0] 44)) (w.heap.size + 1) (.int .u8 0) (.int .i64 0) (.string { data := #[] }) (.slice none 0 0) := by
    have := Box4.new (w.alloc (.cells #[.int .u8 K, .int .i64 n, .string (str s), .slice none 0 0] 44)) (.int .u8 0) (.int .i64 0) (.string { data := #[] }) (.slice none 0 0)
    rw [show (w.alloc (.cells #[.int .u8 K, .int .i64 n, .string (str s), .slice none 0 0] 44)).heap.size = w.heap.size + 1 by simp] at this
    exact this
  generalize (w.alloc (.cells #[.int .u8 K, .int .i64 n, .string (str s), .slice none 0 0] 44)).alloc (.cells #[.int .u8 0, .int .i64 0, .string { data := #[] }, .slice none 0 0] 44) = W at *
  go_loopw [11] (fun i wr => ∃ (j : Nat) (d : Value), j ≤ l.length ∧ i = .int .i64 j ∧ Ext w wr ∧ Box4 wr w.heap.size (.int .u8 K) (.int .i64 n) (.string (str s)) d ∧ Box4 wr (w.heap.size + 1) (.int .u8 0) (.int .i64 0) (.string { data := #[] }) (.slice none 0 0) ∧
    Hid (OwnL 44 wr (w.heap.size + 2) (l.take j) d) ∧ w.heap.size + 2 ≤ wr.heap.size) (fun i _ => l.length - (intOf i).toNat)
  case atStart => exact ⟨0, _, by omega, rfl, hE0, hb0, hB0, Lib.hid (by rw [List.take_zero]; exact OwnL.nil _ _ _), by omega⟩
  case round =>
    obtain ⟨j, d, hj, rfl, hE, hb, hB, HO, hbr⟩ := hrel
    clear hE0 hb0 hB0 hz0
    have hlt0 := hb.lt
    obtain ⟨ad, cd, rfl⟩ : ∃ a cap, d = .slice a j cap := by
      obtain ⟨F, h⟩ := HO.out
      obtain ⟨a, c, h⟩ := h.slice
      rw [List.length_take, Nat.min_eq_left hj] at h
      exact ⟨a, c, h⟩
    by_cases hlt : j < l.length
    · obtain ⟨b, off, rfl, hbb, hc⟩ := H4.out (by omega)
      obtain ⟨k0, n0, s0, a0, m0, c0, e0, e1, e2, e3, hx⟩ := elem4 hE hbb hc H5.out j hlt
      obtain ⟨b0, b1, b2, b3⟩ := hb.cells
      obtain ⟨z0, z1, z2, z3⟩ := hb.frozen
      have hpj : partsT l[j] ≤ 1000000 := by
        have h1 := partsL_at l j hlt
        have h2 := partsL_take_le l (j + 1)
        omega
      obtain ⟨xsr, hrow⟩ := HO.out.row
      have hrow0 : wr.ownsRow (w.heap.size + 2) 44 4 (.slice ad j cd) j xsr := by
        rw [List.length_take, Nat.min_eq_left hj] at hrow; exact hrow
      have hRo : ∀ k, (Value.slice ad j cd).ownBlock = some k → w.heap.size + 2 ≤ k := fun k hk => (hrow0.lt k hk).1
      have HRow := Lib.hid hrow0
      have HRo := Lib.hid hRo
      obtain ⟨i0, hi0, hz0, hz1, hz2⟩ := info_parts info_val
      have HL1 : Hid (j + 1 ≤ maxLen) := Lib.hid (by unfold maxLen; omega)
      obtain ⟨tt, htt⟩ : ∃ tt, tt = l[j] := ⟨_, rfl⟩
      have HTK : Hid (l.take j ++ [tt] = l.take (j + 1)) := Lib.hid (by rw [htt, List.take_add_one, List.getElem?_eq_getElem hlt]; rfl)
      have hm : tt ∈ l := by rw [htt]; exact List.getElem_mem hlt
      rw [← htt] at hx hpj
      clear htt
      have IHj := Lib.hid (IH.out tt hm)
      clear hm
      obtain ⟨kt, nt, st, lt⟩ := tt
      have IH2 : Hid (∀ wx, Ext wr wx → Calls Tryz.prog 72 #[.agg #[.int .u8 k0, .int .i64 n0, .string s0, .slice a0 m0 c0]] wx (fun e w' =>
          ∃ (a4 : Option Addr) (n4 c4 : Nat), e = .returned (.agg #[.int .u8 (kt.toNat : Int), .int .i64 nt, .string (str st), .slice a4 n4 c4]) ∧ Ext wx w' ∧
            OwnT 44 w' wx.heap.size (.node kt nt st lt) (.agg #[.int .u8 (kt.toNat : Int), .int .i64 nt, .string (str st), .slice a4 n4 c4]))) :=
        Lib.hid (fun wx hE => (IHj.out wx _ (hx.ext hE) hpj).mono (fun e w' h => CopyPost.two h))
      have hXE : Hid (∀ o : Obj, Ext wr (wr.alloc o)) := Lib.hid (fun o => (Ext.refl wr).alloc o)
      have hzW : ∀ o : Obj, (wr.alloc o).heap.size = wr.heap.size + 1 := fun o => by simp
      have HZW := Lib.hid hzW
      clear hrow hrow0 hRo hx hc hzW
      go_wp2_with fail
      go_region_law (first
        | (refine step_append_lies _ (by rfl) _ _ _ (by rfl) (w.heap.size + 2) 44 i0 _ 4 56 Tryz.underlying42 hi0 hz0 hz1 hz2 rfl (by omega) (.slice ad j cd) j xsr (by rfl) HR6.out ⟨w4.heap.size, 0, none⟩ 1 1 [.int .u8 (kt.toNat : Int), .int .i64 nt, .string (str st), .slice a4 n4 c4] (by rfl) (by rfl) (World.news_of_block (cs := #[.int .u8 (kt.toNat : Int), .int .i64 nt, .string (str st), .slice a4 n4 c4]) (t := 44) (fr := (0, 0)) (heap_alloc_new w4 _)) (by simp [Value.oneCell']) (by omega) HL1.out (by omega) (by simp; omega) (w4.heap.size + 1) (by simp) ?_
           intro gg cap6 w6 hown6 hgrow6 hat6 hlt6
           have S6 := (hgrow6.cell_far ⟨w.heap.size, 3, none⟩ (by simp; omega) (fun e => by have := HRo.out _ e.symm; simp at this; omega)).trans ((((Ext.refl w4).alloc _).cell (p := ⟨w.heap.size, 3, none⟩) hV4).trans S4)
           have S6' := (hgrow6.frozen_far ⟨w.heap.size, 3, none⟩ (by simp; omega) (fun e => by have := HRo.out _ e.symm; simp at this; omega)).trans ((((Ext.refl w4).alloc _).frozen (p := ⟨w.heap.size, 3, none⟩) hV4).trans S4'))
        | (go_simp
           go_at_call 72
           refine (IH2.out _ ?_).mono ?_
           · exact (hXE.out _).drew
           rintro e w4 ⟨a4, n4, c4, rfl, hE4', ho4⟩
           have hE4 := ((hXE.out (.cells #[.int .u8 k0, .int .i64 n0, .string s0, .slice a0 m0 c0] 44)).drew).trans hE4'
           have hV4 : w.heap.size < w4.heap.size := Nat.lt_of_lt_of_le hlt0 hE4.size
           have S4 := (hE4.cell (p := ⟨w.heap.size, 3, none⟩) hlt0).trans b3
           have S4' := (hE4.frozen (p := ⟨w.heap.size, 3, none⟩) hlt0).trans z3
           have hbr4 := hE4.size
           have HR6 : Hid ((w4.alloc (.cells #[.int .u8 (kt.toNat : Int), .int .i64 nt, .string (str st), .slice a4 n4 c4] 44)).ownsRow (w.heap.size + 2) 44 4 (.slice ad j cd) j xsr) := Lib.hid ((hE4.own HRow.out).alloc _)
           have HO4 := Lib.hid ho4
           clear ho4 hE4'))
      all_goals
        obtain ⟨y1, y2, y3, y4, y5⟩ := list_step2 (V := w.heap.size) (Pb := w.heap.size + 1) (base := w.heap.size + 2) (by omega) (by omega) (by omega) (Nat.le_refl _) hE hb hB (by rw [List.length_take]; omega) HO.out hbr hE4
          (by have := HZW.out (.cells #[.int .u8 k0, .int .i64 n0, .string s0, .slice a0 m0 c0] 44); show wr.heap.size ≤ (wr.alloc (.cells #[.int .u8 k0, .int .i64 n0, .string s0, .slice a0 m0 c0] 44)).heap.size; omega) HO4.out HR6.out hown6 hgrow6 hat6
        have Y4 : Hid (OwnL 44 (w6.setCell ⟨w.heap.size, 3, none⟩ (.slice (some ⟨gg, 0, none⟩) (j + 1) cap6)) (w.heap.size + 2) (l.take (j + 1)) (.slice (some ⟨gg, 0, none⟩) (j + 1) cap6)) := Lib.hid (by rw [← HTK.out]; exact y4)
        have Y5 : w.heap.size + 2 ≤ (w6.setCell ⟨w.heap.size, 3, none⟩ (.slice (some ⟨gg, 0, none⟩) (j + 1) cap6)).heap.size := by omega
        clear y4 y5 S6 S6' S4 S4' HR6 HO4 hown6 hgrow6 hat6 hlt6 hV4 hE4 hbr4 HRow HRo HO IH2 IHj b0 b1 b2 b3 z0 z1 z2 z3 hb hB hE e0 e1 e2 e3 hXE HZW HTK
        go_wp2
        go_roundw
        case rel => exact ⟨j + 1, _, by omega, by go_num, y1, y2, y3, Y4, Y5⟩
        case measure => simp [intOf]; omega
    · obtain rfl : j = l.length := by omega
      obtain ⟨d0, d1, d2, d3⟩ := hb.cells
      obtain ⟨e0, e1, e2, e3⟩ := hb.frozen
      obtain ⟨p0, p1, p2, p3⟩ := hB.cells
      obtain ⟨q0, q1, q2, q3⟩ := hB.frozen
      have HE := Lib.hid hE
      have HBB := Lib.hid hB
      clear hb hB hE H4
      go_wp2
      change bodyPost _ _ _ _ _ (set4W wr (w.heap.size + 1) (.int .u8 K) (.int .i64 n) (.string (str s)) (.slice ad l.length cd))
      obtain ⟨hE2, hb2, hg2⟩ := set4_facts (k := .int .u8 K) (n := .int .i64 n) (s := .string (str s)) (d := .slice ad l.length cd) HE.out HBB.out (by omega)
      have hO2 := HO.out.grown hg2 (fun b hb => by injection hb with hb; omega)
      generalize set4W wr (w.heap.size + 1) (.int .u8 K) (.int .i64 n) (.string (str s)) (.slice ad l.length cd) = W3 at *
      obtain ⟨y0, y1, y2, y3⟩ := hb2.cells
      refine bodyPost_ret (v := .agg #[.int .u8 K, .int .i64 n, .string (str s), .slice ad l.length cd]) (by simp [results, Tryz.results72, go_sem, y0, y1, y2, y3]) rfl ?_
      rw [List.take_length] at hO2
      have hO3 := (OwnT.mk (k := k) HN.out HS.out hO2).mono (show w.heap.size ≤ w.heap.size + 2 by omega)
      rw [HK.out] at hO3
      exact ⟨_, rfl, hE2, hO3⟩
end Go.Proofs.YtpcgpcjleedilaaGreatDoor

open Go.RowKit Go.Shelf
namespace Go.Proofs.YtpcgpcjleedilaaGreatDoor
open Go Go.Proofs Fm

/-- What copies comes to. -/
def CopiesPost (w : World) (l : List Tr) (e : Ending) (w' : World) : Prop := ∃ d, e = .returned d ∧ Ext w w' ∧ OwnL 44 w' w.heap.size l d
set_option maxRecDepth 100000 in
set_option maxHeartbeats 2000000 in
theorem fcopies_any (l : List Tr) (hp : partsT (listV l) ≤ 1000000) (w : World) (d : Value) (h : LiesS w l d) :
    Calls Tryz.prog 69 #[d] w (CopiesPost w l) := by
  have hL : Lies w (listV l) (.agg #[.int .u8 (2 : UInt8).toNat, .int .i64 0, .string (str []), d]) := Lies.mk (by unfold isI64; omega) (by simp) h
  have HC := Lib.hid (copy_any (listV l) w _ hL hp)
  obtain ⟨a, cap, rfl, -⟩ := h
  clear hL hp
  go_enter Tryz.func69, Tryz.ntmps69
  go_wp2_with fail
  refine HC.out.mono ?_
  intro e w1 hc
  obtain ⟨a4, n4, c4, rfl, hE, F, hO⟩ := CopyPost.two hc
  have HO := Lib.hid hO
  have HE := Lib.hid hE
  have hfd : (Instr.field 44 (.agg #[.int .u8 2, .int .i64 0, .string (str []), .slice a4 n4 c4]) 3).run Tryz.prog w1 = .ok (.slice a4 n4 c4) w1 := by
    simp [Instr.field, run_underlying Tryz.underlying44, asAgg, part, isAgg, run_underlying Tryz.underlying42]
  clear hc hE hO
  go_wp2
  go_ret
  obtain ⟨d2, e2, -, -, h4⟩ := HO.out.parts
  refine ⟨_, rfl, HE.out, F, ?_⟩
  injection e2 with e2
  simp at e2
  rw [← e2] at h4
  exact h4
/-- What List comes to. -/
def ListPost (w : World) (l : List Nd) (m : Int) (e : Ending) (w' : World) : Prop := ∃ d, e = .returned (.tuple #[d, .int .i64 (listF l m).2]) ∧ Ext w w' ∧ OwnL 44 w' w.heap.size (listF l m).1 d
theorem list_fin {w w' : World} {l : List Nd} {m : Int} {r : List Tr} {fv : Int} {d : Value} (h : listF l m = (r, fv)) (hE : Ext w w') (hO : OwnL 44 w' w.heap.size r d) : ListPost w l m (.returned (.tuple #[d, .int .i64 fv])) w' := by
  unfold ListPost
  rw [h]
  exact ⟨d, rfl, hE, hO⟩
theorem ownL_mono {e : TypeId} {w : World} {base base' : Nat} {l : List Tr} {d : Value} (h : OwnL e w base l d) (hb : base' ≤ base) : OwnL e w base' l d := by
  obtain ⟨F, h2⟩ := (OwnT.mk (k := 2) (n := 0) (s := []) (by unfold isI64; omega) (by simp) h).mono hb
  obtain ⟨d2, e2, -, -, h4⟩ := h2.parts
  injection e2 with e2
  simp at e2
  rw [e2]
  exact ⟨F, h4⟩
theorem place_iff {l : List Nd} {m : Int} : placeF l m = true ↔ 0 ≤ m ∧ m < l.length := by unfold placeF; simp
theorem nth_at {l : List Nd} {i : Nat} (h : i < l.length) : nthF l (i : Int) = l[i] := by unfold nthF; simp [h]
theorem kids_parts (t : Tr) : partsT (listV (kidsV t)) = partsT t := by
  obtain ⟨k, n, s, l⟩ := t
  unfold listV kidsV
  rw [partsT_node, partsT_node]
theorem head_at {l : List Int} (h : 0 < l.length) : l.headD 0 = l[0] := by
  cases l with
  | nil => cases h
  | cons _ _ => rfl
theorem nd_parts {w : World} {n : Nd} {a : Option Addr} {m c : Nat} {k N s l : Value} (h : NdV w n (.agg (ndCells n (.slice a m c) k N s l).toArray)) : intE.Row w n.after (.slice a m c) ∧ Lies w n.val (.agg #[k, N, s, l]) ∧ isI64 n.width := by
  obtain ⟨a', m', c', k', N', s', l', h1, h2, h3, h4⟩ := h
  simp only [ndCells] at h1
  injection h1 with h1
  simp at h1
  obtain ⟨⟨rfl, rfl, rfl⟩, rfl, rfl, rfl, rfl⟩ := h1
  exact ⟨h2, h3, h4.2.2.2.2.2.1⟩
set_option maxRecDepth 100000 in
set_option maxHeartbeats 4000000 in
theorem flist_any (l : List Nd) (m : Int) (hp : ∀ x, x ∈ l → partsT x.val ≤ 1000000) (w : World) (v : Value) (h : ndE.Row w l v) :
    Calls Tryz.prog 33 #[v, .int .i64 m] w (ListPost w l m) := by
  have HX := Lib.hid (show listF l m = if placeF l m && mapsF (nthF l m) && placeF l ((nthF l m).after.headD 0) then
    if fitsF (nthF l ((nthF l m).after.headD 0)).val (nthF l m).width = 0 then (kidsV (nthF l ((nthF l m).after.headD 0)).val, 0)
    else ([], fitsF (nthF l ((nthF l m).after.headD 0)).val (nthF l m).width)
  else ([], 2) from rfl)
  have HP := Lib.hid hp
  have HR := Lib.hid h
  obtain ⟨a, c, rfl, hc1, hc2⟩ := h.slice
  clear hp h
  have bad : ∀ w', Ext w w' → listF l m = ([], 2) → ListPost w l m (.returned (.tuple #[.slice none 0 0, .int .i64 2])) w' := fun w' hE e => by
    unfold ListPost
    rw [e]
    exact ⟨_, rfl, hE, OwnL.nil _ _ _⟩
  have BAD := Lib.hid bad
  clear bad
  cases hpl : placeF l m with
  | false =>
    have HY := Lib.hid (show listF l m = ([], 2) by rw [HX.out, hpl]; rfl)
    have HC := Lib.hid (fplace_any l m w _ HR.out)
    rw [hpl] at HC
    clear HX hpl
    go_enter Tryz.func33, Tryz.ntmps33
    go_wp2_with fail
    refine HC.out.mono ?_
    rintro e w1 ⟨rfl, rfl⟩
    go_wp2
    go_ret2
    exact BAD.out _ (Ext.refl _) HY.out
  | true =>
    obtain ⟨hm0, hm1⟩ := place_iff.1 hpl
    obtain ⟨i, rfl⟩ : ∃ i : Nat, m = (i : Int) := ⟨m.toNat, by omega⟩
    have hi : i < l.length := by omega
    have HC := Lib.hid (fplace_any l i w _ HR.out)
    rw [hpl] at HC
    have HX := Lib.hid (show listF l i = if mapsF l[i] && placeF l (l[i].after.headD 0) then
      if fitsF (nthF l (l[i].after.headD 0)).val l[i].width = 0 then (kidsV (nthF l (l[i].after.headD 0)).val, 0)
      else ([], fitsF (nthF l (l[i].after.headD 0)).val l[i].width)
      else ([], 2) by rw [HX.out, hpl, nth_at hi]; simp)
    obtain ⟨b, off, rfl, hb, aa, ma, ca, k, N, s, d, ⟨c0, x1, x2, c3, c4, c5, c6, c7, c8, c9, c10, c11, c12, c13, c14, c15⟩, hnv⟩ := nd_at16 HR.out (Ext.refl w) i hi
    have HNV := Lib.hid hnv
    clear hpl hm0 hm1 hnv
    go_enter Tryz.func33, Tryz.ntmps33
    go_wp2_with fail
    refine HC.out.mono ?_
    rintro e w1 ⟨rfl, rfl⟩
    go_wp2_with fail
    refine (fmaps_any l[i] w _ HNV.out).mono ?_
    rintro e w2 ⟨rfl, hE2⟩
    have HE2 := Lib.hid hE2
    clear hE2
    cases hmp : mapsF l[i] with
    | false =>
      have HY := Lib.hid (show listF l i = ([], 2) by rw [HX.out, hmp]; rfl)
      clear hmp HX
      go_wp2
      go_ret2
      exact BAD.out _ HE2.out HY.out
    | true =>
      have hne : l[i].after ≠ [] := by
        unfold mapsF at hmp
        simp only [Bool.and_eq_true, decide_eq_true_eq] at hmp
        exact hmp.2
      obtain ⟨hrow, -, hwd⟩ := nd_parts HNV.out
      have hal : 0 < l[i].after.length := List.length_pos_iff.2 hne
      obtain ⟨b3, o3, rfl, hb3, k0, hk0⟩ := int_at hrow HE2.out 0 hal
      rw [Nat.add_zero] at k0
      have hml : ma = l[i].after.length := by
        obtain ⟨_, _, e, _⟩ := hrow.slice
        injection e
      have hhd : l[i].after.headD 0 = l[i].after[0] := head_at hal
      have HX := Lib.hid (show listF l i = if placeF l l[i].after[0] then
        if fitsF (nthF l l[i].after[0]).val l[i].width = 0 then (kidsV (nthF l l[i].after[0]).val, 0)
        else ([], fitsF (nthF l l[i].after[0]).val l[i].width)
        else ([], 2) by rw [HX.out, hmp, hhd]; simp)
      have d6 := (HE2.out.cell (p := ⟨b, off + i * 16 + 6, none⟩) hb).trans c6
      have d7 := (HE2.out.cell (p := ⟨b, off + i * 16 + 7, none⟩) hb).trans c7
      subst hml
      have HWD := Lib.hid hwd
      clear hmp hne hrow hhd hwd c0 x1 x2 c3 c4 c5 c6 c7 c8 c9 c10 c11 c12 c13 c14 c15
      have HC2 := Lib.hid (fplace_any l l[i].after[0] w2 _ (HR.out.ext HE2.out))
      obtain ⟨a0, ha0⟩ : ∃ a0, a0 = l[i].after[0] := ⟨_, rfl⟩
      rw [← ha0] at k0 hk0 HX HC2
      clear ha0
      go_wp2_with fail
      refine HC2.out.mono ?_
      rintro e w3 ⟨rfl, rfl⟩
      cases hpa : placeF l a0 with
      | false =>
        have HY := Lib.hid (show listF l i = ([], 2) by rw [HX.out, hpa]; rfl)
        clear hpa HX
        go_wp2
        go_ret2
        exact BAD.out _ HE2.out HY.out
      | true =>
        obtain ⟨hm0, hm1⟩ := place_iff.1 hpa
        obtain ⟨j, rfl⟩ : ∃ j : Nat, a0 = (j : Int) := ⟨a0.toNat, by omega⟩
        have hj : j < l.length := by omega
        obtain ⟨b', off', e', hb', aa', ma', ca', K', N', S', D', ⟨y0, y1, y2, y3, y4, y5, y6, y7, y8, y9, y10, y11, y12, y13, y14, y15⟩, hnv'⟩ := nd_at16 HR.out HE2.out j hj
        injection e' with e'
        injection e' with e1 e2
        subst e1 e2
        obtain ⟨-, hlv, -⟩ := nd_parts hnv'
        have HX := Lib.hid (show listF l i = if fitsF l[j].val l[i].width = 0 then (kidsV l[j].val, 0) else ([], fitsF l[j].val l[i].width) by rw [HX.out, hpa, nth_at hj]; simp)
        have HPT := Lib.hid (HP.out l[j] (List.getElem_mem hj))
        clear hpa hm0 hm1 y0 y1 y2 y3 y4 y5 y6 y7 y8 y9 y10 y11 hnv' hb' BAD
        generalize l[j].val = tv at *
        generalize l[i].width = wd at *
        obtain ⟨kk, nn, ss, ls⟩ := tv
        have HLV := Lib.hid hlv
        obtain ⟨dd, e, hnn, hss, hls⟩ := hlv.parts
        obtain ⟨av, capv, rfl, hcv1, hcv2, -⟩ := hls
        simp at e
        obtain ⟨rfl, rfl, rfl, rfl⟩ := e
        have hE4 := HE2.out.alloc (.cells #[.int .u8 (kk.toNat : Int), .int .i64 nn, .string (str ss), .slice av ls.length capv] 44)
        have hb4 := BoxL.new w2 [.int .u8 (kk.toNat : Int), .int .i64 nn, .string (str ss), .slice av ls.length capv] 44
        have d7' := (((Ext.refl w2).alloc (.cells #[.int .u8 (kk.toNat : Int), .int .i64 nn, .string (str ss), .slice av ls.length capv] 44)).cell (p := ⟨b, off + i * 16 + 7, none⟩) (Nat.lt_of_lt_of_le hb HE2.out.size)).trans d7
        have HLV4 := Lib.hid (HLV.out.ext hE4)
        have HE4 := Lib.hid hE4
        clear hlv hnn hss HC HC2
        go_upto_region 4 with (fail)
        generalize w2.alloc (.cells #[.int .u8 (kk.toNat : Int), .int .i64 nn, .string (str ss), .slice av ls.length capv] 44) = W4 at *
        generalize w2.heap.size = B4 at *
        have HS : Hid (∀ w', Ext W4 w' → (w'.cell? ⟨B4, 0, none⟩ = some (.int .u8 (kk.toNat : Int)) ∧ w'.cell? ⟨B4, 1, none⟩ = some (.int .i64 nn) ∧ w'.cell? ⟨B4, 2, none⟩ = some (.string (str ss)) ∧ w'.cell? ⟨B4, 3, none⟩ = some (.slice av ls.length capv) ∧ w'.cell? ⟨b, off + i * 16 + 7, none⟩ = some (.int .i64 wd))) := Lib.hid (fun w' hE =>
          ⟨(hb4.ext hE).cell 0 _ rfl, (hb4.ext hE).cell 1 _ rfl, (hb4.ext hE).cell 2 _ rfl, (hb4.ext hE).cell 3 _ rfl, (hE.cell (p := ⟨b, off + i * 16 + 7, none⟩) (Nat.lt_of_lt_of_le hb HE4.out.size)).trans d7'⟩)
        have HFT := Lib.hid (fun w' (hE : Ext W4 w') => fanFits_any (.node kk nn ss ls) wd w' _ (HLV4.out.ext hE))
        have HCP := Lib.hid (fun (hq : partsT (listV ls) ≤ 1000000) w' (hE : Ext W4 w') => fcopies_any ls hq w' (.slice av ls.length capv) (by
          obtain ⟨dd, e, -, -, hls⟩ := (HLV4.out.ext hE).parts
          injection e with e
          simp at e
          rw [e]; exact hls))
        have HD := Lib.hid (Ext.refl W4).drew
        generalize (kk.toNat : Int) = KK at *
        clear hb4 d7' d6 d7 k0 hk0
        go_region_held3 (fun w' => w'.cell? ⟨B4, 0, none⟩ = some (.int .u8 KK) ∧ w'.cell? ⟨B4, 1, none⟩ = some (.int .i64 nn) ∧ w'.cell? ⟨B4, 2, none⟩ = some (.string (str ss)) ∧ w'.cell? ⟨B4, 3, none⟩ = some (.slice av ls.length capv) ∧ w'.cell? ⟨b, off + i * 16 + 7, none⟩ = some (.int .i64 wd))
          (first | exact HS.out _ HD.out | exact HS.out _ E1.out)
          ((
            go_at_call 39
            refine (HFT.out _ HD.out).mono ?_
            rintro e z1 ⟨rfl, hE⟩
            have E1 := Lib.hid (HD.out.trans hE)
            clear hE))
        have HX := Lib.hid (show listF l i = if fitsF (.node kk nn ss ls) wd = 0 then (ls, 0) else ([], fitsF (.node kk nn ss ls) wd) from HX.out)
        have hpt : partsT (listV ls) ≤ 1000000 := by rw [← kids_parts] at HPT; exact HPT.out
        have HCP := Lib.hid (HCP.out hpt)
        clear hpt HS HFT HPT
        generalize fitsF (.node kk nn ss ls) wd = fv at *
        by_cases hfv : fv = 0
        · subst hfv
          have HY := Lib.hid (show listF l i = (ls, 0) by rw [HX.out]; rfl)
          clear HX
          go_wp2_with fail
          refine (HCP.out _ E1.out).mono ?_
          rintro e z2 ⟨d2, rfl, hE, hO⟩
          have HE5 := Lib.hid ((HE4.out.trans E1.out).trans hE)
          have HO := Lib.hid hO
          have hz := (HE4.out.trans E1.out).size
          clear hE hO
          go_wp2
          go_ret2
          exact list_fin HY.out HE5.out (ownL_mono HO.out hz)
        · have HY := Lib.hid (show listF l i = ([], fv) by rw [HX.out, if_neg hfv])
          have hb1 : (fv != 0) = true := by simp [hfv]
          have HE5 := Lib.hid (HE4.out.trans E1.out)
          clear HX hfv HCP
          go_wp2
          go_ret2
          exact list_fin HY.out HE5.out (OwnL.nil _ _ _)
end Go.Proofs.YtpcgpcjleedilaaGreatDoor

open Go.RowKit Go.Shelf
namespace Fm
open Go Go.RowKit
theorem LiesS.take {w : World} {l : List Tr} {a : Option Addr} {n c : Nat} (h : LiesS w l (.slice a n c)) {k : Nat} (hk : k ≤ l.length) : LiesS w (l.take k) (.slice a k c) := by
  obtain ⟨a', cap, e, h1, h2, h3, C, h4, h5⟩ := h
  injection e with e1 e2 e3
  subst e1 e2 e3
  have hl : (l.take k).length = k := by rw [List.length_take]; omega
  refine ⟨a, c, by rw [hl], by omega, h2, h3, C, fun h0 => ?_, fun i hi => ?_⟩
  · obtain ⟨b, off, e, hb, hc⟩ := h4 (by omega)
    exact ⟨b, off, e, hb, fun i j hi hj => hc i j (by omega) hj⟩
  · rw [List.getElem_take]; exact h5 i (by omega)
end Fm
namespace Go.Proofs.YtpcgpcjleedilaaGreatDoor
open Go Go.Proofs Fm

set_option maxRecDepth 100000 in
set_option maxHeartbeats 1000000 in
theorem num18_any (n : Int) (w : World) :
    Calls Tryz.prog 46 #[.int .i64 n] w fun e w' => e = .returned (.agg #[.int .u8 0, .int .i64 n, .string { data := #[] }, .slice none 0 0]) ∧ Ext w w' := by
  have hB := Box4.new w (.int .u8 0) (.int .i64 0) (.string { data := #[] }) (.slice none 0 0)
  have hE := (Ext.refl w).alloc (.cells #[.int .u8 0, .int .i64 0, .string { data := #[] }, .slice none 0 0] 44)
  go_enter Tryz.func46, Tryz.ntmps46
  go_upto_region 1 with (fail)
  generalize w.alloc (.cells #[.int .u8 0, .int .i64 0, .string { data := #[] }, .slice none 0 0] 44) = W1 at *
  have ⟨p0, p1, p2, p3⟩ := hB.cells
  have ⟨z0, z1, z2, z3⟩ := hB.frozen
  have HB := Lib.hid hB
  have HE := Lib.hid hE
  clear hB hE
  go_wp2
  change bodyPost _ _ _ _ _ (set4W W1 w.heap.size (.int .u8 0) (.int .i64 n) (.string { data := #[] }) (.slice none 0 0))
  obtain ⟨hE2, hb2, -⟩ := set4_facts (k := .int .u8 0) (n := .int .i64 n) (s := .string { data := #[] }) (d := .slice none 0 0) HE.out HB.out (Nat.le_refl _)
  generalize set4W W1 w.heap.size (.int .u8 0) (.int .i64 n) (.string { data := #[] }) (.slice none 0 0) = W3 at *
  obtain ⟨y0, y1, y2, y3⟩ := hb2.cells
  refine bodyPost_ret (v := .agg #[.int .u8 0, .int .i64 n, .string { data := #[] }, .slice none 0 0]) (by simp [results, Tryz.results46, go_sem, y0, y1, y2, y3]) rfl ?_
  exact ⟨rfl, hE2⟩
theorem num18_own {n : Int} (hn : isI64 n) (w : World) (base : Nat) : OwnT 44 w base (numT n) (.agg #[.int .u8 0, .int .i64 n, .string { data := #[] }, .slice none 0 0]) := OwnT.mk (k := 0) (s := []) hn (by simp) (OwnL.nil _ _ _)
set_option maxRecDepth 100000 in
set_option maxHeartbeats 1000000 in
theorem list18_any (a : Option Addr) (m c : Nat) (w : World) :
    Calls Tryz.prog 47 #[.slice a m c] w fun e w' => e = .returned (.agg #[.int .u8 2, .int .i64 0, .string { data := #[] }, .slice a m c]) ∧ Ext w w' := by
  have hB := Box4.new w (.int .u8 0) (.int .i64 0) (.string { data := #[] }) (.slice none 0 0)
  have hE := (Ext.refl w).alloc (.cells #[.int .u8 0, .int .i64 0, .string { data := #[] }, .slice none 0 0] 44)
  go_enter Tryz.func47, Tryz.ntmps47
  go_upto_region 1 with (fail)
  generalize w.alloc (.cells #[.int .u8 0, .int .i64 0, .string { data := #[] }, .slice none 0 0] 44) = W1 at *
  have ⟨p0, p1, p2, p3⟩ := hB.cells
  have ⟨z0, z1, z2, z3⟩ := hB.frozen
  have HB := Lib.hid hB
  have HE := Lib.hid hE
  clear hB hE
  go_wp2
  change bodyPost _ _ _ _ _ (set4W W1 w.heap.size (.int .u8 2) (.int .i64 0) (.string { data := #[] }) (.slice a m c))
  obtain ⟨hE2, hb2, -⟩ := set4_facts (k := .int .u8 2) (n := .int .i64 0) (s := .string { data := #[] }) (d := .slice a m c) HE.out HB.out (Nat.le_refl _)
  generalize set4W W1 w.heap.size (.int .u8 2) (.int .i64 0) (.string { data := #[] }) (.slice a m c) = W3 at *
  obtain ⟨y0, y1, y2, y3⟩ := hb2.cells
  refine bodyPost_ret (v := .agg #[.int .u8 2, .int .i64 0, .string { data := #[] }, .slice a m c]) (by simp [results, Tryz.results47, go_sem, y0, y1, y2, y3]) rfl ?_
  exact ⟨rfl, hE2⟩
theorem list18_lies {w : World} {l : List Tr} {a : Option Addr} {m c : Nat} (h : LiesS w l (.slice a m c)) : Lies w (listV l) (.agg #[.int .u8 2, .int .i64 0, .string { data := #[] }, .slice a m c]) := Lies.mk (k := 2) (s := []) (by unfold isI64; omega) (by simp) h
set_option maxRecDepth 100000 in
set_option maxHeartbeats 1000000 in
theorem values18_any (l l' : List Tr) (a a' : Option Addr) (m m' c c' : Nat) (w : World) (h : LiesS w l (.slice a m c)) (h' : LiesS w l' (.slice a' m' c')) :
    Calls Tryz.prog 41 #[.slice a m c, .slice a' m' c'] w fun e w' => e = .returned (.bool (eqT (listV l) (listV l'))) ∧ Ext w w' := by
  have HL := Lib.hid (list18_lies h)
  have HL' := Lib.hid (list18_lies h')
  clear h h'
  go_enter Tryz.func41, Tryz.ntmps41
  go_wp2_with fail
  refine (list18_any a m c w).mono ?_
  rintro e w1 ⟨rfl, hE1⟩
  go_wp2_with fail
  refine (list18_any a' m' c' w1).mono ?_
  rintro e w2 ⟨rfl, hE2⟩
  have HE2 := Lib.hid (hE1.trans hE2)
  clear hE1 hE2
  go_wp2_with fail
  refine (rsame_any _ _ w2 _ _ (HL.out.ext HE2.out) (HL'.out.ext HE2.out)).mono ?_
  rintro e w3 ⟨rfl, hE3⟩
  have HE3 := Lib.hid (HE2.out.trans hE3)
  clear hE3
  go_wp2
  go_ret
  exact ⟨rfl, HE3.out⟩
end Go.Proofs.YtpcgpcjleedilaaGreatDoor

namespace Fm
open Go Go.RowKit

/-- The contract of an iterator that names the steps it makes of its own (Ab), what the body must keep (Kp), and what may come next (Nx). -/
def SeqAb {α : Type} (F : Fence) (n : Nat) (P : Program) (g : Nat) (lb : Array Value) (encs : α → Array Value) (Ab Kp : World → World → Prop) (S Sp : List α → Prop) (Nx : List α → α → Prop) (w : World) : Prop :=
  ∀ (l : Nat) (J Jx : List α → World → Prop) (W : World), Below w.heap.size w W → (∀ s X Y, J s X → Ab X Y → J s Y) → (∀ s X Y, Jx s X → Ab X Y → Jx s Y) →
    (∀ pre x X, J pre X → Nx pre x → YieldAt F (n - 1) P l (encs x) X fun e Y => (e = .returned (.bool true) ∧ J (pre ++ [x]) Y ∧ Kp X Y) ∨ (e = .returned (.bool false) ∧ Jx (pre ++ [x]) Y)) →
    J [] W →
    CallsIn F n P g (#[.func (.yield l) #[] #[]] ++ lb) W fun e Y => (∃ v, e = .returned v) ∧ ((∃ xs, S xs ∧ J xs Y) ∨ (∃ pre, Sp pre ∧ Jx pre Y))

variable {F : Fence} {n : Nat} {P : Program}

/-- The loop's two blocks of book-keeping. -/
def Kept2 (B : Nat) (r : Loop) (W : World) : Prop := W.heap[B + 1]? = some (.loop r) ∧ W.heap[B]? = some (.deferred (some []))
theorem Kept2.put {B : Nat} {r : Loop} {W : World} (h : Kept2 B r W) (r' : Loop) : Kept2 B r' (W.putObj (B + 1) (.loop r')) :=
  ⟨World.putObj_heap_same (Array.getElem?_eq_some_iff.1 h.1).1, (World.putObj_heap_other (by omega)).trans h.2⟩
theorem Kept2.from {B : Nat} {r : Loop} {W W' : World} (h : Kept2 B r W) (hk : KeepsFrom B W W') : Kept2 B r W' :=
  ⟨hk.same _ _ (by omega) h.1 rfl, hk.same _ _ (Nat.le_refl _) h.2 rfl⟩

theorem wpIn_rangeFunc_ab {α : Type} {g : Operand} {ps : Array Tmp} {assign body : Code} {Q : Exit → Act → World → Prop} {a : Act} {w : World}
    (hro : F.round = none) (h1 : 1 ≤ n) {gf : Nat} {lb : Array Value} (hg : a.eval g = .func (.func gf) #[] lb) (hFg : F.fn gf) (eg : ∀ args w, (callFunc gf args).run P w = .ok (.enter gf args) w)
    {encs : α → Array Value} {Ab Kp : World → World → Prop} {S Sp : List α → Prop} {Nx : List α → α → Prop} {w0 : World} (hseq : SeqAb F (n - 1) P gf lb encs Ab Kp S Sp Nx w0)
    (hb0 : Below w0.heap.size w0 w) (hps : ∀ x, (encs x).size = ps.size)
    (hAb : ∀ X Y, Ab X Y → ∀ k o, w.heap.size ≤ k → X.heap[k]? = some o → o.isCells = false → Y.heap[k]? = some o)
    (hKt : ∀ {A B C : World}, Kp A B → Kp B C → Kp A C) (hKb : ∀ (W : World) (l : Nat) (o o' : Obj), w.heap.size ≤ l → W.heap[l]? = some o → o.isCells = false → Kp W (W.putObj l o'))
    (I : List α → World → Prop) (Ix : Code → List α → World → Prop) (hI : OwnFrom w.heap.size I) (hIx : ∀ c, OwnFrom w.heap.size (Ix c))
    (aI : ∀ s X Y, I s X → Ab X Y → I s Y) (aIx : ∀ c s X Y, Ix c s X → Ab X Y → Ix c s Y) (h0 : I [] w) (a₁ : α → Act)
    (hassign : ∀ (l : Nat) (x : α) (W : World) (K : Act → World → Prop), K (a₁ x) W →
      assign.wpIn (F.inRound l) (n - 1 - 1) P (Exit.then K (fun _ _ _ => False)) { tmps := (ps.zip (encs x)).foldl (fun t (p, v) => t.setIfInBounds p v) a.tmps, defers := [] } W)
    (hbody : ∀ (l : Nat) (pre : List α) (x : α) (W : World), I pre W → Nx pre x → body.wpIn (F.inRound l) (n - 1 - 1) P (ownPostG w.heap.size Kp I Ix (pre ++ [x]) W) (a₁ x) W)
    (hdone : ∀ (D : Nat) (xs : List α) (W : World), w.heap.size ≤ D → S xs → I xs W → W.heap[D]? = some (.deferred (some [])) → Q .normal { a with defers := { target := .collected D, args := #[] } :: a.defers } W)
    (hstop : ∀ (D : Nat) (c : Code) (pre : List α) (W : World), w.heap.size ≤ D → Sp pre → Ix c pre W → W.heap[D]? = some (.deferred (some [])) → c.wpIn F n P Q { a with defers := { target := .collected D, args := #[] } :: a.defers } W) :
    (Code.rangeFunc g ps assign body).wpIn F n P Q a w := by
  refine wpIn_rangeFunc fun fn hfn => ?_
  rw [hro]
  obtain ⟨rec, hrec⟩ : ∃ rec : LoopState → Option Code → Loop, rec = fun st pe => { state := st, pending := pe, fn, tmps := a.tmps, params := ps, assign, body, defers := w.heap.size } := ⟨_, rfl⟩
  have hK : Kept2 w.heap.size (rec .ready none) ((w.alloc (.deferred (some []))).alloc (.loop (rec .ready none))) := by
    constructor
    · have := World.alloc_heap_new (w.alloc (.deferred (some []))) (.loop (rec .ready none)); rwa [World.size_alloc] at this
    · exact (Below.heap_alloc _ _ _ (by simp)).trans (World.alloc_heap_new w _)
  have hI1 : I [] ((w.alloc (.deferred (some []))).alloc (.loop (rec .ready none))) := hI.alloc _ (hI.alloc _ h0)
  have hb1 : Below w0.heap.size w0 ((w.alloc (.deferred (some []))).alloc (.loop (rec .ready none))) :=
    hb0.trans ((((Below.refl _ w).alloc (Nat.le_refl _) _).alloc (by simp) _).mono hb0.size)
  have hrun := run_enterLoop_outer (P := P) (w := w) fn a.tmps ps assign body
  rw [show (Loop.mk LoopState.ready none fn a.tmps ps assign body w.heap.size) = rec .ready none from by rw [hrec]] at hrun
  generalize (w.alloc (.deferred (some []))).alloc (.loop (rec .ready none)) = W1 at *
  refine ⟨w.heap.size + 1, [{ target := .collected w.heap.size, args := #[] }], W1, { target := .fn (.func gf) lb, args := #[.func (.yield (w.heap.size + 1)) #[] #[]] }, W1, gf,
    #[.func (.yield (w.heap.size + 1)) #[] #[]] ++ lb, W1, hrun, ?_, ?_, ?_, fun _ => h1, ?_⟩
  · simp only [resolve, hg]
    simp [go_sem]
  · intro f' hf'; simp [Target.leads] at hf'; subst hf'; exact hFg
  · simp [invoke, go_sem, eg]
  · have kAb : ∀ {r X Y}, Kept2 w.heap.size r X → Ab X Y → Kept2 w.heap.size r Y := fun h k => ⟨hAb _ _ k _ _ (by omega) h.1 rfl, hAb _ _ k _ _ (Nat.le_refl _) h.2 rfl⟩
    refine (hseq (w.heap.size + 1) (fun pre W => I pre W ∧ Kept2 w.heap.size (rec .ready none) W) (fun pre W => ∃ c, Ix c pre W ∧ Kept2 w.heap.size (rec .done (some c)) W) W1 hb1
      (fun s X Y h k => ⟨aI s X Y h.1 k, kAb h.2 k⟩) (fun s X Y ⟨c, h, h'⟩ k => ⟨c, aIx c s X Y h k, kAb h' k⟩) ?_ ⟨hI1, hK⟩).mono ?_
    · rintro pre x W ⟨hi, hk⟩ hnx
      have hy := run_yield (P := P) (args := encs x) hk.1 (by rw [hrec]; exact hps x)
      rw [hrec] at hy
      refine ⟨fn, _, assign, body, hy, roundIn_of_wpIn hfn (hassign _ x W _ ⟨_, run_beginRound hk.1 (by rw [hrec]), ?_⟩)⟩
      have hk2 := hk.put { rec .ready none with state := .busy }
      have hw2 : Kp W _ := hKb W (w.heap.size + 1) _ (.loop { rec .ready none with state := .busy }) (by omega) hk.1 rfl
      refine wpIn_mono (hbody _ pre x _ (hI.putObj _ hi (by omega) hk.1 rfl) hnx) ?_
      have fin : ∀ (jump : Option Code) (W3 : World), KeepsFrom w.heap.size (W.putObj (w.heap.size + 1) (.loop { rec .ready none with state := .busy })) W3 →
          (Instr.endRound (w.heap.size + 1) jump).run P W3 = .ok (.bool jump.isNone) (W3.putObj (w.heap.size + 1) (.loop (rec (if jump.isNone then .ready else .done) jump))) ∧
          W3.heap[w.heap.size + 1]? = some (.loop { rec .ready none with state := .busy }) ∧
          Kept2 w.heap.size (rec (if jump.isNone then .ready else .done) jump) (W3.putObj (w.heap.size + 1) (.loop (rec (if jump.isNone then .ready else .done) jump))) := fun jump W3 hk3 => by
        have hl3 := hk2.from hk3
        have := run_endRound (P := P) jump hl3.1
        rw [hrec] at this
        refine ⟨by rw [hrec]; exact this, hl3.1, hl3.put _⟩
      rintro e a3 W3 hp
      cases e with
      | normal =>
        obtain ⟨hr, hl3, hk4⟩ := fin none W3 hp.1
        exact ⟨_, _, hr, .inl ⟨rfl, ⟨hI.putObj _ hp.2.2 (by omega) hl3 rfl, hk4⟩, hKt (hKt hw2 hp.2.1) (hKb _ _ _ _ (by omega) hl3 rfl)⟩⟩
      | ret =>
        obtain ⟨hr, hl3, hk4⟩ := fin (some .ret) W3 hp.1
        exact ⟨_, _, hr, .inr ⟨rfl, .ret, (hIx _).putObj _ hp.2 (by omega) hl3 rfl, hk4⟩⟩
      | exit id =>
        obtain ⟨hr, hl3, hk4⟩ := fin (some (.exit id)) W3 hp.1
        exact ⟨_, _, hr, .inr ⟨rfl, .exit id, (hIx _).putObj _ hp.2 (by omega) hl3 rfl, hk4⟩⟩
      | goto t =>
        obtain ⟨hr, hl3, hk4⟩ := fin (some (.goto t)) W3 hp.1
        exact ⟨_, _, hr, .inr ⟨rfl, .goto t, (hIx _).putObj _ hp.2 (by omega) hl3 rfl, hk4⟩⟩
      | panic ch => exact hp.elim
      | outgrown => exact hp.elim
    · rintro e W2 ⟨⟨v, rfl⟩, (⟨xs, hS, hi, hk⟩ | ⟨pre, hSp, c, hi, hk⟩)⟩
      · exact ⟨none, _, by have := run_endLoop (P := P) hk.1 (by rw [hrec]; simp); rw [hrec] at this; exact this, hdone _ xs _ (Nat.le_refl _) hS (hI.putObj _ hi (by omega) hk.1 rfl) ((World.putObj_heap_other (by omega)).trans hk.2)⟩
      · exact ⟨some c, _, by have := run_endLoop (P := P) hk.1 (by rw [hrec]; simp); rw [hrec] at this; exact this, hstop _ c pre _ (Nat.le_refl _) hSp ((hIx c).putObj _ hi (by omega) hk.1 rfl) ((World.putObj_heap_other (by omega)).trans hk.2)⟩
end Fm

open Go.RowKit Go.Shelf
namespace Go.Proofs.YtpcgpcjleedilaaGreatDoor
open Go Go.Proofs Fm
attribute [local go_sem] Oper.semAt_some

/-- Blocks that lie as they lay. -/
def KeepsB (bs : List Nat) (X Y : World) : Prop := ∀ b, b ∈ bs → ∀ o, X.heap[b]? = some o → Y.heap[b]? = some o
theorem KeepsB.trans {bs : List Nat} {X Y Z : World} (h : KeepsB bs X Y) (k : KeepsB bs Y Z) : KeepsB bs X Z := fun b hb o ho => k b hb o (h b hb o ho)
/-- What may come next. -/
def NextP (s : List UInt8) (pre : List (List UInt8)) (x : List UInt8) : Prop := ∃ post, split47 s = pre ++ x :: post

theorem splitSeq_any (s : List UInt8) (w : World) :
    Calls Tryz.prog 48 #[.string (str s), .string (str [47])] w fun e w' => e = .returned (.func (.func 86) #[] #[.pointer (some ⟨w.heap.size + 1, 0, none⟩), .pointer (some ⟨w.heap.size, 0, none⟩), .pointer (some ⟨w.heap.size + 2, 0, none⟩)]) ∧
      ((w.alloc (.cells #[.string (str s)] 9)).alloc (.cells #[.string (str [47])] 9)).alloc (.cells #[.int .i64 0] 3) = w' := by
  have HC : ∀ w : World, Hid (Calls Tryz.prog 75 #[.string (str s), .string (str [47]), .int .i64 0] w fun e w' => e = .returned (.func (.func 86) #[] #[.pointer (some ⟨w.heap.size + 1, 0, none⟩), .pointer (some ⟨w.heap.size, 0, none⟩), .pointer (some ⟨w.heap.size + 2, 0, none⟩)]) ∧
      ((w.alloc (.cells #[.string (str s)] 9)).alloc (.cells #[.string (str [47])] 9)).alloc (.cells #[.int .i64 0] 3) = w') := fun w => Lib.hid (by
    go_enter Tryz.func75, Tryz.ntmps75
    go_wp2
    go_ret
    exact ⟨rfl, rfl⟩)
  go_enter Tryz.func48, Tryz.ntmps48
  go_wp2_with fail
  refine (HC _).out.mono ?_
  rintro e w1 ⟨rfl, rfl⟩
  go_wp2
  go_ret
  exact ⟨rfl, rfl⟩
set_option maxHeartbeats 1000000 in
theorem splitSeq1_in (n l bS bP bV : Nat) (s0 : List UInt8) (hl : s0.length ≤ 1000000) (hne : bS ≠ bP ∧ bS ≠ bV) (J Jx : List (List UInt8) → World → Prop)
    (aJ : ∀ p X u, J p X → J p (X.setCell ⟨bS, 0, none⟩ u))
    (hY : ∀ pre x X, J pre X → NextP s0 pre x → YieldAt Fence.wide (n - 1) Tryz.prog l #[.string (str x)] X fun e Y =>
      (e = .returned (.bool true) ∧ J (pre ++ [x]) Y ∧ KeepsB [bS, bP, bV] X Y) ∨ (e = .returned (.bool false) ∧ Jx (pre ++ [x]) Y))
    (W : World) (hS : Boxed W bS 9 (.string (str s0))) (hP : Boxed W bP 9 (.string (str [47]))) (hV : Boxed W bV 3 (.int .i64 0)) (h0 : J [] W) :
    CallsIn Fence.wide n Tryz.prog 86 #[.func (.yield l) #[] #[], .pointer (some ⟨bP, 0, none⟩), .pointer (some ⟨bS, 0, none⟩), .pointer (some ⟨bV, 0, none⟩)] W fun e W' =>
      (∃ v, e = .returned v) ∧ (J (split47 s0) W' ∨ ∃ pre, Jx pre W') := by
  have hfn : ∀ f, Fence.wide.fn f := fun _ => trivial
  have hdp : Fence.wide.depth.isSome = false := rfl
  have hI : ∀ (r : List UInt8) (w : World), Calls Tryz.prog 88 #[.string (str r), .string (str [47])] w fun e w' => e = .returned (.int .i64 (Lib.indexByte r 47)) ∧ w = w' := fun r w =>
    (Tryz.strings_Index_one (str r) 47 w).mono fun e w' ⟨h1, h2⟩ => ⟨by rw [h1, str_list], h2.symm⟩
  refine callsIn_of_wp Tryz.func86 rfl trivial ?_ rfl
  simp only [Tryz.ntmps86, List.size_toArray, List.length_cons, List.length_nil, Nat.reduceAdd, Nat.reduceSub, Array.replicate_succ, Array.replicate_zero, List.push_toArray, List.append_toArray, List.nil_append, List.cons_append]
  have c1 := hP.cell
  have hI := Lib.hid hI
  have HY := Lib.hid hY
  have HJ := Lib.hid aJ
  clear hY aJ
  have hs1 : (str [47]).size = 1 := rfl
  gi_wp2
  gi_loopw [7] (fun _ wr => ∃ (pre : List (List UInt8)) (r : List UInt8), Hid (split47 s0 = pre ++ split47 r) ∧ Hid (r.length ≤ s0.length) ∧ Hid (Boxed wr bS 9 (.string (str r)) ∧ Boxed wr bP 9 (.string (str [47])) ∧ Boxed wr bV 3 (.int .i64 0)) ∧ Hid (J pre wr))
    (fun _ w => match w.cell? ⟨bS, 0, none⟩ with | some (.string b) => b.size | _ => 0)
  case atStart => exact ⟨[], s0, Lib.hid rfl, Lib.hid (Nat.le_refl _), Lib.hid ⟨hS, hP, hV⟩, Lib.hid h0⟩
  case round =>
    obtain ⟨pre, r, HR, HL, HB, HJr⟩ := hrel
    have hrl : r.length ≤ 1000000 := Nat.le_trans HL.out hl
    have c0 := HB.out.1.cell
    have c1 := HB.out.2.1.cell
    have c2 := HB.out.2.2.cell
    have f0 := HB.out.1.frozen
    clear hS hP hV h0
    have hIr := hI.out r wr
    by_cases hm : (47 : UInt8) ∈ r
    · obtain ⟨a, r', rfl, hk⟩ := first_of 47 r hm
      rw [idxByte_at a r' 47 hk] at hIr
      have hIr := Lib.hid hIr
      have hal : a.length + 1 ≤ (a ++ 47 :: r').length := by simp
      have e1 : (str (a ++ 47 :: r')).extract 0 a.length = str a := by rw [extract_strI]; simp
      have e2 : (str (a ++ 47 :: r')).extract (a.length + 1) (a ++ 47 :: r').length = str r' := by rw [extract_strI, List.take_length, show a ++ 47 :: r' = (a ++ [47]) ++ r' by simp]; exact congrArg str (List.drop_left' (by simp))
      have hsz := str_size (a ++ 47 :: r')
      have hsp : split47 (a ++ 47 :: r') = a :: split47 r' := split47_at a r' (fun c hc => hk c hc)
      have HR := Lib.hid (show split47 s0 = pre ++ a :: split47 r' by rw [HR.out, hsp])
      have HLr := Lib.hid (show r'.length ≤ s0.length by have := HL.out; simp at this; omega)
      have hlt : r'.length < (a ++ 47 :: r').length := by simp; omega
      clear hsp hk hm
      generalize (a ++ 47 :: r').length = N at *
      generalize str (a ++ 47 :: r') = S at *
      obtain ⟨fn, tmps, assign, body, hy, hR⟩ := HY.out pre a wr HJr.out ⟨_, HR.out⟩
      clear HJr
      gi_wp2_with (gi_at_call 88; refine (callsIn_wide.2 hIr.out).mono ?_; rintro e w' ⟨rfl, rfl⟩)
      refine hR.mono ?_
      rintro e W3 (⟨rfl, hJ3, hk3⟩ | ⟨rfl, hJx3⟩)
      · have HB3 : Hid (Boxed W3 bS 9 (.string S) ∧ Boxed W3 bP 9 (.string (str [47])) ∧ Boxed W3 bV 3 (.int .i64 0)) := Lib.hid ⟨hk3 _ (by simp) _ HB.out.1, hk3 _ (by simp) _ HB.out.2.1, hk3 _ (by simp) _ HB.out.2.2⟩
        have d0 := HB3.out.1.cell
        have d1 := HB3.out.2.1.cell
        have g0 := HB3.out.1.frozen
        have HJ3 := Lib.hid (HJ.out _ _ (.string (str r')) hJ3)
        have HB4 : Hid (Boxed (W3.setCell ⟨bS, 0, none⟩ (.string (str r'))) bS 9 (.string (str r')) ∧ Boxed (W3.setCell ⟨bS, 0, none⟩ (.string (str r'))) bP 9 (.string (str [47])) ∧ Boxed (W3.setCell ⟨bS, 0, none⟩ (.string (str r'))) bV 3 (.int .i64 0)) :=
          Lib.hid ⟨HB3.out.1.set _, HB3.out.2.1.other (fun e => hne.1 e.symm) _, HB3.out.2.2.other (fun e => hne.2 e.symm) _⟩
        have c0' := c0
        clear hJ3 hk3 HB3 c0 c1 c2 f0
        gi_wp2
        go_roundw
        case rel => exact ⟨pre ++ [a], r', Lib.hid (by rw [HR.out]; simp), HLr, HB4, HJ3⟩
        case measure =>
          have m1 := HB4.out.1.cell
          simp only [m1, c0']
          rw [str_size, hsz]; exact hlt
      · gi_wp2
        refine bodyPost_ret (results_none rfl _ _ _) rfl ?_
        exact ⟨⟨_, rfl⟩, .inr ⟨_, hJx3⟩⟩
    · have hIr' := hIr
      rw [idxByte_no r 47 (fun d hd e => hm (e ▸ hd))] at hIr'
      have hIr := Lib.hid hIr'
      have hsp := split47_no r (fun d hd e => hm (e ▸ hd))
      have HR := Lib.hid (show split47 s0 = pre ++ [r] by rw [HR.out, hsp])
      obtain ⟨fn, tmps, assign, body, hy, hR⟩ := HY.out pre r wr HJr.out ⟨[], HR.out⟩
      clear HJr hsp hIr' hm
      gi_wp2_with (gi_at_call 88; refine (callsIn_wide.2 hIr.out).mono ?_; rintro e w' ⟨rfl, rfl⟩)
      refine hR.mono ?_
      rintro e W3 (⟨rfl, hJ3, hk3⟩ | ⟨rfl, hJx3⟩)
      · have HJ3 := Lib.hid hJ3
        clear hJ3
        gi_wp2
        go_end0
        exact ⟨⟨_, rfl⟩, .inl (by rw [HR.out]; exact HJ3.out)⟩
      · gi_wp2
        go_end0
        exact ⟨⟨_, rfl⟩, .inr ⟨_, hJx3⟩⟩
/-- The iterator's contract. -/
theorem splitSeq1_stops (n bS bP bV : Nat) (s : List UInt8) (hl : s.length ≤ 1000000) (hne : bS ≠ bP ∧ bS ≠ bV) (w : World) (hS : Boxed w bS 9 (.string (str s))) (hP : Boxed w bP 9 (.string (str [47]))) (hV : Boxed w bV 3 (.int .i64 0)) :
    SeqAb Fence.wide n Tryz.prog 86 #[.pointer (some ⟨bP, 0, none⟩), .pointer (some ⟨bS, 0, none⟩), .pointer (some ⟨bV, 0, none⟩)] (fun x => #[.string (str x)]) (fun X Y => ∃ u, Y = X.setCell ⟨bS, 0, none⟩ u) (KeepsB [bS, bP, bV])
      (fun xs => xs = split47 s) (fun _ => True) (NextP s) w := by
  intro l J Jx W hW aJ aJx hY h0
  have hk : ∀ {b t v}, Boxed w b t v → Boxed W b t v := fun h => (hW.block _ h.lt).trans h
  refine (splitSeq1_in n l bS bP bV s hl hne J Jx (fun p X u h => aJ p X _ h ⟨u, rfl⟩) hY W (hk hS) (hk hP) (hk hV) h0).mono ?_
  rintro e W' ⟨hv, h | ⟨pre, h⟩⟩
  · exact ⟨hv, .inl ⟨_, rfl, h⟩⟩
  · exact ⟨hv, .inr ⟨pre, trivial, h⟩⟩
end Go.Proofs.YtpcgpcjleedilaaGreatDoor

open Go.RowKit Go.Shelf
namespace Go.Proofs.YtpcgpcjleedilaaGreatDoor
open Go Go.Proofs Fm

/-- A box of two cells, both written. -/
def set2W (w : World) (b : Nat) (x y : Value) : World := (w.setCell ⟨b, 0, none⟩ x).setCell ⟨b, 1, none⟩ y
theorem set2_facts {w0 w : World} {b : Nat} {c0 c1 x y : Value} (hE : Ext w0 w) (hb : BoxL w b [c0, c1]) (hw : w0.heap.size ≤ b) : Ext w0 (set2W w b x y) ∧ BoxL (set2W w b x y) b [x, y] := by
  refine ⟨(hE.setCell (p := ⟨b, 0, none⟩) hw _).setCell (p := ⟨b, 1, none⟩) hw _, ?_⟩
  have h1 := hb.set 0 (by simp) x
  have h2 := h1.set 1 (by simp) y
  exact h2
theorem set2_far {w : World} {b b' : Nat} {vs : List Value} (h : BoxL w b' vs) (hne : b' ≠ b) (x y : Value) : BoxL (set2W w b x y) b' vs :=
  (h.kept (grown_set _ b 0 _) (fun e => hne (by cases e; rfl))).kept (grown_set _ b 1 _) (fun e => hne (by cases e; rfl))
/-- What step hands back. -/
def StepPost (s : List UInt8) (w : World) (e : Ending) (w' : World) : Prop :=
  ∃ x : Stp, stpWf x ∧ e = .returned (.tuple #[.agg #[.string (str x.name), .int .i64 x.place], .bool (stepP s).isSome]) ∧ (stepP s = none ∨ stepP s = some x) ∧ Ext w w'
theorem stepZero (s : List UInt8) (w : World) {w' : World} (h : stepP s = none) (hE : Ext w w') : StepPost s w (.returned (.tuple #[.agg #[.string { data := #[] }, .int .i64 0], .bool false])) w' :=
  ⟨⟨[], 0⟩, ⟨by simp, by unfold isI64; simp⟩, by rw [h]; rfl, .inl h, hE⟩
theorem stepEnd {s nm : List UInt8} {pl : Int} {w w' : World} (h : stepP s = if nameB nm = true then some ⟨nm, pl⟩ else none) (hn : nm.length ≤ 9223372036854775807) (hp : isI64 pl) (hE : Ext w w') :
    StepPost s w (.returned (.tuple #[.agg #[.string (str nm), .int .i64 pl], .bool (nameB nm)])) w' := by
  refine ⟨⟨nm, pl⟩, ⟨hn, hp⟩, ?_, ?_, hE⟩
  · rw [h]; cases nameB nm <;> rfl
  · rw [h]; cases nameB nm
    · exact .inl rfl
    · exact .inr rfl
set_option maxHeartbeats 2000000 in
theorem idStep_any (s : List UInt8) (hs : s.length ≤ 1000000) (w : World) (hw : KW w) :
    Calls Tryz.prog 50 #[.string (str s)] w (StepPost s w) := by
  have HX := Lib.hid (show stepP s = if (Lib.cut s [91]).2.2 = true then
    if Lib.hasSuffix (Lib.cut s [91]).2.1 [93] = true then (numI (Lib.trimSuffix (Lib.cut s [91]).2.1 [93])).bind fun n => if nameB (Lib.cut s [91]).1 = true then some ⟨(Lib.cut s [91]).1, n⟩ else none else none
  else if nameB (Lib.cut s [91]).1 = true then some ⟨(Lib.cut s [91]).1, -1⟩ else none from rfl)
  have HC := fun w => Lib.hid (cut_any s 91 hs w)
  have hlc : (Lib.cut s [91]).1.length ≤ 1000000 ∧ (Lib.cut s [91]).2.1.length ≤ 1000000 := by
    by_cases h : (91 : UInt8) ∈ s
    · obtain ⟨a, r, rfl, hk⟩ := first_of 91 s h
      rw [cut_at a r 91 hk]
      simp at hs ⊢
      omega
    · rw [cut_no s 91 (fun d hd e => h (e ▸ hd))]
      exact ⟨hs, by simp⟩
  unfold CutPost at HC
  generalize Lib.cut s [91] = cc at *
  obtain ⟨nm, rs, ys⟩ := cc
  have HX := Lib.hid (show stepP s = if ys = true then
    if Lib.hasSuffix rs [93] = true then (numI (Lib.trimSuffix rs [93])).bind fun n => if nameB nm = true then some ⟨nm, n⟩ else none else none
  else if nameB nm = true then some ⟨nm, -1⟩ else none from HX.out)
  have hln : nm.length ≤ 1000000 := hlc.1
  have hlr : rs.length ≤ 1000000 := hlc.2
  clear hlc
  have HE0 := Lib.hid ((Ext.refl w).alloc (.cells #[.string { data := #[] }, .int .i64 0] 27))
  have hb := BoxL.new w [.string { data := #[] }, .int .i64 0] 27
  have HW := Lib.hid hw
  clear hw
  go_enter Tryz.func50, Tryz.ntmps50
  go_upto_region 1 with (fail)
  generalize w.alloc (.cells #[.string { data := #[] }, .int .i64 0] 27) = W1 at *
  have hz0 := hb.lt
  have HB := Lib.hid hb
  clear hb
  go_wp2_with fail
  refine (HC _).out.mono ?_
  rintro e w2 ⟨rfl, hE⟩
  have HB2 := Lib.hid (HB.out.ext hE)
  have HE2 := Lib.hid (HE0.out.trans hE)
  have hz2 : w.heap.size < w2.heap.size := HB2.out.lt
  clear hE HB HC HE0
  have hE3 := HE2.out.alloc (.cells #[.string (str nm), .int .i64 (-1)] 27)
  have hb3 := BoxL.new w2 [.string (str nm), .int .i64 (-1)] 27
  have hB3 := HB2.out.ext ((Ext.refl w2).alloc (.cells #[.string (str nm), .int .i64 (-1)] 27))
  go_upto_region 3 with (fail)
  generalize w2.alloc (.cells #[.string (str nm), .int .i64 (-1)] 27) = W3 at *
  generalize w2.heap.size = OB at *
  have HE3 := Lib.hid hE3
  have HO3 := Lib.hid hb3
  have HB3 := Lib.hid hB3
  clear hE3 hb3 hB3 HE2 HB2
  have hne : w.heap.size ≠ OB := by omega
  cases ys with
  | false =>
    have HXn := Lib.hid (show stepP s = if nameB nm = true then some ⟨nm, -1⟩ else none from by rw [HX.out, if_neg (by simp)])
    have o0 := HO3.out.cell 0 _ rfl
    have o1 := HO3.out.cell 1 _ rfl
    have hzB := HB3.out.lt
    go_upto_region 8 with (fail)
    clear HX
    go_region_with ((go_at_call 54; refine (name_any nm (by omega) _).mono ?_; rintro e w5 ⟨rfl, hE5⟩; have hE6 := (Ext.refl W3).drew.trans hE5; have q0 := (HO3.out.ext hE6).cell 0 _ rfl; have q1 := (HO3.out.ext hE6).cell 1 _ rfl; have HB5 := (HB3.out.ext hE6); have r0 := HB5.cell 0 _ rfl; have r1 := HB5.cell 1 _ rfl; have s0 := HB5.free 0; have s1 := HB5.free 1; have HB5 := Lib.hid HB5; have HE6 := Lib.hid (HE3.out.trans hE6); clear hE5 hE6))
    all_goals
      have hs2 := set2_facts (x := .string (str nm)) (y := .int .i64 (-1)) HE6.out HB5.out (Nat.le_refl _)
      have c0 := hs2.2.cell 0 _ rfl
      have c1 := hs2.2.cell 1 _ rfl
      have HZ := Lib.hid (stepEnd (show stepP s = if nameB nm = true then some ⟨nm, -1⟩ else none from HXn.out) (by omega) (by unfold isI64; omega) hs2.1)
      clear hs2 q0 q1 r0 r1 s0 s1 o0 o1
      go_wp2
      change bodyPost _ _ _ _ _ (set2W w5 w.heap.size (.string (str nm)) (.int .i64 (-1)))
      generalize set2W w5 w.heap.size (.string (str nm)) (.int .i64 (-1)) = Wn at *
      exact bodyPost_ret (v := .tuple #[.agg #[.string (str nm), .int .i64 (-1)], .bool (nameB nm)]) (by simp [results, Tryz.results50, go_sem, c0, c1]) rfl HZ.out
  | true =>
    have HXy := Lib.hid (show stepP s = if Lib.hasSuffix rs [93] = true then (numI (Lib.trimSuffix rs [93])).bind fun n => if nameB nm = true then some ⟨nm, n⟩ else none else none from by rw [HX.out, if_pos rfl])
    clear HX
    have hCS := Lib.hid (Tryz.strings_CutSuffix (str rs) (str [93]) W3 (by rw [str_size]; omega))
    rw [str_list, str_list] at hCS
    have hlt : (Lib.trimSuffix rs [93]).length ≤ 1000000 := by
      cases h : Lib.hasSuffix rs [93] with
      | true =>
        obtain ⟨a, rfl⟩ := suffix_cases h
        rw [trimSuffix_snoc]
        simp at hlr; omega
      | false =>
        unfold Lib.trimSuffix
        rw [if_neg (by simp [h])]; exact hlr
    generalize Lib.trimSuffix rs [93] = ds at *
    generalize Lib.hasSuffix rs [93] = hsf at *
    go_wp2_with fail
    refine hCS.out.mono ?_
    rintro e w4 ⟨rfl, rfl⟩
    go_wp2_with fail
    change Calls _ _ #[.string (str ds)] _ _
    have HW3 := Lib.hid (HW.out.ext HE3.out)
    refine (idNumber_any ds hlt _ HW3.out).mono ?_
    rintro e w5 ⟨rfl, hE5⟩
    have HNI := Lib.hid (numV_isI64 ds)
    have HNE := Lib.hid (@numV_eq ds)
    have HNS : Hid (numI ds = if numV ds = -1 then none else some (numV ds)) := Lib.hid (by
      cases h : numI ds with
      | none => rw [numV_none h]; rfl
      | some n => rw [numV_some h]; have := (numI_iff.1 h).1; rw [if_neg (by omega)])
    have hO5 := HO3.out.ext hE5
    have hB5 := HB3.out.ext hE5
    have o0 := hO5.cell 0 _ rfl
    have o1 := hO5.cell 1 _ rfl
    have f1 := hO5.free 1
    have hO6 := hO5.set 1 (by simp) (.int .i64 (numV ds))
    have hB6 := hB5.kept (grown_set w5 OB 1 (.int .i64 (numV ds))) (fun e => hne (by cases e; rfl))
    have hE6 := (HE3.out.trans hE5).setCell (p := ⟨OB, 1, none⟩) (by show w.heap.size ≤ OB; omega) (.int .i64 (numV ds))
    have HO5 := Lib.hid hO6
    have HB5 := Lib.hid hB6
    have HE5 := Lib.hid hE6
    clear hO5 hB5 hO6 hB6 hE5 hE6 HE3 HB3 HO3
    generalize numV ds = NV at *
    go_upto_region 6 with (fail)
    generalize w5.setCell ⟨OB, 1, none⟩ (.int .i64 NV) = W6 at *
    clear o0 o1 f1
    have o0 := HO5.out.cell 0 _ rfl
    have o1 := HO5.out.cell 1 _ rfl
    cases hsf with
    | false =>
      have HSN := Lib.hid (show stepP s = none by rw [HXy.out]; simp)
      have hsB := set2_facts (x := .string { data := #[] }) (y := .int .i64 0) HE5.out HB5.out (Nat.le_refl _)
      have c0 := hsB.2.cell 0 _ rfl
      have c1 := hsB.2.cell 1 _ rfl
      have HZ := Lib.hid (stepZero s w HSN.out hsB.1)
      have r0 := HB5.out.cell 0 _ rfl
      have r1 := HB5.out.cell 1 _ rfl
      have s0 := HB5.out.free 0
      have s1 := HB5.out.free 1
      clear hsB
      go_wp2
      change bodyPost _ _ _ _ _ (set2W W6 w.heap.size (.string { data := #[] }) (.int .i64 0))
      generalize set2W W6 w.heap.size (.string { data := #[] }) (.int .i64 0) = Wn at *
      exact bodyPost_ret (v := .tuple #[.agg #[.string { data := #[] }, .int .i64 0], .bool false]) (by simp [results, Tryz.results50, go_sem, c0, c1]) rfl HZ.out
    | true =>
    by_cases hn : NV = -1
    · have HSN := Lib.hid (show stepP s = none by rw [HXy.out, HNS.out, if_pos hn]; simp)
      have ht : (NV == -1) = true := by simp [hn]
      clear hn
      have hsB := set2_facts (x := .string { data := #[] }) (y := .int .i64 0) HE5.out HB5.out (Nat.le_refl _)
      have c0 := hsB.2.cell 0 _ rfl
      have c1 := hsB.2.cell 1 _ rfl
      have HZ := Lib.hid (stepZero s w HSN.out hsB.1)
      have r0 := HB5.out.cell 0 _ rfl
      have r1 := HB5.out.cell 1 _ rfl
      have s0 := HB5.out.free 0
      have s1 := HB5.out.free 1
      clear hsB HNS HNE HNI
      go_wp2
      change bodyPost _ _ _ _ _ (set2W W6 w.heap.size (.string { data := #[] }) (.int .i64 0))
      generalize set2W W6 w.heap.size (.string { data := #[] }) (.int .i64 0) = Wn at *
      exact bodyPost_ret (v := .tuple #[.agg #[.string { data := #[] }, .int .i64 0], .bool false]) (by simp [results, Tryz.results50, go_sem, c0, c1]) rfl HZ.out
    · have HXv := Lib.hid (show stepP s = if nameB nm = true then some ⟨nm, NV⟩ else none by rw [HXy.out, HNS.out, if_neg hn]; simp)
      have ht : (NV == -1) = false := by simp [hn]
      clear hn
      go_upto_region 8 with (fail)
      go_region_with ((go_at_call 54; refine (name_any nm (by omega) _).mono ?_; rintro e w7 ⟨rfl, hE6⟩; have hE7 := (Ext.refl W6).drew.trans hE6; have q0 := (HO5.out.ext hE7).cell 0 _ rfl; have q1 := (HO5.out.ext hE7).cell 1 _ rfl; have HB7 := (HB5.out.ext hE7); have r0 := HB7.cell 0 _ rfl; have r1 := HB7.cell 1 _ rfl; have s0 := HB7.free 0; have s1 := HB7.free 1; have HB7 := Lib.hid HB7; have HE6 := Lib.hid (HE5.out.trans hE7); clear hE6 hE7))
      all_goals
        have hs2 := set2_facts (x := .string (str nm)) (y := .int .i64 NV) HE6.out HB7.out (Nat.le_refl _)
        have c0 := hs2.2.cell 0 _ rfl
        have c1 := hs2.2.cell 1 _ rfl
        have HZ := Lib.hid (stepEnd HXv.out (by omega) HNI.out hs2.1)
        clear hs2 q0 q1 r0 r1 s0 s1 o0 o1 ht
        go_wp2
        change bodyPost _ _ _ _ _ (set2W w7 w.heap.size (.string (str nm)) (.int .i64 NV))
        generalize set2W w7 w.heap.size (.string (str nm)) (.int .i64 NV) = Wn at *
        exact bodyPost_ret (v := .tuple #[.agg #[.string (str nm), .int .i64 NV], .bool (nameB nm)]) (by simp [results, Tryz.results50, go_sem, c0, c1]) rfl HZ.out
end Go.Proofs.YtpcgpcjleedilaaGreatDoor

open Go.RowKit Go.Shelf
namespace Go.Proofs.YtpcgpcjleedilaaGreatDoor
open Go Go.Proofs Fm
attribute [local go_sem] Oper.semAt_some

/-- What Parse hands back. -/
def PathPost (s : List UInt8) (w : World) (e : Ending) (w' : World) : Prop :=
  ∃ v, e = .returned (.tuple #[v, .bool (parseP s).isSome]) ∧ Ext w w' ∧ (parseP s = none → v = .agg #[.int .i64 0, .slice none 0 0]) ∧ ∀ p, parseP s = some p → PthOwn 27 w.heap.size w' p v

/-- Between two rounds. -/
def PRnd (w : World) (pre : List (List UInt8)) (W : World) : Prop :=
  w.heap.size + 7 ≤ W.heap.size ∧ Ext w W ∧ BoxL W w.heap.size [.int .i64 0, .slice none 0 0] ∧ BoxL W (w.heap.size + 1) [.bool false] ∧ BoxL W (w.heap.size + 3) [.bool pre.isEmpty] ∧
  ∃ (fl : Int) (a : Option Addr) (m c : Nat) (st : List Stp), BoxL W (w.heap.size + 2) [.int .i64 fl, .slice a m c] ∧ OwnSt 27 (w.heap.size + 7) W (.slice a m c) st ∧ isI64 fl ∧
    ((pre = [] ∧ fl = 0 ∧ st = []) ∨ ∃ x l, pre = x :: l ∧ numI x = some fl ∧ stepsP l = some st)
/-- Where a round has ended all. -/
def PEnd (s : List UInt8) (w : World) (c : Code) (_ : List (List UInt8)) (W : World) : Prop :=
  c = .ret ∧ Ext w W ∧ BoxL W w.heap.size [.int .i64 0, .slice none 0 0] ∧ BoxL W (w.heap.size + 1) [.bool false] ∧ parseP s = none
theorem _root_.Fm.OwnSt.far {e : TypeId} {base : Nat} {w w' : World} {v : Value} {l : List Stp} {row : Option Nat} (h : OwnSt e base w v l) (hg : w.grownBy w' row) (hr : ∀ b, row = some b → ∃ o : Obj, w.heap[b]? = some o ∧ o.isCells = false) : OwnSt e base w' v l := by
  refine ⟨World.ownsRow.kept h.1 hg ?_, h.2⟩
  rcases h.1.2 with ⟨rfl, _⟩ | ⟨g, cap, cur, rfl, _, hgb, _⟩
  · exact .inl rfl
  · right
    intro e
    obtain ⟨o, h1, h2⟩ := hr g e.symm
    rw [hgb] at h1
    cases h1
    cases h2
theorem PRnd.own (w : World) : OwnFrom (w.heap.size + 7) (PRnd w) := by
  rintro pre X Y row ⟨hz, hE, h1, h2, h3, fl, a, m, c, st, h4, h5, h6⟩ hg hr
  have hb : ∀ b, b < w.heap.size + 7 → row ≠ some b := fun b hb e => by have := (hr b e).1; omega
  exact ⟨Nat.le_trans hz hg.size, hE.grown hg (fun k e => by have := (hr k e).1; omega), h1.kept hg (hb _ (by omega)), h2.kept hg (hb _ (by omega)), h3.kept hg (hb _ (by omega)), fl, a, m, c, st, h4.kept hg (hb _ (by omega)), h5.far hg (fun b e => (hr b e).2), h6⟩
theorem PRnd.set {w X : World} {pre : List (List UInt8)} (h : PRnd w pre X) (u : Value) : PRnd w pre (X.setCell ⟨w.heap.size + 4, 0, none⟩ u) := by
  obtain ⟨hz, hE, h1, h2, h3, fl, a, m, c, st, h4, h5, h6⟩ := h
  have hg := grown_set X (w.heap.size + 4) 0 u
  have hb : ∀ b, b < w.heap.size + 4 → some (w.heap.size + 4) ≠ some b := fun b hb e => by injection e; omega
  exact ⟨Nat.le_trans hz hg.size, hE.setCell (p := ⟨w.heap.size + 4, 0, none⟩) (by show w.heap.size ≤ w.heap.size + 4; omega) u, h1.kept hg (hb _ (by omega)), h2.kept hg (hb _ (by omega)), h3.kept hg (hb _ (by omega)), fl, a, m, c, st, h4.kept hg (hb _ (by omega)), h5.kept hg (fun b e => by injection e with e; omega), h6⟩
theorem PEnd.own (s : List UInt8) (w : World) (c : Code) : OwnFrom (w.heap.size + 7) (PEnd s w c) := by
  rintro pre X Y row ⟨hc, hE, h1, h2, h3⟩ hg hr
  have hb : ∀ b, b < w.heap.size + 7 → row ≠ some b := fun b hb e => by have := (hr b e).1; omega
  exact ⟨hc, hE.grown hg (fun k e => by have := (hr k e).1; omega), h1.kept hg (hb _ (by omega)), h2.kept hg (hb _ (by omega)), h3⟩
theorem PEnd.set {s : List UInt8} {w X : World} {c : Code} {pre : List (List UInt8)} (h : PEnd s w c pre X) (u : Value) : PEnd s w c pre (X.setCell ⟨w.heap.size + 4, 0, none⟩ u) := by
  obtain ⟨hc, hE, h1, h2, h3⟩ := h
  have hg := grown_set X (w.heap.size + 4) 0 u
  have hb : ∀ b, b < w.heap.size + 4 → some (w.heap.size + 4) ≠ some b := fun b hb e => by injection e; omega
  exact ⟨hc, hE.setCell (p := ⟨w.heap.size + 4, 0, none⟩) (by show w.heap.size ≤ w.heap.size + 4; omega) u, h1.kept hg (hb _ (by omega)), h2.kept hg (hb _ (by omega)), h3⟩
/-! ### plain -/
theorem parse_bad_num {s x : List UInt8} (h : ∃ post, split47 s = [] ++ x :: post) (hn : numI x = none) : parseP s = none := by
  obtain ⟨post, h⟩ := h
  unfold parseP
  rw [h]
  show (numI x).bind _ = none
  rw [hn]; rfl
theorem parse_bad_step {s a x : List UInt8} {l : List (List UInt8)} (h : ∃ post, split47 s = (a :: l) ++ x :: post) (hx : stepP x = none) : parseP s = none := by
  obtain ⟨post, h⟩ := h
  have hd : stepsP (l ++ x :: post) = none := by
    rw [show l ++ x :: post = (l ++ [x]) ++ post by simp]
    refine stepsP_dead ?_
    rw [stepsP_snoc, hx]
    cases stepsP l <;> rfl
  unfold parseP
  rw [h]
  simp only [List.cons_append, List.headD_cons, List.tail_cons, hd]
  cases numI a <;> rfl
theorem parse_good {s a : List UInt8} {l : List (List UInt8)} {n : Int} {st : List Stp} (h : split47 s = a :: l) (hn : numI a = some n) (hl : stepsP l = some st) : parseP s = if s.length ≤ 400 then some ⟨n, st⟩ else none := by
  unfold parseP
  rw [h]
  simp only [List.headD_cons, List.tail_cons, hn, hl, Option.bind_some]
theorem join47_len : ∀ l : List (List UInt8), (join47 l).length = l.flatten.length + (l.length - 1)
  | [] => rfl
  | [p] => by simp [join47]
  | p :: q :: qs => by
    have := join47_len (q :: qs)
    rw [join47_cons _ (by simp), List.length_append, List.length_cons, this]
    simp
    omega
theorem next_len {s : List UInt8} {pre : List (List UInt8)} {x : List UInt8} (h : NextP s pre x) : x.length ≤ s.length ∧ pre.length ≤ s.length := by
  obtain ⟨post, h⟩ := h
  have := join47_len (split47 s)
  rw [join47_split, h] at this
  simp at this
  omega
theorem stepsP_len : ∀ {l : List (List UInt8)} {st : List Stp}, stepsP l = some st → st.length = l.length
  | [], st, h => by rw [stepsP] at h; cases h; rfl
  | p :: l, st, h => by
    rw [stepsP] at h
    obtain ⟨x, _, h2⟩ := Option.bind_eq_some_iff.1 h
    obtain ⟨r, h3, rfl⟩ := Option.map_eq_some_iff.1 h2
    simp [stepsP_len h3]
/-- What a round does to the world: of these blocks, and of what is no cells, nothing turns. -/
def Rnd (bs : List Nat) (X Y : World) : Prop := X.heap.size ≤ Y.heap.size ∧ ∀ k o, X.heap[k]? = some o → (k ∈ bs ∨ o.isCells = false) → Y.heap[k]? = some o
theorem Rnd.refl (bs : List Nat) (X : World) : Rnd bs X X := ⟨Nat.le_refl _, fun _ _ h _ => h⟩
theorem Rnd.trans {bs : List Nat} {X Y Z : World} (h : Rnd bs X Y) (k : Rnd bs Y Z) : Rnd bs X Z := ⟨Nat.le_trans h.1 k.1, fun i o hi ho => k.2 i o (h.2 i o hi ho) ho⟩
theorem Rnd.ext {bs : List Nat} {X Y : World} (h : Ext X Y) : Rnd bs X Y := ⟨h.size, fun k _ hk _ => (h.block k (Array.getElem?_eq_some_iff.1 hk).1).trans hk⟩
theorem Rnd.set {bs : List Nat} (X : World) (b j : Nat) (u : Value) (hb : b ∉ bs) : Rnd bs X (X.setCell ⟨b, j, none⟩ u) := by
  refine ⟨(KeepsOthers.setCell X ⟨b, j, none⟩ u).size, fun k o hk ho => ?_⟩
  rcases ho with ho | ho
  · exact (Below.heap_setCell X ⟨b, j, none⟩ u k (fun e => hb (by rw [← show k = b from e]; exact ho))).trans hk
  · exact (KeepsOthers.setCell X ⟨b, j, none⟩ u).same k o hk ho
theorem Rnd.grown {bs : List Nat} {X Y : World} {row : Option Nat} (hg : X.grownBy Y row) (hb : ∀ b, row = some b → b ∉ bs) (hc : ∀ j o, row = some j → X.heap[j]? = some o → o.isCells = true) : Rnd bs X Y := by
  refine ⟨hg.size, fun k o hk ho => ?_⟩
  rcases ho with ho | ho
  · exact (hg.block k (Array.getElem?_eq_some_iff.1 hk).1 (fun e => hb k e.symm ho)).trans hk
  · exact (KeepsOthers.of_grownBy hg hc).same k o hk ho
theorem Rnd.from {bs : List Nat} {X Y : World} (h : Rnd bs X Y) (B : Nat) : KeepsFrom B X Y := ⟨h.1, fun k o _ hk ho => h.2 k o hk (.inr ho)⟩
theorem Rnd.keeps {bs : List Nat} {X Y : World} (h : Rnd bs X Y) : KeepsB bs X Y := fun b hb o ho => h.2 b o ho (.inl hb)
theorem info_step : (Tryz.prog.info? 27).map (fun i => (i.zero, i.size, i.bytes)) = some (some (.agg #[.string { data := #[] }, .int .i64 0]), 2, 24) := by kernel_rfl
/-- The three blocks of the iterator. -/
def bs3 (w : World) : List Nat := [w.heap.size + 4, w.heap.size + 5, w.heap.size + 6]
theorem not_bs3 {w : World} {b : Nat} (h : b < w.heap.size + 4 ∨ w.heap.size + 7 ≤ b) : b ∉ bs3 w := by unfold bs3; simp; omega
/-- What a round keeps in mind: nothing that lay has turned, the iterator's blocks lie, the four boxes. -/
def PBox (w W W' : World) (c0 c1 : Value) (f : Bool) : Prop :=
  Ext w W' ∧ Rnd (bs3 w) W W' ∧ BoxL W' w.heap.size [.int .i64 0, .slice none 0 0] ∧ BoxL W' (w.heap.size + 1) [.bool false] ∧ BoxL W' (w.heap.size + 2) [c0, c1] ∧ BoxL W' (w.heap.size + 3) [.bool f]
theorem PBox.ext {w W W1 W2 : World} {c0 c1 : Value} {f : Bool} (h : PBox w W W1 c0 c1 f) (hE : Ext W1 W2) : PBox w W W2 c0 c1 f :=
  ⟨h.1.trans hE, h.2.1.trans (Rnd.ext hE), h.2.2.1.ext hE, h.2.2.2.1.ext hE, h.2.2.2.2.1.ext hE, h.2.2.2.2.2.ext hE⟩
theorem PBox.first {w W W1 : World} {c0 c1 : Value} {f : Bool} (h : PBox w W W1 c0 c1 f) (g : Bool) : PBox w W (W1.setCell ⟨w.heap.size + 3, 0, none⟩ (.bool g)) c0 c1 g := by
  obtain ⟨hE, hr, bR, bK, bP, bF⟩ := h
  have hg := grown_set W1 (w.heap.size + 3) 0 (.bool g)
  exact ⟨hE.setCell (p := ⟨w.heap.size + 3, 0, none⟩) (by show w.heap.size ≤ w.heap.size + 3; omega) _, hr.trans (Rnd.set _ _ _ _ (not_bs3 (.inl (by omega)))), bR.kept hg (by simp), bK.kept hg (by simp), bP.kept hg (by simp), bF.set 0 (by simp) _⟩
theorem PBox.num {w W W1 : World} {c0 c1 : Value} {f : Bool} (h : PBox w W W1 c0 c1 f) (u : Value) : PBox w W (W1.setCell ⟨w.heap.size + 2, 0, none⟩ u) u c1 f := by
  obtain ⟨hE, hr, bR, bK, bP, bF⟩ := h
  have hg := grown_set W1 (w.heap.size + 2) 0 u
  exact ⟨hE.setCell (p := ⟨w.heap.size + 2, 0, none⟩) (by show w.heap.size ≤ w.heap.size + 2; omega) _, hr.trans (Rnd.set _ _ _ _ (not_bs3 (.inl (by omega)))), bR.kept hg (by simp), bK.kept hg (by simp), bP.set 0 (by simp) _, bF.kept hg (by simp)⟩
theorem PBox.steps {w W W1 : World} {c0 c1 : Value} {f : Bool} (h : PBox w W W1 c0 c1 f) (u : Value) : PBox w W (W1.setCell ⟨w.heap.size + 2, 1, none⟩ u) c0 u f := by
  obtain ⟨hE, hr, bR, bK, bP, bF⟩ := h
  have hg := grown_set W1 (w.heap.size + 2) 1 u
  exact ⟨hE.setCell (p := ⟨w.heap.size + 2, 1, none⟩) (by show w.heap.size ≤ w.heap.size + 2; omega) _, hr.trans (Rnd.set _ _ _ _ (not_bs3 (.inl (by omega)))), bR.kept hg (by simp), bK.kept hg (by simp), bP.set 1 (by simp) _, bF.kept hg (by simp)⟩
theorem PBox.grown {w W W1 W2 : World} {c0 c1 : Value} {f : Bool} {row : Option Nat} (h : PBox w W W1 c0 c1 f) (hg : W1.grownBy W2 row) (hr : ∀ b, row = some b → w.heap.size + 7 ≤ b ∧ ∃ o : Obj, W1.heap[b]? = some o ∧ o.isCells = true) : PBox w W W2 c0 c1 f := by
  obtain ⟨hE, r, bR, bK, bP, bF⟩ := h
  have hb : ∀ b, b < w.heap.size + 7 → row ≠ some b := fun b hb e => by have := (hr b e).1; omega
  refine ⟨hE.grown hg (fun k e => by have := (hr k e).1; omega), r.trans (Rnd.grown hg (fun b e => not_bs3 (.inr (hr b e).1)) (fun j o e ho => ?_)), bR.kept hg (hb _ (by omega)), bK.kept hg (hb _ (by omega)), bP.kept hg (hb _ (by omega)), bF.kept hg (hb _ (by omega))⟩
  obtain ⟨o', h1, h2⟩ := (hr j e).2
  rw [ho] at h1
  cases h1
  exact h2
theorem _root_.Fm.OwnSt.cellsBlock {e : TypeId} {base : Nat} {w : World} {v : Value} {l : List Stp} (h : OwnSt e base w v l) : ∀ b, v.ownBlock = some b → base ≤ b ∧ ∃ o : Obj, w.heap[b]? = some o ∧ o.isCells = true := by
  intro b hb
  refine ⟨(h.lt b hb).1, ?_⟩
  rcases h.1.2 with ⟨rfl, _⟩ | ⟨g, cap, cur, rfl, _, hgb, _⟩
  · cases hb
  · have e : g = b := by simpa [Value.ownBlock] using hb
    subst e
    exact ⟨_, hgb, rfl⟩
theorem box_add {w : World} {b : Nat} {vs : List Value} (h : BoxL w b vs) : ∀ j u, vs[j]? = some u → w.cell? ((⟨b, 0, none⟩ : Addr).add j) = some u := by
  intro j u hj
  rw [Addr.add_lit, Nat.zero_add]
  exact h.cell j u hj
/-- The round's end where all ends: the results are written. -/
theorem round_ret {s : List UInt8} {w W W1 : World} {c0 c1 : Value} {f : Bool} {xs : List (List UInt8)} {a : Act} (h : PBox w W W1 c0 c1 f) (hp : parseP s = none) (B : Nat) :
    ownPostG B (KeepsB (bs3 w)) (PRnd w) (PEnd s w) xs W .ret a ((set2W W1 w.heap.size (.int .i64 0) (.slice none 0 0)).setCell ⟨w.heap.size + 1, 0, none⟩ (.bool false)) := by
  obtain ⟨hE, hr, bR, bK, -, -⟩ := h
  obtain ⟨h1, h2⟩ := set2_facts (x := .int .i64 0) (y := .slice none 0 0) hE bR (Nat.le_refl _)
  have k1 := set2_far (x := .int .i64 0) (y := .slice none 0 0) (b := w.heap.size) bK (by omega)
  have hr1 : Rnd (bs3 w) W (set2W W1 w.heap.size (.int .i64 0) (.slice none 0 0)) := (hr.trans (Rnd.set _ _ _ _ (not_bs3 (.inl (by omega))))).trans (Rnd.set _ _ _ _ (not_bs3 (.inl (by omega))))
  exact ⟨(hr1.trans (Rnd.set _ _ _ _ (not_bs3 (.inl (by omega))))).from B, rfl, h1.setCell (p := ⟨w.heap.size + 1, 0, none⟩) (by show w.heap.size ≤ w.heap.size + 1; omega) _, h2.kept (grown_set _ _ _ _) (by simp), k1.set 0 (by simp) _, hp⟩
/-- The round's end where it goes on. -/
theorem round_on {s : List UInt8} {w W W1 : World} {fl : Int} {a : Option Addr} {m c : Nat} {st : List Stp} {y : List UInt8} {l : List (List UInt8)} {xs : List (List UInt8)} {A : Act} (h : PBox w W W1 (.int .i64 fl) (.slice a m c) false) (hO : OwnSt 27 (w.heap.size + 7) W1 (.slice a m c) st) (hfl : isI64 fl) (hx : xs = y :: l) (hy : numI y = some fl) (hl : stepsP l = some st) (hz : w.heap.size + 7 ≤ W.heap.size) (B : Nat) :
    ownPostG B (KeepsB (bs3 w)) (PRnd w) (PEnd s w) xs W .normal A W1 := by
  obtain ⟨hE, hr, bR, bK, bP, bF⟩ := h
  subst hx
  exact ⟨hr.from B, hr.keeps, Nat.le_trans hz hr.1, hE, bR, bK, bF, fl, a, m, c, st, bP, hO, hfl, .inr ⟨y, l, rfl, hy, hl⟩⟩
/-- The return, with the mark of the rounds' deferred calls. -/
theorem parse_leave {s : List UInt8} {w W : World} {fl : Int} {sa : Option Addr} {m c : Nat} {ok : Bool} {D : Nat} (tmps : Array Value) (h2 : tmps[2]?.getD undef = .pointer (some ⟨w.heap.size, 0, none⟩)) (h3 : tmps[3]?.getD undef = .pointer (some ⟨w.heap.size + 1, 0, none⟩))
    (bR : BoxL W w.heap.size [.int .i64 fl, .slice sa m c]) (bK : BoxL W (w.heap.size + 1) [.bool ok]) (hD : w.heap.size + 7 ≤ D) (hK : W.heap[D]? = some (.deferred (some [])))
    (hP : ∀ W', W.grownBy W' (some D) → PathPost s w (.returned (.tuple #[.agg #[.int .i64 fl, .slice sa m c], .bool ok])) W') :
    bodyPostM Fence.wide 3 Tryz.prog Tryz.f9 (PathPost s w) .ret { tmps := tmps, defers := [{ target := .collected D, args := #[] }] } W := by
  refine ⟨by simp, .inl ⟨_, _, rfl, run_takeDeferred hK, ?_⟩⟩
  have hg := grownBy_putObj' W D (.deferred none)
  have e1 := bR.kept hg (fun e => by injection e with e; omega)
  have e2 := bK.kept hg (fun e => by injection e with e; omega)
  have hP := hP _ hg
  generalize W.putObj D (.deferred none) = W' at *
  have y0 := e1.cell 0 _ rfl
  have y1 := e1.cell 1 _ rfl
  have y2 := e2.cell 0 _ rfl
  exact ⟨_, by simp [results, Tryz.results9, go_sem, h2, h3, y0, y1, y2], hP⟩
/-- The seven boxes, ahead of the loop. -/
theorem parse_boxes (w : World) (s : List UInt8) (W : World) (hW : ((((((w.alloc (.cells #[.int .i64 0, .slice none 0 0] 24)).alloc (.cells #[.bool false] 4)).alloc (.cells #[.int .i64 0, .slice none 0 0] 24)).alloc (.cells #[.bool true] 4)).alloc (.cells #[.string (str s)] 9)).alloc (.cells #[.string (str [47])] 9)).alloc (.cells #[.int .i64 0] 3) = W) :
    W.heap.size = w.heap.size + 7 ∧ PRnd w [] W ∧ Boxed W (w.heap.size + 4) 9 (.string (str s)) ∧ Boxed W (w.heap.size + 5) 9 (.string (str [47])) ∧ Boxed W (w.heap.size + 6) 3 (.int .i64 0) := by
  obtain ⟨w1, h1⟩ : ∃ x, x = w.alloc (.cells #[.int .i64 0, .slice none 0 0] 24) := ⟨_, rfl⟩
  obtain ⟨w2, h2⟩ : ∃ x, x = w1.alloc (.cells #[.bool false] 4) := ⟨_, rfl⟩
  obtain ⟨w3, h3⟩ : ∃ x, x = w2.alloc (.cells #[.int .i64 0, .slice none 0 0] 24) := ⟨_, rfl⟩
  obtain ⟨w4, h4⟩ : ∃ x, x = w3.alloc (.cells #[.bool true] 4) := ⟨_, rfl⟩
  obtain ⟨w5, h5⟩ : ∃ x, x = w4.alloc (.cells #[.string (str s)] 9) := ⟨_, rfl⟩
  obtain ⟨w6, h6⟩ : ∃ x, x = w5.alloc (.cells #[.string (str [47])] 9) := ⟨_, rfl⟩
  rw [← h1, ← h2, ← h3, ← h4, ← h5, ← h6] at hW
  have z1 : w1.heap.size = w.heap.size + 1 := by rw [h1]; simp
  have z2 : w2.heap.size = w.heap.size + 2 := by rw [h2, World.size_alloc, z1]
  have z3 : w3.heap.size = w.heap.size + 3 := by rw [h3, World.size_alloc, z2]
  have z4 : w4.heap.size = w.heap.size + 4 := by rw [h4, World.size_alloc, z3]
  have z5 : w5.heap.size = w.heap.size + 5 := by rw [h5, World.size_alloc, z4]
  have z6 : w6.heap.size = w.heap.size + 6 := by rw [h6, World.size_alloc, z5]
  have z7 : W.heap.size = w.heap.size + 7 := by rw [← hW, World.size_alloc, z6]
  have e1 : Ext w w1 := by rw [h1]; exact (Ext.refl w).alloc _
  have e2 : Ext w1 w2 := by rw [h2]; exact (Ext.refl w1).alloc _
  have e3 : Ext w2 w3 := by rw [h3]; exact (Ext.refl w2).alloc _
  have e4 : Ext w3 w4 := by rw [h4]; exact (Ext.refl w3).alloc _
  have e7 : Ext w4 W := by rw [← hW, h6, h5]; exact (((Ext.refl w4).alloc _).alloc _).alloc _
  have b1 := BoxL.new w [.int .i64 0, .slice none 0 0] 24
  rw [← h1] at b1
  have b2 := BoxL.new w1 [.bool false] 4
  rw [← h2, z1] at b2
  have b3 := BoxL.new w2 [.int .i64 0, .slice none 0 0] 24
  rw [← h3, z2] at b3
  have b4 := BoxL.new w3 [.bool true] 4
  rw [← h4, z3] at b4
  refine ⟨z7, ⟨by omega, ((((e1.trans e2).trans e3).trans e4).trans e7), b1.ext (((e2.trans e3).trans e4).trans e7), b2.ext ((e3.trans e4).trans e7), b4.ext e7, 0, none, 0, 0, [], b3.ext (e4.trans e7), OwnSt.nil _ _ _, by unfold isI64; omega, .inl ⟨rfl, rfl, rfl⟩⟩, ?_, ?_, ?_⟩
  · have c := Boxed.new w4 9 (.string (str s))
    rw [← h5, z4] at c
    rw [← hW, h6]; exact (c.alloc _).alloc _
  · have c := Boxed.new w5 9 (.string (str [47]))
    rw [← h6, z5] at c
    rw [← hW]; exact c.alloc _
  · have c := Boxed.new w6 3 (.int .i64 0)
    rw [hW, z6] at c
    exact c
set_option maxRecDepth 100000 in
set_option maxHeartbeats 2000000 in
theorem idParse_any (s : List UInt8) (hs : s.length ≤ 1000000) (w : World) (hw : KW w) :
    Calls Tryz.prog 9 #[.string (str s)] w (PathPost s w) := by
  have hfn : ∀ f, Fence.wide.fn f := fun _ => trivial
  have hdp : Fence.wide.depth.isSome = false := rfl
  have HW := Lib.hid hw
  have hsz := str_size s
  clear hw
  obtain ⟨W7, hW7⟩ : ∃ x, ((((((w.alloc (.cells #[.int .i64 0, .slice none 0 0] 24)).alloc (.cells #[.bool false] 4)).alloc (.cells #[.int .i64 0, .slice none 0 0] 24)).alloc (.cells #[.bool true] 4)).alloc (.cells #[.string (str s)] 9)).alloc (.cells #[.string (str [47])] 9)).alloc (.cells #[.int .i64 0] 3) = x := ⟨_, rfl⟩
  obtain ⟨hz7, hP, b4, b5, b6⟩ := parse_boxes w s W7 hW7
  have HW7 := Lib.hid hW7
  clear hW7
  refine (callsIn_wide (n := 3)).1 ?_
  refine callsIn_of_wp_marks Tryz.func9 rfl trivial ?_ rfl
  simp only [Tryz.ntmps9, List.size_toArray, List.length_cons, List.length_nil, Nat.reduceAdd, Nat.reduceSub, Array.replicate_succ, Array.replicate_zero, List.push_toArray, List.append_toArray, List.nil_append, List.cons_append]
  gi_wp2_with (gi_at_call 48; refine (callsIn_wide.2 (splitSeq_any s _)).mono ?_; rintro e w' ⟨rfl, rfl⟩)
  rw [HW7.out]
  simp only [Nat.add_assoc, Nat.reduceAdd]
  refine wpIn_rangeFunc_ab rfl (by decide) (gf := 86) (lb := #[.pointer (some ⟨w.heap.size + 5, 0, none⟩), .pointer (some ⟨w.heap.size + 4, 0, none⟩), .pointer (some ⟨w.heap.size + 6, 0, none⟩)]) rfl trivial (enters_of Tryz.func86 (by kernel_rfl) rfl)
    (splitSeq1_stops _ _ _ _ s hs ⟨by omega, by omega⟩ W7 b4 b5 b6) (Below.refl _ _) (fun _ => rfl)
    (fun X Y ⟨u, e⟩ k o hk ho hc => ?hAb) (fun h k => KeepsB.trans h k) (fun X l o o' hl ho hc b hb o2 h2 => ?hKb)
    (PRnd w) (PEnd s w) (by rw [hz7]; exact PRnd.own w) (fun c => by rw [hz7]; exact PEnd.own s w c) (fun pre X Y h ⟨u, e⟩ => by rw [e]; exact h.set u) (fun c pre X Y h ⟨u, e⟩ => by rw [e]; exact h.set u) hP
    (fun x => { tmps := #[.string (str s), undef, .pointer (some ⟨w.heap.size, 0, none⟩), .pointer (some ⟨w.heap.size + 1, 0, none⟩), .pointer (some ⟨w.heap.size + 2, 0, none⟩), .pointer (some ⟨w.heap.size + 3, 0, none⟩), .string (str x), undef, undef, .string (str s),
      .func (.func 86) #[] #[.pointer (some ⟨w.heap.size + 5, 0, none⟩), .pointer (some ⟨w.heap.size + 4, 0, none⟩), .pointer (some ⟨w.heap.size + 6, 0, none⟩)], .string (str x), undef, undef, undef, undef, undef, undef, undef, undef, undef, undef, undef, undef, undef, undef, undef, undef, undef, undef, undef, undef, undef, undef, undef, undef, undef, undef, undef], defers := [] }) ?assign ?body ?done ?stop
  case hAb => rw [e, Below.heap_setCell _ _ _ _ (by show k ≠ w.heap.size + 4; omega)]; exact ho
  case hKb =>
    have hlt : b < w.heap.size + 7 := by
      unfold bs3 at hb
      simp only [List.mem_cons, List.not_mem_nil, or_false] at hb
      omega
    exact (World.putObj_heap_other (by omega)).trans h2
  case assign =>
    intro l x W K hK
    gi_wp2
    exact hK
  case body =>
    rintro l pre x W ⟨hBW, hE, bR, bK, bF, fl, a, m, c, st, bP, hO, hfl, hcase⟩ hnx
    rw [hz7]
    obtain ⟨i0, hi, hz0, hz1, hz2⟩ := info_parts info_step
    have hln := next_len hnx
    have HN := Lib.hid hnx
    clear b4 b5 b6 hP hnx
    have H0 := Lib.hid (show PBox w W W (.int .i64 fl) (.slice a m c) pre.isEmpty from ⟨hE, Rnd.refl _ _, bR, bK, bP, bF⟩)
    have HO := Lib.hid hO
    have HBW := Lib.hid hBW
    clear hE bR bK bF bP hO hBW
    rcases hcase with ⟨rfl, rfl, rfl⟩ | ⟨y, l0, rfl, hy, hl0⟩
    · have t0 := H0.out.2.2.2.2.2.cell 0 _ rfl
      have t1 := H0.out.2.2.2.2.2.free 0
      have H1 := Lib.hid (H0.out.first false)
      have HO1 := Lib.hid (HO.out.kept (grown_set W (w.heap.size + 3) 0 (.bool false)) (fun b e => by injection e with e; omega))
      clear H0 HO
      gi_wp2_with fail
      generalize W.setCell ⟨w.heap.size + 3, 0, none⟩ (.bool false) = W1 at *
      clear t0 t1
      refine (CallsIn.inRound l (callsIn_wide.2 (idNumber_any x (by omega) W1 (HW.out.ext H1.out.1)))).mono ?_
      rintro e w2 ⟨rfl, hE2⟩
      have H2 := Lib.hid (H1.out.ext hE2)
      have HO2 := Lib.hid (HO1.out.ext hE2)
      have p1 := H2.out.2.2.2.2.1.cell 0 _ rfl
      have p2 := H2.out.2.2.2.2.1.free 0
      have H3 := Lib.hid (H2.out.num (.int .i64 (numV x)))
      have HO3 := Lib.hid (HO2.out.kept (grown_set w2 (w.heap.size + 2) 0 (.int .i64 (numV x))) (fun b e => by injection e with e; omega))
      have q0 := H3.out.2.2.2.2.1.cell 0 _ rfl
      have HI := Lib.hid (numV_isI64 x)
      have HV := Lib.hid (@numV_eq x)
      have HVS : Hid (numV x ≠ -1 → numI x = some (numV x)) := Lib.hid (fun h => by
        cases e : numI x with
        | none => exact absurd (numV_none e) h
        | some n => rw [numV_some e])
      clear hE2 H1 HO1 H2 HO2
      have r0 := H3.out.2.2.1.cell 0 _ rfl
      have r1 := H3.out.2.2.1.cell 1 _ rfl
      have r2 := H3.out.2.2.1.free 0
      have r3 := H3.out.2.2.1.free 1
      have k0 := H3.out.2.2.2.1.cell 0 _ rfl
      have k1 := H3.out.2.2.2.1.free 0
      generalize numV x = NV at *
      by_cases hn : NV = -1
      · have HZ := Lib.hid (parse_bad_num HN.out (HV.out.1 hn))
        have ht : (NV == -1) = true := by simp [hn]
        clear hn HV HVS HI hfl
        gi_wp2_with fail
        exact round_ret H3.out HZ.out _
      · have HZ := Lib.hid (HVS.out hn)
        have ht : (NV == -1) = false := by simp [hn]
        clear hn HV HVS
        gi_wp2_with fail
        exact round_on H3.out HO3.out HI.out rfl HZ.out rfl HBW.out _
    · have t0 := H0.out.2.2.2.2.2.cell 0 _ rfl
      simp only [List.isEmpty_cons] at t0 H0
      have HL := Lib.hid (stepsP_len hl0)
      have hsl : st.length ≤ 1000000 := by have := HL.out; have := hln.2; simp at this; omega
      have HY := Lib.hid hy
      have HL0 := Lib.hid hl0
      have HF := Lib.hid hfl
      clear hy hl0 hfl
      gi_wp2_with fail
      refine (CallsIn.inRound l (callsIn_wide.2 (idStep_any x (by omega) W (HW.out.ext H0.out.1)))).mono ?_
      rintro e w2 ⟨xx, hwf, rfl, hor, hE2⟩
      have H2 := Lib.hid (H0.out.ext hE2)
      have HO2 := Lib.hid (HO.out.ext hE2)
      have HWF := Lib.hid hwf
      have HOR := Lib.hid hor
      have hE3 := (Ext.refl w2).alloc (.cells #[.string (str xx.name), .int .i64 xx.place] 27)
      have H3 := Lib.hid (H2.out.ext hE3)
      have HO3 := Lib.hid (HO2.out.ext hE3)
      have HXB := Lib.hid (BoxL.new w2 [.string (str xx.name), .int .i64 xx.place] 27)
      clear hE2 hwf hor H2 HO2 H0 HO hE3 t0

      have HXB := Lib.hid (show BoxL (w2.alloc (.cells #[.string (str xx.name), .int .i64 xx.place] 27)) w2.heap.size [.string (str xx.name), .int .i64 xx.place] from HXB.out)
      cases hsx : stepP x with
      | none =>
        have HZ := Lib.hid (parse_bad_step HN.out hsx)
        clear hsx
        have r0 := H3.out.2.2.1.cell 0 _ rfl
        have r1 := H3.out.2.2.1.cell 1 _ rfl
        have r2 := H3.out.2.2.1.free 0
        have r3 := H3.out.2.2.1.free 1
        have k0 := H3.out.2.2.2.1.cell 0 _ rfl
        have k1 := H3.out.2.2.2.1.free 0
        gi_wp2_with fail
        exact round_ret H3.out HZ.out _
      | some sx =>
        have hxs : xx = sx := by
          rcases HOR.out with h | h
          · rw [hsx] at h; cases h
          · rw [hsx] at h; injection h with h; exact h.symm
        subst hxs
        have HSX := Lib.hid (show stepsP (l0 ++ [x]) = some (st ++ [xx]) by rw [stepsP_snoc, HL0.out, Option.bind_some, hsx]; rfl)
        clear hsx HOR
        have p1 := H3.out.2.2.2.2.1.cell 1 _ rfl
        have p2 := H3.out.2.2.2.2.1.free 1
        have x0 := HXB.out.cell 0 _ rfl
        have x1 := HXB.out.cell 1 _ rfl
        have hE4 := (Ext.refl (w2.alloc (.cells #[.string (str xx.name), .int .i64 xx.place] 27))).alloc (.cells #[.string (str xx.name), .int .i64 xx.place] 27)
        have H4 := Lib.hid (H3.out.ext hE4)
        have HO4 := Lib.hid (HO3.out.ext hE4)
        have hNB := BoxL.new (w2.alloc (.cells #[.string (str xx.name), .int .i64 xx.place] 27)) [.string (str xx.name), .int .i64 xx.place] 27
        rw [show (w2.alloc (.cells #[.string (str xx.name), .int .i64 xx.place] 27)).heap.size = w2.heap.size + 1 by simp] at hNB
        have HNC := Lib.hid (box_add hNB)
        have hzl := H4.out.1.size
        have HZ7 : Hid (w.heap.size + 7 ≤ ((w2.alloc (.cells #[.string (str xx.name), .int .i64 xx.place] 27)).alloc (.cells #[.string (str xx.name), .int .i64 xx.place] 27)).heap.size) := Lib.hid (by
          have := H4.out.2.1.1
          have := HBW.out
          omega)
        clear H3 HO3 hE4 hNB hzl
        gi_wp2_with (gi_at_builtin; refine wpListIn_append_own _ rfl _ _ 22 rfl (w.heap.size + 7) 27 i0 (.agg #[.string { data := #[] }, .int .i64 0]) 2 24 Tryz.underlying22 hi hz0 hz1 hz2 rfl (by decide) _ _ _ rfl HO4.out.1 ⟨w2.heap.size + 1, 0, none⟩ 1 1 (stpCells xx) rfl rfl HNC.out (by simp [stpCells, Value.oneCell']) (by unfold maxLen; omega) (by omega) HZ7.out ?_; intro v' w5 hown' hgrow _; obtain ⟨g', cap', rfl⟩ := ownsRow_succ hown'; have H5 := Lib.hid (H4.out.grown hgrow HO4.out.cellsBlock); have HO5 := Lib.hid (OwnSt.snoc hown' HO4.out.2 HWF.out); have q1 := H5.out.2.2.2.2.1.cell 1 _ rfl; have q2 := H5.out.2.2.2.2.1.free 1; clear hown' hgrow H4 HO4)
        have H6 := Lib.hid (H5.out.steps (.slice (some ⟨g', 0, none⟩) (st.length + 1) cap'))
        have HO6 := Lib.hid (HO5.out.kept (grown_set w5 (w.heap.size + 2) 1 (.slice (some ⟨g', 0, none⟩) (st.length + 1) cap')) (fun b e => by injection e with e; omega))
        exact round_on H6.out HO6.out HF.out rfl HY.out HSX.out HBW.out _
  case done =>
    rintro D xs W hD rfl ⟨hBW, hE, bR, bK, bF, fl, a, m, c, st, bP, hO, hfl, hcase⟩ hK
    rw [hz7] at hD
    rcases hcase with ⟨h, -, -⟩ | ⟨y, l0, hsp, hy, hl0⟩
    · exact absurd h (split47_ne s)
    have HG := Lib.hid (parse_good hsp hy hl0)
    have H0 := Lib.hid (show PBox w W W (.int .i64 fl) (.slice a m c) (split47 s).isEmpty from ⟨hE, Rnd.refl _ _, bR, bK, bP, bF⟩)
    have HO := Lib.hid hO
    have HF := Lib.hid hfl
    have HK := Lib.hid hK
    clear hE bR bK bF bP hO hBW b4 b5 b6 hP hsp hy hl0 hfl hK
    have r0 := H0.out.2.2.1.cell 0 _ rfl
    have r1 := H0.out.2.2.1.cell 1 _ rfl
    have r2 := H0.out.2.2.1.free 0
    have r3 := H0.out.2.2.1.free 1
    have k0 := H0.out.2.2.2.1.cell 0 _ rfl
    have k1 := H0.out.2.2.2.1.free 0
    have p0 := H0.out.2.2.2.2.1.cell 0 _ rfl
    have p1 := H0.out.2.2.2.2.1.cell 1 _ rfl
    by_cases hl : s.length ≤ 400
    · have hl' : decide ((400 : Int) < (s.length : Int)) = false := by simp; omega
      have HG := Lib.hid (show parseP s = some ⟨fl, st⟩ by rw [HG.out, if_pos hl])
      clear hl
      gi_wp2
      have hs2 := set2_facts (x := .int .i64 fl) (y := .slice a m c) H0.out.1 H0.out.2.2.1 (Nat.le_refl _)
      have hk2 := set2_far (x := .int .i64 fl) (y := .slice a m c) (b := w.heap.size) H0.out.2.2.2.1 (by omega)
      have hr2 : Rnd (bs3 w) W (set2W W w.heap.size (.int .i64 fl) (.slice a m c)) := (Rnd.set _ _ _ _ (not_bs3 (.inl (by omega)))).trans (Rnd.set _ _ _ _ (not_bs3 (.inl (by omega))))
      have hO2 := (HO.out.kept (grown_set W w.heap.size 0 (.int .i64 fl)) (fun b e => by injection e with e; omega)).kept (grown_set _ w.heap.size 1 (.slice a m c)) (fun b e => by injection e with e; omega)
      change bodyPostM _ _ _ _ _ _ _ ((set2W W w.heap.size (.int .i64 fl) (.slice a m c)).setCell ⟨w.heap.size + 1, 0, none⟩ (.bool true))
      refine parse_leave (fl := fl) (sa := a) (m := m) (c := c) (ok := true) _ rfl rfl (hs2.2.kept (grown_set _ _ _ _) (by simp)) (hk2.set 0 (by simp) (.bool true)) hD ((hr2.trans (Rnd.set _ _ _ _ (not_bs3 (.inl (by omega))))).2 _ _ HK.out (.inr rfl)) (fun W' hg => ?_)
      have hO3 := hO2.kept (grown_set (set2W W w.heap.size (.int .i64 fl) (.slice a m c)) (w.heap.size + 1) 0 (.bool true)) (fun b e => by injection e with e; omega)
      have hKF := (hr2.trans (Rnd.set _ (w.heap.size + 1) 0 (.bool true) (not_bs3 (.inl (by omega))))).2 _ _ HK.out (.inr rfl)
      have hO4 := hO3.far hg (fun b e => by injection e with e; subst e; exact ⟨_, hKF, rfl⟩)
      refine ⟨.agg #[.int .i64 fl, .slice a m c], by rw [HG.out]; rfl, (hs2.1.setCell (p := ⟨w.heap.size + 1, 0, none⟩) (by show w.heap.size ≤ w.heap.size + 1; omega) _).grown hg (fun k e => by injection e with e; omega), (fun h => by rw [HG.out] at h; cases h), fun p hp => ?_⟩
      rw [HG.out] at hp
      injection hp with hp
      subst hp
      exact ⟨a, m, c, rfl, hO4.mono (by omega), HF.out⟩
    · have hl' : decide ((400 : Int) < (s.length : Int)) = true := by simp; omega
      have HG := Lib.hid (show parseP s = none by rw [HG.out, if_neg hl])
      clear hl
      gi_wp2
      have hs2 := set2_facts (x := .int .i64 0) (y := .slice none 0 0) H0.out.1 H0.out.2.2.1 (Nat.le_refl _)
      have hk2 := set2_far (x := .int .i64 0) (y := .slice none 0 0) (b := w.heap.size) H0.out.2.2.2.1 (by omega)
      have hr2 : Rnd (bs3 w) W (set2W W w.heap.size (.int .i64 0) (.slice none 0 0)) := (Rnd.set _ _ _ _ (not_bs3 (.inl (by omega)))).trans (Rnd.set _ _ _ _ (not_bs3 (.inl (by omega))))
      change bodyPostM _ _ _ _ _ _ _ ((set2W W w.heap.size (.int .i64 0) (.slice none 0 0)).setCell ⟨w.heap.size + 1, 0, none⟩ (.bool false))
      refine parse_leave (fl := 0) (sa := none) (m := 0) (c := 0) (ok := false) _ rfl rfl (hs2.2.kept (grown_set _ _ _ _) (by simp)) (hk2.set 0 (by simp) (.bool false)) hD ((hr2.trans (Rnd.set _ _ _ _ (not_bs3 (.inl (by omega))))).2 _ _ HK.out (.inr rfl)) (fun W' hg => ?_)
      exact ⟨.agg #[.int .i64 0, .slice none 0 0], by rw [HG.out]; rfl, (hs2.1.setCell (p := ⟨w.heap.size + 1, 0, none⟩) (by show w.heap.size ≤ w.heap.size + 1; omega) _).grown hg (fun k e => by injection e with e; omega), fun _ => rfl, fun p hp => by rw [HG.out] at hp; cases hp⟩
  case stop =>
    rintro D cd pre W hD - ⟨rfl, hE, bR, bK, hp⟩ hK
    rw [hz7] at hD
    have HG := Lib.hid hp
    clear hp b4 b5 b6 hP
    gi_wp2
    refine parse_leave (fl := 0) (sa := none) (m := 0) (c := 0) (ok := false) _ rfl rfl bR bK hD hK (fun W' hg => ?_)
    exact ⟨.agg #[.int .i64 0, .slice none 0 0], by rw [HG.out]; rfl, hE.grown hg (fun k e => by injection e with e; omega), fun _ => rfl, fun p hp => by rw [HG.out] at hp; cases hp⟩
end Go.Proofs.YtpcgpcjleedilaaGreatDoor

open Go.RowKit Go.Shelf
namespace Go.Proofs.YtpcgpcjleedilaaGreatDoor
open Go Go.Proofs Fm

theorem str_cat (a b : List UInt8) : str a ++ str b = str (a ++ b) := by
  have : (str a ++ str b).data = (str (a ++ b)).data := by simp [str]
  exact congrArg ByteArray.mk this
theorem _root_.Fm.BoxL.same {w w' : World} {b : Nat} {vs : List Value} (h : BoxL w b vs) (e : w'.heap[b]? = w.heap[b]?) : BoxL w' b vs := by
  refine ⟨?_, fun j u hu => (World.cell?_of_block (a := ⟨b, j, none⟩) e).trans (h.cell j u hu), fun j => (World.frozen?_of_block (a := ⟨b, j, none⟩) e).trans (h.free j)⟩
  have := h.lt
  rw [Array.getElem?_eq_getElem this] at e
  exact (Array.getElem?_eq_some_iff.1 e).1
theorem itoa_len {n : Int} (h : 0 ≤ n ∧ n ≤ 999999) : (Lib.itoa n).length ≤ 6 := by
  rw [itoa_decD h.1]
  have key : ∀ (k u : Nat), u < 10 ^ (k + 1) → (Lib.decDigits u).length ≤ k + 1 := by
    intro k
    induction k with
    | zero => intro u h; rw [Lib.decDigits, dif_pos (by simpa using h)]; simp
    | succ k ih =>
      intro u h
      rw [Lib.decDigits]
      split
      · simp
      · have := ih (u / 10) (by rw [Nat.pow_succ] at h; omega)
        rw [List.length_append, List.length_singleton]; omega
  exact key 5 n.toNat (by omega)
theorem stpS_len {x : Stp} (h : stpB x = true) : (stpS x).length ≤ 29 := by
  obtain ⟨h1, h2⟩ := stpB_iff.1 h
  have := (nameB_iff.1 h1).2.2
  unfold stpS placeS
  by_cases hp : x.place = -1
  · rw [if_pos hp]; simp; omega
  · rw [if_neg hp]
    have := itoa_len (n := x.place) (by omega)
    simp; omega
theorem stepsS_len : ∀ (l : List Stp), (∀ x, x ∈ l → stpB x = true) → (stepsS l).length ≤ l.length * 29
  | [], _ => by simp [stepsS]
  | x :: l, h => by
    have h1 := stpS_len (h x (List.mem_cons_self ..))
    have h2 := stepsS_len l (fun y hy => h y (List.mem_cons_of_mem _ hy))
    rw [stepsS_cons, List.length_append, List.length_cons]; omega
theorem pthS_len {p : Pth} (h : pthB p = true) : (pthS p).length ≤ 6 + p.steps.length * 29 := by
  obtain ⟨h1, h2⟩ := pthB_iff.1 h
  have := itoa_len h1
  have := stepsS_len p.steps h2
  unfold pthS
  rw [List.length_append]; omega
set_option maxRecDepth 100000 in
set_option maxHeartbeats 2000000 in
theorem idShow_right (p : Pth) (hp : pthB p = true) (hl : p.steps.length ≤ 10000) (w : World) (hw : KW w) (v : Value) (h : PthV w p v) :
    Calls Tryz.prog 15 #[v] w fun e w' => e = .returned (.string (str (pthS p))) ∧ Ext w w' := by
  obtain ⟨a, m, c, rfl, hr, hi⟩ := h
  obtain ⟨a', c', e, hc1, hc2⟩ := hr.slice
  injection e with e1 e2 e3
  subst e1 e2 e3
  have HV := Lib.hid (show PthV w p (.agg #[.int .i64 p.flow, .slice a p.steps.length c]) from ⟨a, p.steps.length, c, rfl, hr, hi⟩)
  have HF := Lib.hid (pthB_iff.1 hp)
  have HR := Lib.hid hr
  have HW := Lib.hid hw
  have HP := Lib.hid hp
  have HI := Lib.hid hi
  have hb := BoxL.new w [.int .i64 p.flow, .slice a p.steps.length c] 24
  have HE0 := Lib.hid ((Ext.refl w).alloc (.cells #[.int .i64 p.flow, .slice a p.steps.length c] 24))
  clear hr hw hp hi
  go_enter Tryz.func15, Tryz.ntmps15
  go_upto_region 1 with (fail)
  generalize w.alloc (.cells #[.int .i64 p.flow, .slice a p.steps.length c] 24) = W1 at *
  have p0 := hb.cell 0 _ rfl
  have p1 := hb.cell 1 _ rfl
  have hz1 := hb.lt
  have HB := Lib.hid hb
  clear hb
  go_wp2_with fail
  refine (idRight_any p W1 _ (HV.out.ext HE0.out)).mono ?_
  rw [HP.out]
  rintro e w2 ⟨rfl, hE2⟩
  have hB2 := HB.out.ext hE2
  have HE2 := Lib.hid hE2
  have hE3 := hE2.alloc (.cells #[.pointer none, .slice none 0 0] 90)
  have hfb := Lib.fresh_isBuilder 90 5 w2
  have hB3 := hB2.ext ((Ext.refl w2).alloc (.cells #[.pointer none, .slice none 0 0] 90))
  have hz3 : W1.heap.size ≤ w2.heap.size := hE2.size
  have HBD := Lib.hid (show Bld w2.heap.size w2.heap.size [] (w2.alloc (.cells #[.pointer none, .slice none 0 0] 90)) from hfb)
  clear p0 p1 hE2 hB2 hfb
  go_upto_region 4 with (fail)
  generalize hBB : w2.heap.size = B at *
  have HE3 := Lib.hid hE3
  have HB3 := Lib.hid hB3
  generalize w2.alloc (.cells #[.pointer none, .slice none 0 0] 90) = W3 at *
  have p0 := hB3.cell 0 _ rfl
  have p1 := hB3.cell 1 _ rfl
  have HBB := Lib.hid hBB
  clear hE3 hB3 hBB
  go_wp2_with fail
  refine (itoa_any HI.out (HW.out.ext (HE0.out.trans HE3.out))).mono ?_
  rintro e w4 ⟨rfl, hE4⟩
  have hlf := itoa_len HF.out.1
  have HBD4 := Lib.hid (HBD.out.ext hE4)
  have HE4 := Lib.hid (HE3.out.trans hE4)
  have hz4 : B ≤ w4.heap.size := by have := HBD4.out.lt.2; omega
  clear hE4 p0 p1 HBD
  go_wp2_with fail
  refine (wstring_any HBD4.out (Lib.itoa p.flow) (by simp) (by omega) hz4).mono ?_
  rintro e w5 ⟨rfl, hu, hB5, hK5⟩
  rw [List.nil_append] at hu
  have HU := Lib.hid hu
  have HE5 := Lib.hid (HE4.out.then (hB5.mono hz3))
  have p1 := (HB.out.ext HE5.out).cell 1 _ rfl
  clear hu hB5 hK5 HBD4 HE4 hz4
  go_wp2_with fail
  go_loopw [16, 5] (fun i _ wr => ∃ k : Nat, k ≤ p.steps.length ∧ i = .int .i64 k ∧ Hid (BldU B B (Lib.itoa p.flow ++ stepsS (p.steps.take k)) wr) ∧ Hid (Ext W1 wr)) (fun i _ _ => p.steps.length - (intOf i).toNat)
  case atStart => exact ⟨0, by omega, rfl, Lib.hid (by simpa [stepsS_nil] using HU.out), HE5⟩
  case round =>
    obtain ⟨k, hk, rfl, HUk, HEk⟩ := hrel
    clear p1 HU HE5
    by_cases hlt : k < p.steps.length
    · obtain ⟨b, off, rfl, hb, c0, c1, hs⟩ := stp_at HR.out (HE0.out.trans HEk.out) k hlt
      have hx := HF.out.2 _ (List.getElem_mem hlt)
      obtain ⟨hx1, hx2⟩ := stpB_iff.1 hx
      have hx3 := (nameB_iff.1 hx1).2.2
      have HT := Lib.hid (show stepsS (p.steps.take (k + 1)) = stepsS (p.steps.take k) ++ (47 :: (p.steps[k].name ++ placeS p.steps[k].place)) by
        rw [List.take_succ_eq_append_getElem hlt, stepsS_snoc]; rfl)
      have hln : (stepsS (p.steps.take k)).length ≤ 290000 := by
        have := stepsS_len (p.steps.take k) (fun x hx => HF.out.2 x (List.mem_of_mem_take hx))
        have := List.length_take_le k p.steps
        omega
      have HX2 := Lib.hid hx2
      generalize p.steps[k] = x at *
      obtain ⟨nm, pl⟩ := x
      simp only at c0 c1 hx3 HT HX2
      have hEa := (Ext.refl wr).alloc (.cells #[.string (str nm), .int .i64 pl] 27)
      have hxb := BoxL.new wr [.string (str nm), .int .i64 pl] 27
      have hUa := HUk.out.ext hEa
      have HEa := Lib.hid (HEk.out.trans hEa)
      have hlf := itoa_len HF.out.1
      have HAP := Lib.hid (HUk.out.apart (.cells #[.string (str nm), .int .i64 pl] 27))
      clear HUk HEk hx hx1 hx2 hs hEa
      have hcat : (⟨#[47]⟩ : ByteArray) ++ str nm = str (47 :: nm) := str_cat [47] nm
      have hs1 : (⟨#[47]⟩ : ByteArray).size = 1 := rfl
      have hs2 := str_size nm
      go_upto_region 8 with (fail)
      generalize hXB : wr.heap.size = XB at *
      generalize wr.alloc (.cells #[.string (str nm), .int .i64 pl] 27) = Wa at *
      clear c0 c1 hXB
      have x0 := hxb.cell 0 _ rfl
      have x1 := hxb.cell 1 _ rfl
      have HXB := Lib.hid hxb
      have HUa := Lib.hid hUa
      have hza : B ≤ Wa.heap.size := by have := hUa.lt; omega
      clear hxb hUa
      go_wp2_with fail
      refine (wstring_any HUa.out.bld (47 :: nm) (by simp; omega) (by simp; omega) hza).mono ?_
      rintro e w6 ⟨rfl, hu, hB6, hK6⟩
      have HU6 := Lib.hid hu
      have HE6 := Lib.hid (HEa.out.then (hB6.mono hz3))
      have HX6 := Lib.hid (HXB.out.same (hK6 XB HAP.out).1)
      have x0 := HX6.out.cell 0 _ rfl
      have x1 := HX6.out.cell 1 _ rfl
      clear hu hB6 hK6 HUa HXB HEa hza HAP
      by_cases hp : pl = -1
      · have HT := Lib.hid (show stepsS (p.steps.take (k + 1)) = stepsS (p.steps.take k) ++ (47 :: nm) by rw [HT.out, hp]; simp [placeS])
        have ht : (pl != -1) = false := by simp [hp]
        clear hp HX2
        go_wp2_with fail
        go_roundw
        case rel => exact ⟨k + 1, by omega, by go_num, Lib.hid (by have := HU6.out; rw [HT.out, ← List.append_assoc]; exact this), HE6⟩
        case measure => simp [intOf]; omega
      · have HT := Lib.hid (show stepsS (p.steps.take (k + 1)) = (stepsS (p.steps.take k) ++ (47 :: nm)) ++ (91 :: (Lib.itoa pl ++ [93])) by rw [HT.out]; simp [placeS, hp])
        have ht : (pl != -1) = true := by simp [hp]
        have hm : 0 ≤ pl ∧ pl ≤ 999999 := by
          rcases HX2.out with h | h
          · exact absurd h hp
          · exact h
        have hpl := itoa_len hm
        have HPL : Hid (isI64 pl) := Lib.hid (by unfold isI64; omega)
        clear hp HX2
        go_wp2_with fail
        refine (itoa_any HPL.out (HW.out.ext (HE0.out.trans HE6.out))).mono ?_
        rintro e w7 ⟨rfl, hE7⟩
        have HU7 := Lib.hid (HU6.out.ext hE7)
        have HE7 := Lib.hid (HE6.out.trans hE7)
        have hz7 : B ≤ w7.heap.size := by have := HU7.out.lt; omega
        have k1 : (⟨#[91]⟩ : ByteArray) ++ str (Lib.itoa pl) = str (91 :: Lib.itoa pl) := str_cat [91] _
        have k2 : str (91 :: Lib.itoa pl) ++ (⟨#[93]⟩ : ByteArray) = str (91 :: (Lib.itoa pl ++ [93])) := str_cat _ [93]
        have k3 : (⟨#[91]⟩ : ByteArray).size = 1 := rfl
        have k4 : (⟨#[93]⟩ : ByteArray).size = 1 := rfl
        have k5 := str_size (Lib.itoa pl)
        have k6 : (str (91 :: Lib.itoa pl)).size = (Lib.itoa pl).length + 1 := by rw [str_size]; simp
        clear hE7 HU6 HE6 x0 x1
        go_wp2_with fail
        refine (wstring_any HU7.out.bld (91 :: (Lib.itoa pl ++ [93])) (by simp; omega) (by simp; omega) hz7).mono ?_
        rintro e w8 ⟨rfl, hu, hB8, hK8⟩
        have HU8 := Lib.hid hu
        have HE8 := Lib.hid (HE7.out.then (hB8.mono hz3))
        clear hu hB8 hK8 HU7 HE7 k1 k2 k3 k4 k5 k6
        go_wp2_with fail
        go_roundw
        case rel => exact ⟨k + 1, by omega, by go_num, Lib.hid (by have := HU8.out; rw [HT.out, ← List.append_assoc, ← List.append_assoc]; simpa using this), HE8⟩
        case measure => simp [intOf]; omega
    · obtain rfl : k = p.steps.length := by omega
      have HX := Lib.hid (show BldU B B (pthS p) wr by have := HUk.out; rw [List.take_length] at this; exact this)
      clear HUk
      go_wp2_with fail
      refine (bstring_any HX.out.bld (by have := HX.out.lt; omega)).mono ?_
      rintro e w6 ⟨rfl, hB6⟩
      have HE6 := Lib.hid (HE0.out.trans (HEk.out.then (hB6.mono hz3)))
      clear hB6
      go_wp2
      go_ret
      exact ⟨rfl, HE6.out⟩
set_option maxHeartbeats 1000000 in
theorem idShow_any (p : Pth) (hl : p.steps.length ≤ 10000) (w : World) (hw : KW w) (v : Value) (h : PthV w p v) :
    Calls Tryz.prog 15 #[v] w fun e w' => e = .returned (.string (str (showP p))) ∧ Ext w w' := by
  cases hp : pthB p with
  | true =>
    rw [showP_right hp]
    exact idShow_right p hp hl w hw v h
  | false =>
    have HX := Lib.hid (show showP p = [] from showP_wrong hp)
    have HP := Lib.hid hp
    obtain ⟨a, m, c, rfl, hr, hi⟩ := h
    have HV := Lib.hid (show PthV w p (.agg #[.int .i64 p.flow, .slice a m c]) from ⟨a, m, c, rfl, hr, hi⟩)
    have hb := BoxL.new w [.int .i64 p.flow, .slice a m c] 24
    have HE0 := Lib.hid ((Ext.refl w).alloc (.cells #[.int .i64 p.flow, .slice a m c] 24))
    clear hp hr hi hw
    go_enter Tryz.func15, Tryz.ntmps15
    go_upto_region 1 with (fail)
    generalize w.alloc (.cells #[.int .i64 p.flow, .slice a m c] 24) = W1 at *
    have p0 := hb.cell 0 _ rfl
    have p1 := hb.cell 1 _ rfl
    clear hb
    go_wp2_with fail
    refine (idRight_any p W1 _ (HV.out.ext HE0.out)).mono ?_
    rw [HP.out]
    rintro e w2 ⟨rfl, hE2⟩
    have HE2 := Lib.hid (HE0.out.trans hE2)
    clear hE2
    go_wp2
    go_ret
    exact ⟨by rw [HX.out]; rfl, HE2.out⟩
theorem showP_len {p : Pth} (hl : p.steps.length ≤ 10000) : (showP p).length ≤ 1000000 := by
  cases hp : pthB p with
  | true =>
    have := pthS_len hp
    rw [showP_right hp]; omega
  | false => rw [showP_wrong hp]; simp
set_option maxHeartbeats 1000000 in
theorem idId_any (p : Pth) (hl : p.steps.length ≤ 10000) (w : World) (hw : KW w) (v : Value) (h : PthV w p v) :
    Calls Tryz.prog 62 #[v] w fun e w' => e = .returned (.string (str (idP p))) ∧ Ext w w' := by
  have HX := Lib.hid (show idP p = if (showP p).length ≤ 400 then showP p else [] from rfl)
  have hsz := str_size (showP p)
  have hln := showP_len hl
  have HW := Lib.hid hw
  obtain ⟨a, m, c, rfl, hr, hi⟩ := h
  have HV := Lib.hid (show PthV w p (.agg #[.int .i64 p.flow, .slice a m c]) from ⟨a, m, c, rfl, hr, hi⟩)
  have hb := BoxL.new w [.int .i64 p.flow, .slice a m c] 24
  have HE0 := Lib.hid ((Ext.refl w).alloc (.cells #[.int .i64 p.flow, .slice a m c] 24))
  clear hr hi hw
  go_enter Tryz.func62, Tryz.ntmps62
  go_upto_region 1 with (fail)
  generalize w.alloc (.cells #[.int .i64 p.flow, .slice a m c] 24) = W1 at *
  have p0 := hb.cell 0 _ rfl
  have p1 := hb.cell 1 _ rfl
  clear hb
  go_wp2_with fail
  refine (idShow_any p hl W1 (HW.out.ext HE0.out) _ (HV.out.ext HE0.out)).mono ?_
  rintro e w2 ⟨rfl, hE2⟩
  have HE2 := Lib.hid (HE0.out.trans hE2)
  clear hE2
  by_cases hc : (showP p).length ≤ 400
  · have hd : decide ((400 : Int) < ((showP p).length : Int)) = false := by simp; omega
    have HY := Lib.hid (show idP p = showP p by rw [HX.out, if_pos hc])
    clear hc
    go_wp2
    go_ret
    exact ⟨by rw [HY.out]; rfl, HE2.out⟩
  · have hd : decide ((400 : Int) < ((showP p).length : Int)) = true := by simp; omega
    have HY := Lib.hid (show idP p = [] by rw [HX.out, if_neg hc])
    clear hc
    go_wp2
    go_ret
    exact ⟨by rw [HY.out]; rfl, HE2.out⟩
end Go.Proofs.YtpcgpcjleedilaaGreatDoor

open Go.RowKit Go.Shelf
namespace Go.Proofs.YtpcgpcjleedilaaGreatDoor
open Go Go.Proofs Fm

theorem stpsCells_one (l : List Stp) : ∀ u ∈ stpsCells l, u.oneCell' = true := by
  intro u hu
  unfold stpsCells at hu
  obtain ⟨L, h1, h2⟩ := List.mem_flatten.1 hu
  obtain ⟨x, _, rfl⟩ := List.mem_map.1 h1
  simp only [stpCells, List.mem_cons, List.not_mem_nil, or_false] at h2
  rcases h2 with rfl | rfl <;> rfl
/-- The cells of a row of steps. -/
theorem stpRow_cells {w wr : World} {l : List Stp} {b off n cap : Nat} (h : stpE.Row w l (.slice (some ⟨b, off, none⟩) n cap)) (hE : Ext w wr) : ∀ j u, (stpsCells l)[j]? = some u → wr.cell? ((⟨b, off, none⟩ : Addr).add j) = some u := by
  intro j u hj
  have hlt : j < (stpsCells l).length := (List.getElem?_eq_some_iff.1 hj).1
  rw [stpsCells_len] at hlt
  obtain ⟨b', off', e, _, c0, c1, _⟩ := stp_at h hE (j / 2) (by omega)
  cases e
  have hd := stpsCells_at l (j / 2) (j % 2) (by omega) (by omega)
  rw [show j / 2 * 2 + j % 2 = j by omega, hj] at hd
  rw [Addr.add_lit]
  rcases Nat.mod_two_eq_zero_or_one j with h0 | h0
  · rw [h0] at hd
    simp [stpCells] at hd
    rw [hd, ← c0, show off + j / 2 * 2 = off + j by omega]
  · rw [h0] at hd
    simp [stpCells] at hd
    rw [hd, ← c1, show off + j / 2 * 2 + 1 = off + j by omega]
theorem _root_.Fm.OwnSt.len {e : TypeId} {base : Nat} {w : World} {a : Option Addr} {n cap : Nat} {l : List Stp} (h : OwnSt e base w (.slice a n cap) l) : n = l.length := by
  obtain ⟨a', c', e⟩ := h.slice
  cases e; rfl
/-- The last one's place is written. -/
theorem _root_.Fm.OwnSt.setLast {e : TypeId} {base : Nat} {w : World} {g cap : Nat} {l : List Stp} {x : Stp} (h : OwnSt e base w (.slice (some ⟨g, 0, none⟩) (l.length + 1) cap) (l ++ [x])) (k : Int) (hk : isI64 k) :
    w.cell? ⟨g, l.length * 2 + 1, none⟩ = some (.int .i64 x.place) ∧ w.frozen? ⟨g, l.length * 2 + 1, none⟩ = false ∧ OwnSt e base (w.setCell ⟨g, l.length * 2 + 1, none⟩ (.int .i64 k)) (.slice (some ⟨g, 0, none⟩) (l.length + 1) cap) (l ++ [⟨x.name, k⟩]) := by
  have h1 : w.ownsRow base e 2 (.slice (some ⟨g, 0, none⟩) (l.length + 1) cap) (l.length + 1) (stpsCells (l ++ [x])) := by have := h.1; rwa [List.length_append, List.length_singleton] at this
  have hx := h.2 x (by simp)
  have hc := h1.cellAt (l.length * 2 + 1) (by omega)
  have hj : (stpsCells (l ++ [x]))[l.length * 2 + 1]? = some (.int .i64 x.place) := by
    rw [stpsCells_at (l ++ [x]) l.length 1 (by simp) (by omega)]
    simp [stpCells]
  rw [hj] at hc
  refine ⟨hc, h1.frozenAt _, ⟨?_, fun y hy => ?_⟩⟩
  · have hs := (h1.stored (l.length * 2 + 1) (.int .i64 k)).1
    have e : (stpsCells (l ++ [x])).set (l.length * 2 + 1) (.int .i64 k) = stpsCells (l ++ [⟨x.name, k⟩]) := by
      rw [stpsCells_snoc, stpsCells_snoc, List.set_append_right _ _ (by rw [stpsCells_len]; omega), stpsCells_len, show l.length * 2 + 1 - l.length * 2 = 1 by omega]
      rfl
    rw [e] at hs
    rw [List.length_append, List.length_singleton]
    exact hs
  · rcases List.mem_append.1 hy with hy | hy
    · exact h.2 y (List.mem_append_left _ hy)
    · rw [List.mem_singleton] at hy
      subst hy
      exact ⟨hx.1, hk⟩
end Go.Proofs.YtpcgpcjleedilaaGreatDoor

open Go.RowKit Go.Shelf
namespace Go.Proofs.YtpcgpcjleedilaaGreatDoor
open Go Go.Proofs Fm

theorem parse_steps {s : List UInt8} {p : Pth} (h : parseP s = some p) : p.steps.length ≤ 400 := by
  have h1 := deepP_le h
  have h2 : p.steps.length ≤ deepP p := by
    unfold deepP
    generalize p.steps = l
    induction l with
    | nil => simp
    | cons x l ih =>
      have : 1 ≤ stpW x := by unfold stpW; split <;> omega
      simp only [List.map_cons, List.sum_cons, List.length_cons]
      omega
  omega
theorem ownSt_bounds {e : TypeId} {base : Nat} {w : World} {a : Option Addr} {m c : Nat} {l : List Stp} (h : OwnSt e base w (.slice a m c) l) : m = l.length ∧ l.length ≤ c ∧ c ≤ 9223372036854775807 := by
  obtain ⟨a', c', e1, h1, h2⟩ := h.row.slice
  cases e1
  exact ⟨rfl, h1, h2⟩
theorem elem_step : ElemOf Tryz.prog 22 27 (.agg #[.string { data := #[] }, .int .i64 0]) 2 24 := ⟨Tryz.underlying22, info_step, rfl, by decide⟩
set_option maxRecDepth 100000 in
set_option maxHeartbeats 2000000 in
theorem idEach_any (s : List UInt8) (k : Int) (hk : isI64 k) (hs : s.length ≤ 1000000) (w : World) (hw : KW w) :
    Calls Tryz.prog 20 #[.string (str s), .int .i64 k] w fun e w' => e = .returned (.string (str (eachS s k))) ∧ Ext w w' := by
  have HW := Lib.hid hw
  have HC := Lib.hid (idParse_any s hs w hw)
  have HK := Lib.hid hk
  clear hw hk
  go_enter Tryz.func20, Tryz.ntmps20
  go_wp2_with fail
  refine HC.out.mono ?_
  rintro e w1 ⟨v, rfl, hE1, hN, hS⟩
  cases hp : parseP s with
  | none =>
    have HX := Lib.hid (show eachS s k = [] by unfold eachS; rw [hp])
    obtain rfl := hN hp
    have HE1 := Lib.hid (hE1.alloc (.cells #[.int .i64 0, .slice none 0 0] 24))
    have hb := BoxL.new w1 [.int .i64 0, .slice none 0 0] 24
    clear hN hS hp hE1
    go_upto_region 2 with (fail)
    generalize w1.alloc (.cells #[.int .i64 0, .slice none 0 0] 24) = W2 at *
    have p0 := hb.cell 0 _ rfl
    have p1 := hb.cell 1 _ rfl
    clear hb
    go_wp2
    go_ret
    exact ⟨by rw [HX.out]; rfl, HE1.out⟩
  | some p =>
    have HX := Lib.hid (show eachS s k = match p.steps.getLast? with
      | none => []
      | some x => if x.place = -1 ∧ k ≠ -1 then idP ⟨p.flow, p.steps.dropLast ++ [⟨x.name, k⟩]⟩ else [] by unfold eachS; rw [hp]; rfl)
    obtain ⟨a, m, c, rfl, hO, hfl⟩ := hS p hp
    have hlen := parse_steps hp
    obtain ⟨rfl, hb1, hb2⟩ := ownSt_bounds hO
    have hb := BoxL.new w1 [.int .i64 p.flow, .slice a p.steps.length c] 24
    have hE2 := hE1.alloc (.cells #[.int .i64 p.flow, .slice a p.steps.length c] 24)
    have hO2 := hO.ext ((Ext.refl w1).alloc (.cells #[.int .i64 p.flow, .slice a p.steps.length c] 24))
    have HF := Lib.hid hfl
    have HLT := Lib.hid hO.lt
    have hzw := hE1.size
    clear hN hS hp hE1 hO hfl
    go_upto_region 2 with (fail)
    generalize w1.alloc (.cells #[.int .i64 p.flow, .slice a p.steps.length c] 24) = W2 at *
    have p0 := hb.cell 0 _ rfl
    have p1 := hb.cell 1 _ rfl
    have HB := Lib.hid hb
    have HE := Lib.hid hE2
    have HO := Lib.hid hO2
    clear hb hE2 hO2
    rcases snoc_cases p.steps with hst | ⟨l, x, hst⟩
    · have HY := Lib.hid (show eachS s k = [] by rw [HX.out, hst]; rfl)
      have h0 : p.steps.length = 0 := by rw [hst]; rfl
      rw [h0] at p1 hb1
      clear HX hst h0 HO HB HLT
      go_wp2
      go_ret
      exact ⟨by rw [HY.out]; rfl, HE.out⟩
    · have h1 : p.steps.length = l.length + 1 := by rw [hst]; simp
      have HXs := Lib.hid (show eachS s k = if x.place = -1 ∧ k ≠ -1 then idP ⟨p.flow, l ++ [⟨x.name, k⟩]⟩ else [] by rw [HX.out, hst]; simp)
      have hO := HO.out
      rw [h1, hst] at hO
      rw [h1] at p1 hb1 HB HLT hlen
      clear HX h1 hst HO
      obtain ⟨g, cap, he⟩ := ownsRow_succ (show W2.ownsRow w.heap.size 27 2 (.slice a (l.length + 1) c) (l.length + 1) (stpsCells (l ++ [x])) by have := hO.1; rwa [List.length_append, List.length_singleton] at this)
      injection he with e1 e2 e3
      subst e1 e3
      obtain ⟨x0, x1, hO4⟩ := hO.setLast k HK.out
      have hg := HLT.out g rfl
      by_cases hpl : x.place = -1
      · have ht : (x.place != -1) = false := by simp [hpl]
        by_cases hkk : k = -1
        · have HY := Lib.hid (show eachS s k = [] by rw [HXs.out, if_neg (by simp [hkk])])
          have hu : (k == -1) = true := by simp [hkk]
          clear hpl hkk HXs hO4 hO
          go_wp2
          go_ret
          exact ⟨by rw [HY.out]; rfl, HE.out⟩
        · have HY := Lib.hid (show eachS s k = idP ⟨p.flow, l ++ [⟨x.name, k⟩]⟩ by rw [HXs.out, if_pos ⟨hpl, hkk⟩])
          have hu : (k == -1) = false := by simp [hkk]
          have HV := Lib.hid (show PthV (W2.setCell ⟨g, l.length * 2 + 1, none⟩ (.int .i64 k)) ⟨p.flow, l ++ [⟨x.name, k⟩]⟩ (.agg #[.int .i64 p.flow, .slice (some ⟨g, 0, none⟩) (l.length + 1) c]) from ⟨_, _, _, rfl, hO4.row, HF.out⟩)
          have HB6 := Lib.hid (HB.out.kept (grown_set W2 g (l.length * 2 + 1) (.int .i64 k)) (fun e => by injection e; omega))
          have HE6 := Lib.hid (HE.out.setCell (p := ⟨g, l.length * 2 + 1, none⟩) hg.1 (.int .i64 k))
          clear hpl hkk HXs hO4 hO
          go_upto_region 6 with (fail)
          generalize W2.setCell ⟨g, l.length * 2 + 1, none⟩ (.int .i64 k) = W6 at *
          clear p0 p1 x0 x1
          have p0 := HB6.out.cell 0 _ rfl
          have p1 := HB6.out.cell 1 _ rfl
          go_wp2_with fail
          refine (idId_any ⟨p.flow, l ++ [⟨x.name, k⟩]⟩ (by simp; omega) _ (HW.out.ext HE6.out) _ HV.out).mono ?_
          rintro e w7 ⟨rfl, hE7⟩
          have HE7 := Lib.hid (HE6.out.trans hE7)
          clear hE7
          go_wp2
          go_ret
          exact ⟨by rw [HY.out]; rfl, HE7.out⟩
      · have HY := Lib.hid (show eachS s k = [] by rw [HXs.out, if_neg (by simp [hpl])])
        have ht : (x.place != -1) = true := by simp [hpl]
        clear hpl HXs hO4 hO
        go_wp2
        go_ret
        exact ⟨by rw [HY.out]; rfl, HE.out⟩
end Go.Proofs.YtpcgpcjleedilaaGreatDoor

open Go.RowKit
namespace Fm
open Go Go.RowKit
/-- 'x := v' of a struct, the cells whatever: the box was made last. -/
theorem wpList_storeBox {P : Program} {ops : Array Oper} {rest : List Oper} {op : Oper} {a : Act} {w : World} {Q : Exit → Act → World → Prop} (hgd : op.guard = none) (ty : TypeId) (x y : Operand) (ho : op.op = .store ty x y)
    (w0 : World) (c : Array Value) (cs : List Value) (b : Nat) (hw : w = w0.alloc (.cells c ty)) (hb : b = w0.heap.size) (hx : a.eval x = .pointer (some ⟨b, 0, none⟩)) (hy : a.eval y = .agg cs.toArray)
    {n : Nat} (hi : (P.info? ty).map (·.size) = some n) (hc : c.size = n) (hn : cs.length = n) (h1 : ∀ u, u ∈ cs → u.oneCell' = true)
    (h : wpList P ops Q rest (a.put op.dst undef) (w0.alloc (.cells cs.toArray ty))) : wpList P ops Q (op :: rest) a w :=
  wpList_plain hgd fun _ hK => by
    subst hw hb hn
    unfold Oper.wp execOp
    simp only [ho, hx, hy, Instr.storeAt, Instr.sureAddr, Sem.run_bind, Sem.run_pure, Result.andThen_ok, run_storeVar_new w0 ty c cs.toArray (by simpa using hi) (by simpa using hc) (all_oneCell_toArray h1)]
    exact hK _ _ h
theorem rangeAt_new (w : World) (cs : List Value) (e : TypeId) : (w.alloc (.cells cs.toArray e)).rangeAt w.heap.size 0 cs := fun j v hv => by
  rw [Nat.zero_add]; exact (BoxL.new w cs e).cell j v hv
theorem rangeAt_ext {w w' : World} {b o : Nat} {cs : List Value} (h : w.rangeAt b o cs) (hE : Ext w w') (hb : b < w.heap.size) : w'.rangeAt b o cs := fun j v hv => (hE.cell (p := ⟨b, o + j, none⟩) hb).trans (h j v hv)
end Fm

namespace Fm
open Go

section
variable {P : Program} {ops : Array Oper} {Q : Exit → Act → World → Prop} {md : Region.Mode} {S : World → Prop}

/-- Operation i is wanted, and only reads: it may come first. -/
theorem take_w (i : Nat) (d : Option Tmp) {v : Value} {fuel : Nat} {listed : Array Bool} {a : Act} {w : World}
    (hi : ops[i]? = some (ops.getD i default)) (hd : (ops.getD i default).dst = d) (hs : Region.noSelect ops = true) (hf : Region.free md ops listed i = true) (hr : (Region.ready md ops listed).contains i = true)
    (hQ : ∀ c a w, Q (.panic c) (a.put d v) w → Q (.panic c) a w) (hw : Region.wanted (ops.getD i default) (yielded ops a.tmps) = true)
    (hy : ∀ w, S w → (execOp a.eval (ops.getD i default)).run P w = .ok (.value v) w) (hS : S w)
    (h : wpAnyH P md ops Q S fuel (listed.setIfInBounds i true) (a.put d v) w) : wpAnyH P md ops Q S (fuel + 1) listed a w := by
  subst hd; exact wpAnyH_take hi hs hf hr hQ (.inl ⟨hw, hy⟩) hS h
/-- Operation i alone may come up. -/
theorem ready_one (i : Nat) {fuel : Nat} {listed : Array Bool} {a : Act} {w : World}
    (hi : ops[i]? = some (ops.getD i default)) (hr : Region.ready md ops listed = [i]) (hw : Region.wanted (ops.getD i default) (yielded ops a.tmps) = true)
    (h : ∀ K' : Act → World → Prop, Shut (∀ a w, S w → (S w → wpAnyH P md ops Q S fuel (listed.setIfInBounds i true) a w) → K' a w) → Oper.wp P (ops.getD i default) a w K' Q) : wpAnyH P md ops Q S (fuel + 1) listed a w :=
  wpAnyH_ready hr (by simp) (AllReadyH.cons hi (fun K hK => by rw [if_pos hw]; exact h K hK) AllReadyH.nil)
/-- One of two may come up. -/
theorem ready_two (i j : Nat) {fuel : Nat} {listed : Array Bool} {a : Act} {w : World}
    (hi : ops[i]? = some (ops.getD i default)) (hj : ops[j]? = some (ops.getD j default)) (hr : Region.ready md ops listed = [i, j]) (hw : Region.wanted (ops.getD i default) (yielded ops a.tmps) = true) (hw2 : Region.wanted (ops.getD j default) (yielded ops a.tmps) = true)
    (h : ∀ K' : Act → World → Prop, Shut (∀ a w, S w → (S w → wpAnyH P md ops Q S fuel (listed.setIfInBounds i true) a w) → K' a w) → Oper.wp P (ops.getD i default) a w K' Q)
    (h2 : ∀ K' : Act → World → Prop, Shut (∀ a w, S w → (S w → wpAnyH P md ops Q S fuel (listed.setIfInBounds j true) a w) → K' a w) → Oper.wp P (ops.getD j default) a w K' Q) : wpAnyH P md ops Q S (fuel + 1) listed a w :=
  wpAnyH_ready hr (by simp) (AllReadyH.cons hi (fun K hK => by rw [if_pos hw]; exact h K hK) (AllReadyH.cons hj (fun K hK => by rw [if_pos hw2]; exact h2 K hK) AllReadyH.nil))
end
end Fm
