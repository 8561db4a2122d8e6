/- SnapBack answers true at every input. -/
import Derived.Test.YtdienbcjfljjnaaDoorSnM
open Go.RowKit Go.Shelf
namespace Go.Proofs.YtdienbcjfljjnaaDoor
open Go Go.Proofs Fm

theorem ownB_madeS (W : World) {base : Nat} (hb : base ≤ W.heap.size) : OwnB base (W.alloc (.cells #[] 5)) (.slice (some ⟨W.heap.size, 0, none⟩) 0 0) [] :=
  World.ownsRow_made W #[] 0 hb (by simp) rfl
theorem ownsRow_formS {w : World} {base : Nat} {v : Value} {xs : List UInt8} (h : OwnB base w v xs) (hn : 0 < xs.length) : ∃ g cap, v = .slice (some ⟨g, 0, none⟩) xs.length cap := by
  rcases h.2 with ⟨_, h0⟩ | ⟨g, cap, cur, hv, _⟩
  · omega
  · exact ⟨g, cap, hv⟩
theorem snBy_pos (s : Sn) : 0 < (snBy s).length := by
  unfold snBy
  simp only [List.length_append]
  have := numB_pos s.tok
  omega
/-- What Parse comes to, in one form. -/
theorem sparse4_any (v : Value) (xs : List UInt8) (w : World) (h : Bytes w v xs) :
    Calls Tryd.prog 15 #[v] w fun e w' => ∃ (cq cd cw cr cf fl : Int) (va : Option Addr) (vm vc : Nat) (tk n : Int) (s' : Sn), e = .returned (.tuple #[.agg #[.int .i64 cq, .int .i64 cd, .int .i64 cw, .int .i64 cr, .int .i64 cf, .int .i64 fl, .slice va vm vc, .int .i64 tk], .int .i64 n]) ∧ Ext w w' ∧
      SnOwn 47 3 45 w.heap.size w' s' (.agg #[.int .i64 cq, .int .i64 cd, .int .i64 cw, .int .i64 cr, .int .i64 cf, .int .i64 fl, .slice va vm vc, .int .i64 tk]) ∧
      (parseS xs = none → n = 30 ∧ s' = snZ) ∧ (∀ s, parseS xs = some s → n = 0 ∧ s' = s) := by
  refine (sparse_any v xs w h).mono ?_
  rintro e w' (⟨hn, rfl, hE⟩ | ⟨s, hs, v, rfl, hE, hO⟩)
  · obtain ⟨h1, h2, h3, h4, h5, h6, h7, _⟩ := snZ_wf
    exact ⟨0, 0, 0, 0, 0, 0, none, 0, 0, 0, 30, snZ, rfl, hE, ⟨none, 0, 0, rfl, OwnNds.nil _ _ _ _ _, h1, h2, h3, h4, h5, h6, h7⟩, (fun _ => ⟨rfl, rfl⟩), fun s hs => by rw [hn] at hs; cases hs⟩
  · obtain ⟨a, m, c, rfl, hr⟩ := id hO
    exact ⟨_, _, _, _, _, _, a, m, c, _, 0, s, rfl, hE, hO, (fun h => by rw [hs] at h; cases h), fun s2 h2 => ⟨rfl, by rw [hs] at h2; injection h2⟩⟩

set_option maxRecDepth 100000 in
set_option maxHeartbeats 16000000 in
theorem snapBack_any (w : World) (o : Sn) (v : Value) (hv : SnV w o v) (vb : Value) (be : List UInt8) (hb : Bytes w vb be) :
    Calls Tryd.prog 3 #[v, vb] w fun e w' => e = .returned (.bool true) ∧ Ext w w' := by
  have HV := Lib.hid hv
  have HB := Lib.hid hb
  obtain ⟨ab, cb, rfl, -⟩ := id hb
  have hlb := hb.length_le
  obtain ⟨a, m, c, rfl, -⟩ := hv
  clear hb
  have h1 := BoxL.new w [.int .i64 o.cq, .int .i64 o.cd, .int .i64 o.cw, .int .i64 o.cr, .int .i64 o.cf, .int .i64 o.flows, .slice a m c, .int .i64 o.tok] 26
  have hE := (Ext.refl w).alloc (.cells #[.int .i64 o.cq, .int .i64 o.cd, .int .i64 o.cw, .int .i64 o.cr, .int .i64 o.cf, .int .i64 o.flows, .slice a m c, .int .i64 o.tok] 26)
  go_enter Tryd.func3, Tryd.ntmps3
  go_wp2_with fail
  generalize w.alloc (.cells #[.int .i64 o.cq, .int .i64 o.cd, .int .i64 o.cw, .int .i64 o.cr, .int .i64 o.cf, .int .i64 o.flows, .slice a m c, .int .i64 o.tok] 26) = W1 at *
  have H1 := Lib.hid h1
  have HE1 := Lib.hid hE
  clear h1 hE
  refine (few11_any o W1 _ (HV.out.ext HE1.out)).mono ?_
  rintro e w2 ⟨rfl, hE2⟩
  have HE2 := Lib.hid (HE1.out.trans hE2)
  have H2 := Lib.hid (H1.out.ext hE2)
  clear hE2 H1 HE1
  cases hf : fewSn o with
  | false =>
    clear hf
    go_wp2_with fail
    refine (awake11 _).mono ?_
    rintro e wz ⟨rfl, hEz⟩
    have HEz := Lib.hid (HE2.out.trans hEz)
    clear hEz
    go_wp2
    go_ret
    exact ⟨rfl, HEz.out⟩
  | true =>
  clear hf
  by_cases hB4 : 20 < be.length
  case pos =>
    have hB4' : (20 : Int) < (be.length : Int) := by omega
    go_wp2_with fail
    refine (awake11 _).mono ?_
    rintro e wz ⟨rfl, hEz⟩
    have HEz := Lib.hid (HE2.out.trans hEz)
    clear hEz
    go_wp2
    go_ret
    exact ⟨rfl, HEz.out⟩
  have hB4' : ¬ (20 : Int) < (be.length : Int) := by omega
  have ⟨p0, p1, p2, p3, p4, p5, p6, p7⟩ := H2.out.n8
  go_wp2_with fail
  refine (sbytes_any o w2 _ (HV.out.ext HE2.out)).mono ?_
  rintro e w3 ⟨ax, mx, cx, nx, rfl, hE3, hno, hyes⟩
  have HE3 := Lib.hid (HE2.out.trans hE3)
  have H3 := Lib.hid (H2.out.ext hE3)
  clear hE3 H2 HE2 hB4' p0 p1 p2 p3 p4 p5 p6 p7
  have ⟨p0, p1, p2, p3, p4, p5, p6, p7⟩ := H3.out.n8
  cases hr : snB o with
  | false =>
    obtain ⟨rfl, rfl⟩ := hno hr
    have HRf := Lib.hid hr
    clear hr hno hyes
    go_wp2_with fail
    refine (sright_any o w3 _ (HV.out.ext HE3.out)).mono ?_
    rw [HRf.out]
    rintro e w4 ⟨rfl, hE4⟩
    have HE4 := Lib.hid (HE3.out.trans hE4)
    clear hE4
    go_wp2_with fail
    refine (awake11 _).mono ?_
    rintro e wz ⟨rfl, hEz⟩
    have HEz := Lib.hid (HE4.out.trans hEz)
    clear hEz
    go_wp2
    go_ret
    exact ⟨rfl, HEz.out⟩
  | true =>
  obtain ⟨rfl, ho3⟩ := hyes hr
  have hb3 := ho3.bytes
  have hmx : mx = (snBy o).length := by obtain ⟨a', c', e', -⟩ := id hb3; injection e'
  subst hmx
  have hcx : (snBy o).length ≤ cx := by obtain ⟨a', c', e', h', -⟩ := id hb3; injection e' with _ _ e'; omega
  have HX3 := Lib.hid hb3
  have HRt := Lib.hid hr
  have hxl : (snBy o).length ≤ 130000000 := snBy_le hr
  have HPY := Lib.hid (parseS_by hr HV.out.wf)
  have hpos := snBy_pos o
  clear ho3 hb3 hr hno hyes
  go_wp2_with fail
  refine (sright_any o w3 _ (HV.out.ext HE3.out)).mono ?_
  rw [HRt.out]
  rintro e w4 ⟨rfl, hE4⟩
  have HE4 := Lib.hid (HE3.out.trans hE4)
  have H4 := Lib.hid (H3.out.ext hE4)
  have HX4 := Lib.hid (HX3.out.ext hE4)
  clear hE4 HE3 H3 HX3 p0 p1 p2 p3 p4 p5 p6 p7
  have b4 := HX4.out
  generalize hLX : (snBy o).length = LX at *
  have HLX := Lib.hid hLX
  clear hLX
  go_wp2_with (at_builtin; refine appB rfl _ _ rfl rfl (ownB_madeS w4 (Nat.le_refl _)) rfl (b4.ext ((Ext.refl w4).alloc _)) ?b1 ?b2 ?_)
  case b1 => first | omega | (simp [HLX.out]; done) | (simp [HLX.out]; omega) | (have := HLX.out; simp; omega)
  case b2 => first | omega | (simp; done) | (simp; omega)
  intro v5 w5 o5 _ B5
  have E5 := ((Ext.refl w4).alloc (.cells #[] 5)).then B5
  try rw [List.nil_append] at o5
  have b5 := o5.bytes
  have hbl := o5.lt
  obtain ⟨gi, ci, rfl⟩ : ∃ gi ci, v5 = .slice (some ⟨gi, 0, none⟩) (snBy o).length ci := ownsRow_formS o5 (by rw [HLX.out]; exact hpos)
  have hgi := hbl gi rfl
  rw [HLX.out] at b5 o5
  have HE5 := Lib.hid (HE4.out.trans E5)
  have H5 := Lib.hid (H4.out.ext E5)
  have HW5 := Lib.hid E5
  have HO5 := Lib.hid o5
  have hsz45 := E5.size
  have hsz4 := H4.out.lt
  have HIN := Lib.hid b5
  rw [HLX.out]
  clear E5 B5 o5 b4 b5 hbl HE4 H4
  go_wp2_with fail
  refine (sparse4_any _ (snBy o) w5 HIN.out).mono ?_
  rintro e w6 ⟨cq, cd, cw, cr, cf, fl, va, vm, vc, tk, f6, o6, rfl, hE6, hO6, -, hyes⟩
  obtain ⟨rfl, rfl⟩ := hyes o HPY.out
  have hx := (Ext.refl w6).alloc (.cells #[.int .i64 cq, .int .i64 cd, .int .i64 cw, .int .i64 cr, .int .i64 cf, .int .i64 fl, .slice va vm vc, .int .i64 tk] 26)
  have HN6 : Hid (BoxL (w6.alloc (.cells #[.int .i64 cq, .int .i64 cd, .int .i64 cw, .int .i64 cr, .int .i64 cf, .int .i64 fl, .slice va vm vc, .int .i64 tk] 26)) w6.heap.size [.int .i64 cq, .int .i64 cd, .int .i64 cw, .int .i64 cr, .int .i64 cf, .int .i64 fl, .slice va vm vc, .int .i64 tk]) := Lib.hid (BoxL.new w6 [.int .i64 cq, .int .i64 cd, .int .i64 cw, .int .i64 cr, .int .i64 cf, .int .i64 fl, .slice va vm vc, .int .i64 tk] _)
  have HE6 := Lib.hid ((HE5.out.trans hE6).trans hx)
  have H6 := Lib.hid ((H5.out.ext hE6).ext hx)
  have HW6 := Lib.hid ((HW5.out.trans hE6).trans hx)
  have HO6 := Lib.hid (hO6.ext hx)
  have HI6 := Lib.hid (hx.own (hE6.own (show w5.ownsRow _ _ _ _ _ _ from HO5.out)))
  have hsz6 := hE6.size
  clear hx hE6 hO6 hyes HE5 H5 HW5 HO5 HIN
  go_upto_region 8 with (fail)
  generalize w6.alloc (.cells #[.int .i64 cq, .int .i64 cd, .int .i64 cw, .int .i64 cr, .int .i64 cf, .int .i64 fl, .slice va vm vc, .int .i64 tk] 26) = W6 at *
  have hcells : ∃ zs : List Int, W6.ownsRow w4.heap.size 5 1 (.slice (some ⟨gi, 0, none⟩) LX ci) LX (zs.map (Value.int .u8)) := by
    refine ⟨(snBy o6).map fun x => (x.toNat : Int), ?_⟩
    have h := HI6.out
    rw [HLX.out] at h
    rw [List.map_map]
    exact h
  clear HI6
  go_wp2_with fail
  go_loopw [53] (fun i wr => ∃ (j : Nat) (zs : List Int), j ≤ LX ∧ i = .int .i64 j ∧ wr.ownsRow w4.heap.size 5 1 (.slice (some ⟨gi, 0, none⟩) LX ci) LX (zs.map (Value.int .u8)) ∧ W6.grownBy wr (some gi)) (fun i _ => LX - (intOf i).toNat)
  case atStart =>
    obtain ⟨zs, hz⟩ := hcells
    exact ⟨0, zs, by omega, rfl, hz, ⟨rfl, rfl, rfl, Nat.le_refl _, fun _ _ _ => rfl⟩⟩
  case round =>
    clear hcells
    obtain ⟨j, zs, hj, rfl, hown, hg⟩ := hrel
    have hzl : zs.length = LX := by have := hown.1; simpa using this
    by_cases hlt : j < LX
    · have hc := hown.cellAt j (by omega)
      have hfz := hown.frozenAt j
      obtain ⟨zj, hzj⟩ : ∃ zj, zs[j]? = some zj := ⟨zs[j]'(by omega), List.getElem?_eq_getElem (by omega)⟩
      rw [List.getElem?_map, hzj] at hc
      simp only [Option.map_some] at hc
      have HOW := Lib.hid hown
      clear hown hzl hzj
      have hj0 : (0 : Int) ≤ (j : Int) := by omega
      have hj1 : (j : Int) < (LX : Int) := by omega
      go_wp2_with fail
      go_roundw
      case rel => exact ⟨j + 1, zs.set j (bits .xor .u8 zj 255), by omega, by go_num, by rw [List.map_set]; exact (HOW.out.stored j _).1, grown_trans hg (HOW.out.stored j _).2⟩
      case measure => simp [intOf]; omega
    · obtain ⟨wl, rfl⟩ : ∃ wl : World, wl = wr := ⟨_, rfl⟩
      have HEl := Lib.hid (HE6.out.grown hg (fun x hx => by injection hx with hx; omega))
      have H7 := Lib.hid (H6.out.kept hg (fun e => by injection e with e; omega))
      have HN7 := Lib.hid (HN6.out.kept hg (fun e => by injection e with e; omega))
      have HO7 := Lib.hid (HO6.out.kept hg (fun b hb => by injection hb with hb; omega))
      have HWl := Lib.hid (HW6.out.grown hg (fun x hx => by injection hx with hx; omega))
      clear hown hg hzl HE6 H6 HN6 HO6 hj HW6
      have hli : ¬ (j : Int) < (LX : Int) := by omega
      have ⟨p0, p1, p2, p3, p4, p5, p6, p7⟩ := H7.out.n8
      have ⟨q0, q1, q2, q3, q4, q5, q6, q7⟩ := HN7.out.n8
      go_wp2_with fail
      refine (sSame_any o6 o6 wl _ _ (HV.out.ext HEl.out) HO7.out.v).mono ?_
      rw [eqSn_refl]
      rintro e w8 ⟨rfl, hE8⟩
      have HE8 := Lib.hid (HEl.out.trans hE8)
      have HN8 := Lib.hid (HN7.out.ext hE8)
      have HO8 := Lib.hid (HO7.out.ext hE8)
      have HL8 := Lib.hid hE8
      clear hE8 H7 HN7 HO7 HEl p0 p1 p2 p3 p4 p5 p6 p7 q0 q1 q2 q3 q4 q5 q6 q7
      have ⟨q0, q1, q2, q3, q4, q5, q6, q7⟩ := HN8.out.n8
      go_wp2_with fail
      refine (sright_any o6 w8 _ HO8.out.v).mono ?_
      rw [HRt.out]
      rintro e w9 ⟨rfl, hE9⟩
      have HE9 := Lib.hid (HE8.out.trans hE9)
      have HX9 : Hid (Bytes w9 (.slice ax LX cx) (snBy o6)) := Lib.hid (HX4.out.ext (HWl.out.trans (HL8.out.trans hE9)))
      clear hE9 HE8 HN8 HO8 HL8 q0 q1 q2 q3 q4 q5 q6 q7 hli hlt HX4 HWl
      go_wp2_with fail
      go_loopw [82] (fun i wr => ∃ j : Nat, j ≤ LX ∧ i = .int .i64 j ∧ Ext w9 wr) (fun i _ => LX - (intOf i).toNat)
      case atStart => exact ⟨0, by omega, rfl, Ext.refl _⟩
      case round =>
        obtain ⟨j, hj, rfl, hE⟩ := hrel
        by_cases hlt : j < LX
        · have hj0 : (0 : Int) ≤ (j : Int) := by omega
          have hj1 : (j : Int) < (LX : Int) := by omega
          have hjc : (j : Int) ≤ (cx : Int) := by omega
          have hsk := fun w' => slice_upto ax LX cx (j : Int) hj0 hjc w'
          simp only [takeV, Int.toNat_natCast] at hsk
          have tk := (HX9.out.ext hE).take (k := j) (by have := HLX.out; omega)
          simp only [takeV] at tk
          have HTk := Lib.hid tk
          have HNo := Lib.hid (parseS_less HRt.out HV.out.wf (i := j) (by rw [HLX.out]; exact hlt))
          have hwj : IntKind.i64.wrap ((LX : Int) - (j : Int)) = (LX : Int) - (j : Int) := IntWalk.i64_in _ (by omega)
          have hrm : IntKind.i64.wrap ((j : Int).tmod 11) = (j : Int) % 11 := by rw [Int.tmod_eq_emod_of_nonneg hj0]; exact IntWalk.i64_in _ (by omega)
          have HE := Lib.hid hE
          have HEw := Lib.hid (HE9.out.trans hE)
          clear tk hE
          by_cases h7 : (j : Int) % 11 = 0
          case' pos => go_wp2_with fail
          case' neg =>
            by_cases h9 : (LX : Int) - (j : Int) < 6
            case neg =>
              go_wp2
              go_roundw
              case rel => exact ⟨j + 1, by omega, by go_num, HE.out⟩
              case measure => simp [intOf]; omega
            go_wp2_with fail
          all_goals
           (refine (sparse4_any _ _ _ HTk.out).mono ?_
            rintro e w14 ⟨cq2, cd2, cw2, cr2, cf2, fl2, va2, vm2, vc2, tk2, f4, o4, rfl, hE14, -, hn4, -⟩
            obtain ⟨rfl, -⟩ := hn4 HNo.out
            have HE14 := Lib.hid ((HE.out.trans hE14).alloc (.cells #[.int .i64 cq2, .int .i64 cd2, .int .i64 cw2, .int .i64 cr2, .int .i64 cf2, .int .i64 fl2, .slice va2 vm2 vc2, .int .i64 tk2] 26))
            clear hE14 hsk hwj hrm hn4
            go_wp2
            go_roundw
            case rel => exact ⟨j + 1, by omega, by go_num, HE14.out⟩
            case measure => simp [intOf]; omega)
        · obtain ⟨wt, rfl⟩ : ∃ wt : World, wt = wr := ⟨_, rfl⟩
          have HEr := Lib.hid (HE9.out.trans hE)
          have b5 := HX9.out.ext hE
          have b6 := HB.out.ext HEr.out
          have hjx : ¬ (j : Int) < (LX : Int) := by omega
          clear hE HX9 HE9
          go_wp2_with (at_builtin; refine appB rfl _ _ rfl rfl (ownB_madeS wt (Nat.le_refl _)) rfl (b5.ext ((Ext.refl wt).alloc _)) ?b1 ?b2 ?_)
          case b1 => first | omega | (simp [HLX.out]; done) | (simp [HLX.out]; omega) | (have := HLX.out; simp; omega)
          intro v15 w15 o15 _ B15
          have E15 := ((Ext.refl wt).alloc (.cells #[] 5)).then B15
          go_wp2_with (at_builtin; refine appB rfl _ _ rfl rfl o15 rfl (b6.ext E15) ?b1 E15.size ?_)
          case b1 => first | omega | (simp [HLX.out]; done) | (simp [HLX.out]; omega) | (have := HLX.out; simp; omega)
          intro v16 w16 o16 _ B16
          have E16 := E15.then B16
          have b16 := o16.bytes
          try rw [List.nil_append] at b16
          have HE16 := Lib.hid (HEr.out.trans E16)
          have HB16 := Lib.hid b16
          clear E15 E16 B15 B16 o15 o16 b5 b6 b16 HEr hjx
          go_wp2_with fail
          refine (sparse4_any _ _ w16 HB16.out).mono ?_
          rintro e w17 ⟨cq, cd, cw, cr, cf, fl, va, vm, vc, tk, f7, o7, rfl, hE17, -, hn7, hy7⟩
          have HE17 := Lib.hid ((HE16.out.trans hE17).alloc (.cells #[.int .i64 cq, .int .i64 cd, .int .i64 cw, .int .i64 cr, .int .i64 cf, .int .i64 fl, .slice va vm vc, .int .i64 tk] 26))
          clear hE17 HB16 HE16
          cases be with
          | nil =>
            obtain ⟨rfl, -⟩ := hy7 o6 (by rw [List.append_nil]; exact HPY.out)
            clear hn7 hy7
            go_wp2_with fail
            refine (awake11 _).mono ?_
            rintro e wz ⟨rfl, hEz⟩
            have HEz := Lib.hid (HE17.out.trans hEz)
            clear hEz
            go_wp2
            go_ret
            exact ⟨rfl, HEz.out⟩
          | cons y ys =>
            obtain ⟨rfl, -⟩ := hn7 (parseS_more HRt.out HV.out.wf (by simp))
            have hbz : (((y :: ys).length : Int) == 0) = false := by simp; omega
            generalize (y :: ys).length = LB at *
            clear hn7 hy7
            go_wp2_with fail
            refine (awake11 _).mono ?_
            rintro e wz ⟨rfl, hEz⟩
            have HEz := Lib.hid (HE17.out.trans hEz)
            clear hEz
            go_wp2
            go_ret
            exact ⟨rfl, HEz.out⟩
end Go.Proofs.YtdienbcjfljjnaaDoor
