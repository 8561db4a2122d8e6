/- OpBack answers true at every input. -/
import Derived.Test.YtoaomhcffofapaaDoorOpF
open Go.RowKit Go.Shelf
namespace Go.Proofs.YtoaomhcffofapaaDoor
open Go Go.Proofs Fm

theorem ownB_madeO (W : World) {base : Nat} (hb : base ≤ W.heap.size) : OwnB base (W.alloc (.cells #[] 5)) (.slice (some ⟨W.heap.size, 0, none⟩) 0 0) [] :=
  World.ownsRow_made W #[] 0 hb (by simp) rfl
theorem ownsRow_formO {w : World} {base : Nat} {v : Value} {xs : List UInt8} (h : OwnB base w v xs) (hn : 0 < xs.length) : ∃ g cap, v = .slice (some ⟨g, 0, none⟩) xs.length cap := by
  rcases h.2 with ⟨_, h0⟩ | ⟨g, cap, cur, hv, _⟩
  · omega
  · exact ⟨g, cap, hv⟩
theorem opBy_pos (o : Opn) : 0 < (opBy o).length := by
  unfold opBy
  rw [List.length_append]
  have := numB_pos (o.what.toNat : Int)
  omega
theorem opBy_le {o : Opn} (h : rightO o = true) : (opBy o).length ≤ 100000 := by
  obtain ⟨h1, h2, h3⟩ := opParts_le h
  have l0 := numB_le (o.what.toNat : Int)
  have l1 := textB_le o.id
  have l2 := numB_le o.tok
  have l3 := numB_le o.quo
  have c : ∀ (b : Bool) (l : List UInt8) (k : Nat), l.length ≤ k → (bif b then l else []).length ≤ k := fun b l k hl => by cases b with | true => exact hl | false => simp
  have a1 := c (oI o.what) _ 410 (show (textB o.id).length ≤ 410 by omega)
  have a2 := c (oT o.what) _ 10 l2
  have a3 := c (oV o.what) _ 24000 h2
  have a4 := c (oF o.what) _ 50000 h3
  have a5 := c (oQ o.what) _ 10 l3
  unfold opBy opTail
  simp only [List.length_append]
  omega

set_option maxRecDepth 100000 in
set_option maxHeartbeats 16000000 in
theorem opBack_any (w : World) (o : Opn) (v : Value) (hv : OpV w o v) (vb : Value) (be : List UInt8) (hb : Bytes w vb be) (hT : KTab w) :
    Calls Tryd.prog 3 #[v, vb] w fun e w' => e = .returned (.bool true) ∧ Ext w w' := by
  have HV := Lib.hid hv
  have HB := Lib.hid hb
  have HT := Lib.hid hT
  obtain ⟨ab, cb, rfl, -⟩ := id hb
  have hlb := hb.length_le
  obtain ⟨k, n, s, d, a, m, c, rfl, -⟩ := hv
  clear hb hT
  have h1 := BoxL.new w [.int .u8 (o.what.toNat : Int), .string (str o.id), .int .i64 o.tok, k, n, s, d, .slice a m c, .int .i64 o.quo] 27
  have hE := (Ext.refl w).alloc (.cells #[.int .u8 (o.what.toNat : Int), .string (str o.id), .int .i64 o.tok, k, n, s, d, .slice a m c, .int .i64 o.quo] 27)
  go_enter Tryd.func3, Tryd.ntmps3
  go_wp2_with fail
  generalize w.alloc (.cells #[.int .u8 (o.what.toNat : Int), .string (str o.id), .int .i64 o.tok, k, n, s, d, .slice a m c, .int .i64 o.quo] 27) = W1 at *
  have H1 := Lib.hid h1
  have HE1 := Lib.hid hE
  clear h1 hE
  refine (opFew_any o W1 _ (HV.out.ext HE1.out)).mono ?_
  rintro e w2 ⟨rfl, hE2⟩
  have HE2 := Lib.hid (HE1.out.trans hE2)
  have H2 := Lib.hid (H1.out.ext hE2)
  clear hE2 H1 HE1
  cases hf : fewO o with
  | false =>
    clear hf
    go_wp2_with fail
    refine (awake10 _ (HT.out.ext HE2.out)).mono ?_
    rintro e wz ⟨rfl, hEz⟩
    have HEz := Lib.hid (HE2.out.trans hEz)
    clear hEz
    go_wp2
    go_ret
    exact ⟨rfl, HEz.out⟩
  | true =>
  clear hf
  by_cases hB4 : 20 < be.length
  case pos =>
    have hB4' : (20 : Int) < (be.length : Int) := by omega
    go_wp2_with fail
    refine (awake10 _ (HT.out.ext HE2.out)).mono ?_
    rintro e wz ⟨rfl, hEz⟩
    have HEz := Lib.hid (HE2.out.trans hEz)
    clear hEz
    go_wp2
    go_ret
    exact ⟨rfl, HEz.out⟩
  have hB4' : ¬ (20 : Int) < (be.length : Int) := by omega
  have ⟨p0, p1, p2, p3, p4, p5, p6, p7, p8⟩ := H2.out.nine
  go_wp2_with fail
  refine (opBytes_any o w2 _ (HV.out.ext HE2.out) (HT.out.ext HE2.out)).mono ?_
  rintro e w3 ⟨ax, mx, cx, nx, rfl, hE3, hno, hyes⟩
  have HE3 := Lib.hid (HE2.out.trans hE3)
  have H3 := Lib.hid (H2.out.ext hE3)
  clear hE3 H2 HE2 hB4' p0 p1 p2 p3 p4 p5 p6 p7 p8
  have ⟨p0, p1, p2, p3, p4, p5, p6, p7, p8⟩ := H3.out.nine
  cases hr : rightO o with
  | false =>
    obtain ⟨rfl, rfl⟩ := hno hr
    have HRf := Lib.hid hr
    clear hr hno hyes
    go_wp2_with fail
    refine (opRight_any o w3 _ (HV.out.ext HE3.out) (HT.out.ext HE3.out)).mono ?_
    rw [HRf.out]
    rintro e w4 ⟨rfl, hE4⟩
    have HE4 := Lib.hid (HE3.out.trans hE4)
    clear hE4
    go_wp2_with fail
    refine (awake10 _ (HT.out.ext HE4.out)).mono ?_
    rintro e wz ⟨rfl, hEz⟩
    have HEz := Lib.hid (HE4.out.trans hEz)
    clear hEz
    go_wp2
    go_ret
    exact ⟨rfl, HEz.out⟩
  | true =>
  obtain ⟨rfl, ho3⟩ := hyes hr
  have hb3 := ho3.bytes
  have hmx : mx = (opBy o).length := by obtain ⟨a', c', e', -⟩ := id hb3; injection e'
  subst hmx
  have hcx : (opBy o).length ≤ cx := by obtain ⟨a', c', e', h', -⟩ := id hb3; injection e' with _ _ e'; omega
  have HX3 := Lib.hid hb3
  have HRt := Lib.hid hr
  have hxl : (opBy o).length ≤ 100000 := opBy_le hr
  have HPY := Lib.hid (parseO_by hr HV.out.wf)
  have hpos := opBy_pos o
  clear ho3 hb3 hr hno hyes
  go_wp2_with fail
  refine (opRight_any o w3 _ (HV.out.ext HE3.out) (HT.out.ext HE3.out)).mono ?_
  rw [HRt.out]
  rintro e w4 ⟨rfl, hE4⟩
  have HE4 := Lib.hid (HE3.out.trans hE4)
  have H4 := Lib.hid (H3.out.ext hE4)
  have HX4 := Lib.hid (HX3.out.ext hE4)
  clear hE4 HE3 H3 HX3 p0 p1 p2 p3 p4 p5 p6 p7 p8
  have b4 := HX4.out
  generalize hLX : (opBy o).length = LX at *
  have HLX := Lib.hid hLX
  clear hLX
  go_wp2_with (at_builtin; refine appB rfl _ _ rfl rfl (ownB_madeO w4 (Nat.le_refl _)) rfl (b4.ext ((Ext.refl w4).alloc _)) ?b1 ?b2 ?_)
  case b1 => first | omega | (simp [HLX.out]; done) | (simp [HLX.out]; omega) | (have := HLX.out; simp; omega)
  case b2 => first | omega | (simp; done) | (simp; omega)
  intro v5 w5 o5 _ B5
  have E5 := ((Ext.refl w4).alloc (.cells #[] 5)).then B5
  try rw [List.nil_append] at o5
  have b5 := o5.bytes
  have hbl := o5.lt
  obtain ⟨gi, ci, rfl⟩ : ∃ gi ci, v5 = .slice (some ⟨gi, 0, none⟩) (opBy o).length ci := ownsRow_formO o5 (by rw [HLX.out]; exact hpos)
  have hgi := hbl gi rfl
  rw [HLX.out] at b5 o5
  have HE5 := Lib.hid (HE4.out.trans E5)
  have H5 := Lib.hid (H4.out.ext E5)
  have HW5 := Lib.hid E5
  have HO5 := Lib.hid o5
  have hsz45 := E5.size
  have hsz4 := H4.out.lt
  have HIN := Lib.hid b5
  rw [HLX.out]
  clear E5 B5 o5 b4 b5 hbl HE4 H4
  go_wp2_with fail
  refine (opParse_any _ (opBy o) w5 HIN.out (HT.out.ext HE5.out)).mono ?_
  rintro e w6 ⟨kk, ids, tt, vk, vn, vs, va, vm, vc, fa, fm, fc, qq, f6, o6, rfl, hE6, hO6, -, hyes⟩
  obtain ⟨rfl, rfl⟩ := hyes o HPY.out
  have hx := (Ext.refl w6).alloc (.cells #[.int .u8 kk, .string ids, .int .i64 tt, .int .u8 vk, .int .i64 vn, .string vs, .slice va vm vc, .slice fa fm fc, .int .i64 qq] 27)
  have HN6 : Hid (BoxL (w6.alloc (.cells #[.int .u8 kk, .string ids, .int .i64 tt, .int .u8 vk, .int .i64 vn, .string vs, .slice va vm vc, .slice fa fm fc, .int .i64 qq] 27)) w6.heap.size [.int .u8 kk, .string ids, .int .i64 tt, .int .u8 vk, .int .i64 vn, .string vs, .slice va vm vc, .slice fa fm fc, .int .i64 qq]) := Lib.hid (BoxL.new w6 [.int .u8 kk, .string ids, .int .i64 tt, .int .u8 vk, .int .i64 vn, .string vs, .slice va vm vc, .slice fa fm fc, .int .i64 qq] _)
  have HE6 := Lib.hid ((HE5.out.trans hE6).trans hx)
  have H6 := Lib.hid ((H5.out.ext hE6).ext hx)
  have HW6 := Lib.hid ((HW5.out.trans hE6).trans hx)
  have HO6 := Lib.hid (hO6.ext hx)
  have HI6 := Lib.hid (hx.own (hE6.own (show w5.ownsRow _ _ _ _ _ _ from HO5.out)))
  have hsz6 := hE6.size
  clear hx hE6 hO6 hyes HE5 H5 HW5 HO5 HIN
  go_upto_region 8 with (fail)
  generalize w6.alloc (.cells #[.int .u8 kk, .string ids, .int .i64 tt, .int .u8 vk, .int .i64 vn, .string vs, .slice va vm vc, .slice fa fm fc, .int .i64 qq] 27) = W6 at *
  have hcells : ∃ zs : List Int, W6.ownsRow w4.heap.size 5 1 (.slice (some ⟨gi, 0, none⟩) LX ci) LX (zs.map (Value.int .u8)) := by
    refine ⟨(opBy o6).map fun x => (x.toNat : Int), ?_⟩
    have h := HI6.out
    rw [HLX.out] at h
    rw [List.map_map]
    exact h
  clear HI6
  go_wp2_with fail
  go_loopw [53] (fun i wr => ∃ (j : Nat) (zs : List Int), j ≤ LX ∧ i = .int .i64 j ∧ wr.ownsRow w4.heap.size 5 1 (.slice (some ⟨gi, 0, none⟩) LX ci) LX (zs.map (Value.int .u8)) ∧ W6.grownBy wr (some gi)) (fun i _ => LX - (intOf i).toNat)
  case atStart =>
    obtain ⟨zs, hz⟩ := hcells
    exact ⟨0, zs, by omega, rfl, hz, ⟨rfl, rfl, rfl, Nat.le_refl _, fun _ _ _ => rfl⟩⟩
  case round =>
    clear hcells
    obtain ⟨j, zs, hj, rfl, hown, hg⟩ := hrel
    have hzl : zs.length = LX := by have := hown.1; simpa using this
    by_cases hlt : j < LX
    · have hc := hown.cellAt j (by omega)
      have hfz := hown.frozenAt j
      obtain ⟨zj, hzj⟩ : ∃ zj, zs[j]? = some zj := ⟨zs[j]'(by omega), List.getElem?_eq_getElem (by omega)⟩
      rw [List.getElem?_map, hzj] at hc
      simp only [Option.map_some] at hc
      have HOW := Lib.hid hown
      clear hown hzl hzj
      have hj0 : (0 : Int) ≤ (j : Int) := by omega
      have hj1 : (j : Int) < (LX : Int) := by omega
      go_wp2_with fail
      go_roundw
      case rel => exact ⟨j + 1, zs.set j (bits .xor .u8 zj 255), by omega, by go_num, by rw [List.map_set]; exact (HOW.out.stored j _).1, grown_trans hg (HOW.out.stored j _).2⟩
      case measure => simp [intOf]; omega
    · obtain ⟨wl, rfl⟩ : ∃ wl : World, wl = wr := ⟨_, rfl⟩
      have HEl := Lib.hid (HE6.out.grown hg (fun x hx => by injection hx with hx; omega))
      have H7 := Lib.hid (H6.out.kept hg (fun e => by injection e with e; omega))
      have HN7 := Lib.hid (HN6.out.kept hg (fun e => by injection e with e; omega))
      have HO7 := Lib.hid (HO6.out.kept hg (fun b hb => by injection hb with hb; omega))
      have HWl := Lib.hid (HW6.out.grown hg (fun x hx => by injection hx with hx; omega))
      clear hown hg hzl HE6 H6 HN6 HO6 hj HW6
      have hli : ¬ (j : Int) < (LX : Int) := by omega
      have ⟨p0, p1, p2, p3, p4, p5, p6, p7, p8⟩ := H7.out.nine
      have ⟨q0, q1, q2, q3, q4, q5, q6, q7, q8⟩ := HN7.out.nine
      go_wp2_with fail
      refine (opSame_any o6 o6 wl _ _ (HV.out.ext HEl.out) HO7.out.v).mono ?_
      rw [eqO_refl]
      rintro e w8 ⟨rfl, hE8⟩
      have HE8 := Lib.hid (HEl.out.trans hE8)
      have HN8 := Lib.hid (HN7.out.ext hE8)
      have HO8 := Lib.hid (HO7.out.ext hE8)
      have HL8 := Lib.hid hE8
      clear hE8 H7 HN7 HO7 HEl p0 p1 p2 p3 p4 p5 p6 p7 p8 q0 q1 q2 q3 q4 q5 q6 q7 q8
      have ⟨q0, q1, q2, q3, q4, q5, q6, q7, q8⟩ := HN8.out.nine
      go_wp2_with fail
      refine (opRight_any o6 w8 _ HO8.out.v (HT.out.ext HE8.out)).mono ?_
      rw [HRt.out]
      rintro e w9 ⟨rfl, hE9⟩
      have HE9 := Lib.hid (HE8.out.trans hE9)
      have HX9 : Hid (Bytes w9 (.slice ax LX cx) (opBy o6)) := Lib.hid (HX4.out.ext (HWl.out.trans (HL8.out.trans hE9)))
      clear hE9 HE8 HN8 HO8 HL8 q0 q1 q2 q3 q4 q5 q6 q7 q8 hli hlt HX4 HWl
      go_wp2_with fail
      go_loopw [82] (fun i wr => ∃ j : Nat, j ≤ LX ∧ i = .int .i64 j ∧ Ext w9 wr) (fun i _ => LX - (intOf i).toNat)
      case atStart => exact ⟨0, by omega, rfl, Ext.refl _⟩
      case round =>
        obtain ⟨j, hj, rfl, hE⟩ := hrel
        by_cases hlt : j < LX
        · have hj0 : (0 : Int) ≤ (j : Int) := by omega
          have hj1 : (j : Int) < (LX : Int) := by omega
          have hjc : (j : Int) ≤ (cx : Int) := by omega
          have hsk := fun w' => slice_upto ax LX cx (j : Int) hj0 hjc w'
          simp only [takeV, Int.toNat_natCast] at hsk
          have tk := (HX9.out.ext hE).take (k := j) (by have := HLX.out; omega)
          simp only [takeV] at tk
          have HTk := Lib.hid tk
          have HNo := Lib.hid (parseO_less HRt.out HV.out.wf (i := j) (by rw [HLX.out]; exact hlt))
          have hwj : IntKind.i64.wrap ((LX : Int) - (j : Int)) = (LX : Int) - (j : Int) := IntWalk.i64_in _ (by omega)
          have hrm : IntKind.i64.wrap ((j : Int).tmod 5) = (j : Int) % 5 := by rw [Int.tmod_eq_emod_of_nonneg hj0]; exact IntWalk.i64_in _ (by omega)
          have HE := Lib.hid hE
          have HEw := Lib.hid (HE9.out.trans hE)
          clear tk hE
          by_cases h7 : (j : Int) % 5 = 0
          case' pos => go_wp2_with fail
          case' neg =>
            by_cases h9 : (LX : Int) - (j : Int) < 6
            case neg =>
              go_wp2
              go_roundw
              case rel => exact ⟨j + 1, by omega, by go_num, HE.out⟩
              case measure => simp [intOf]; omega
            go_wp2_with fail
          all_goals
           (refine (opParse_any _ _ _ HTk.out (HT.out.ext HEw.out)).mono ?_
            rintro e w14 ⟨k2, i2, t2, vk2, vn2, vs2, va2, vm2, vc2, fa2, fm2, fc2, q2, f4, o4, rfl, hE14, -, hn4, -⟩
            obtain ⟨rfl, -⟩ := hn4 HNo.out
            have HE14 := Lib.hid ((HE.out.trans hE14).alloc (.cells #[.int .u8 k2, .string i2, .int .i64 t2, .int .u8 vk2, .int .i64 vn2, .string vs2, .slice va2 vm2 vc2, .slice fa2 fm2 fc2, .int .i64 q2] 27))
            clear hE14 hsk hwj hrm hn4
            go_wp2
            go_roundw
            case rel => exact ⟨j + 1, by omega, by go_num, HE14.out⟩
            case measure => simp [intOf]; omega)
        · obtain ⟨wt, rfl⟩ : ∃ wt : World, wt = wr := ⟨_, rfl⟩
          have HEr := Lib.hid (HE9.out.trans hE)
          have b5 := HX9.out.ext hE
          have b6 := HB.out.ext HEr.out
          have hjx : ¬ (j : Int) < (LX : Int) := by omega
          clear hE HX9 HE9
          go_wp2_with (at_builtin; refine appB rfl _ _ rfl rfl (ownB_madeO wt (Nat.le_refl _)) rfl (b5.ext ((Ext.refl wt).alloc _)) ?b1 ?b2 ?_)
          case b1 => first | omega | (simp [HLX.out]; done) | (simp [HLX.out]; omega) | (have := HLX.out; simp; omega)
          intro v15 w15 o15 _ B15
          have E15 := ((Ext.refl wt).alloc (.cells #[] 5)).then B15
          go_wp2_with (at_builtin; refine appB rfl _ _ rfl rfl o15 rfl (b6.ext E15) ?b1 E15.size ?_)
          case b1 => first | omega | (simp [HLX.out]; done) | (simp [HLX.out]; omega) | (have := HLX.out; simp; omega)
          intro v16 w16 o16 _ B16
          have E16 := E15.then B16
          have b16 := o16.bytes
          try rw [List.nil_append] at b16
          have HE16 := Lib.hid (HEr.out.trans E16)
          have HB16 := Lib.hid b16
          clear E15 E16 B15 B16 o15 o16 b5 b6 b16 HEr hjx
          go_wp2_with fail
          refine (opParse_any _ _ w16 HB16.out (HT.out.ext HE16.out)).mono ?_
          rintro e w17 ⟨kk, ids, tt, vk, vn, vs, va, vm, vc, fa, fm, fc, qq, f7, o7, rfl, hE17, -, hn7, hy7⟩
          have HE17 := Lib.hid ((HE16.out.trans hE17).alloc (.cells #[.int .u8 kk, .string ids, .int .i64 tt, .int .u8 vk, .int .i64 vn, .string vs, .slice va vm vc, .slice fa fm fc, .int .i64 qq] 27))
          clear hE17 HB16 HE16
          cases be with
          | nil =>
            obtain ⟨rfl, -⟩ := hy7 o6 (by rw [List.append_nil]; exact HPY.out)
            clear hn7 hy7
            go_wp2_with fail
            refine (awake10 _ (HT.out.ext HE17.out)).mono ?_
            rintro e wz ⟨rfl, hEz⟩
            have HEz := Lib.hid (HE17.out.trans hEz)
            clear hEz
            go_wp2
            go_ret
            exact ⟨rfl, HEz.out⟩
          | cons y ys =>
            obtain ⟨rfl, -⟩ := hn7 (parseO_more HRt.out HV.out.wf (by simp))
            have hbz : (((y :: ys).length : Int) == 0) = false := by simp; omega
            generalize (y :: ys).length = LB at *
            clear hn7 hy7
            go_wp2_with fail
            refine (awake10 _ (HT.out.ext HE17.out)).mono ?_
            rintro e wz ⟨rfl, hEz⟩
            have HEz := Lib.hid (HE17.out.trans hEz)
            clear hEz
            go_wp2
            go_ret
            exact ⟨rfl, HEz.out⟩
end Go.Proofs.YtoaomhcffofapaaDoor
