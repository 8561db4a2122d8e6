/- FragBack answers true at every input. -/
import Derived.Test.YtnbalamacpcanaaDoorFragV
import Derived.Test.YtnbalamacpcanaaDoorFragG
open Go.RowKit Go.Shelf
namespace Go.Proofs.YtnbalamacpcanaaDoor
open Go Go.Proofs Fm

theorem ownsRow_formF {w : World} {base : Nat} {v : Value} {xs : List UInt8} (h : OwnB base w v xs) (hn : 0 < xs.length) : ∃ g cap, v = .slice (some ⟨g, 0, none⟩) xs.length cap := by
  rcases h.2 with ⟨_, h0⟩ | ⟨g, cap, cur, hv, _⟩
  · omega
  · exact ⟨g, cap, hv⟩
theorem numB_posF (n : Int) : 0 < (numB n).length := by
  unfold numB grp; rw [grpN]; split <;> simp
theorem fragBy_pos (l : List It) : 0 < (fragBy l).length := by
  unfold fragBy
  rw [List.length_append]
  have := numB_posF (l.length : Int)
  omega
theorem ownB_madeF (W : World) {base : Nat} (hb : base ≤ W.heap.size) : OwnB base (W.alloc (.cells #[] 5)) (.slice (some ⟨W.heap.size, 0, none⟩) 0 0) [] :=
  World.ownsRow_made W #[] 0 hb (by simp) rfl
theorem eqF_self (l : List It) : eqF l l = true := eqF_iff.2 rfl

set_option maxRecDepth 100000 in
set_option maxHeartbeats 8000000 in
theorem fragBack_any (w : World) (l : List It) (v : Value) (hv : itE.Row w l v) (va : Value) (ah : List UInt8) (ha : Bytes w va ah) (vb : Value) (be : List UInt8) (hb : Bytes w vb be) :
    Calls Tryd.prog 10 #[v, va, vb] w fun e w' => e = .returned (.bool true) ∧ Ext w w' := by
  have HV := Lib.hid hv
  have HA := Lib.hid ha
  have HB := Lib.hid hb
  obtain ⟨al, cl, rfl, -⟩ := hv.slice
  obtain ⟨aa, ca, rfl, -⟩ := id ha
  obtain ⟨ab, cb, rfl, -⟩ := id hb
  have hla := ha.length_le
  have hlb := hb.length_le
  clear hv ha hb
  go_enter Tryd.func10, Tryd.ntmps10
  go_wp2_with fail
  refine (few09_any l w _ HV.out).mono ?_
  rintro e w1 ⟨rfl, hE1⟩
  have HE1 := Lib.hid hE1
  clear hE1
  cases hf : fewF l with
  | false =>
    clear hf
    go_wp2_with fail
    refine (awake09 _).mono ?_
    rintro e wz ⟨rfl, hEz⟩
    have HEz := Lib.hid (HE1.out.trans hEz)
    clear hEz
    go_wp2
    go_ret
    exact ⟨rfl, HEz.out⟩
  | true =>
  clear hf
  by_cases hA4 : 40 < ah.length
  case pos =>
    have hA4' : (40 : Int) < (ah.length : Int) := by omega
    go_wp2_with fail
    refine (awake09 _).mono ?_
    rintro e wz ⟨rfl, hEz⟩
    have HEz := Lib.hid (HE1.out.trans hEz)
    clear hEz
    go_wp2
    go_ret
    exact ⟨rfl, HEz.out⟩
  have hA4' : ¬ (40 : Int) < (ah.length : Int) := by omega
  by_cases hB4 : 40 < be.length
  case pos =>
    have hB4' : (40 : Int) < (be.length : Int) := by omega
    go_wp2_with fail
    refine (awake09 _).mono ?_
    rintro e wz ⟨rfl, hEz⟩
    have HEz := Lib.hid (HE1.out.trans hEz)
    clear hEz
    go_wp2
    go_ret
    exact ⟨rfl, HEz.out⟩
  have hB4' : ¬ (40 : Int) < (be.length : Int) := by omega
  go_wp2_with fail
  refine (fbytes_any l w1 _ (HV.out.ext HE1.out)).mono ?_
  rintro e w2 ⟨ax, mx, cx, nx, rfl, hE2, hno, hyes⟩
  cases hr : fragB l with
  | false =>
    obtain ⟨rfl, rfl⟩ := hno hr
    have HE2 := Lib.hid (HE1.out.trans hE2)
    have HRf := Lib.hid hr
    clear hE2 hr hno hyes
    go_wp2_with fail
    refine (fright_any l w2 _ (HV.out.ext HE2.out)).mono ?_
    rw [HRf.out]
    rintro e w3 ⟨rfl, hE3⟩
    have HE3 := Lib.hid (HE2.out.trans hE3)
    clear hE3
    go_wp2_with fail
    refine (awake09 _).mono ?_
    rintro e wz ⟨rfl, hEz⟩
    have HEz := Lib.hid (HE3.out.trans hEz)
    clear hEz
    go_wp2
    go_ret
    exact ⟨rfl, HEz.out⟩
  | true =>
  obtain ⟨rfl, ho2⟩ := hyes hr
  have hb2 := ho2.bytes
  have hmx : mx = (fragBy l).length := by obtain ⟨a', c', e', -⟩ := id hb2; injection e'
  subst hmx
  have hcx : (fragBy l).length ≤ cx := by obtain ⟨a', c', e', h', -⟩ := id hb2; injection e' with _ _ e'; omega
  have HE2 := Lib.hid (HE1.out.trans hE2)
  have HX2 := Lib.hid hb2
  have HRt := Lib.hid hr
  have hxl : (fragBy l).length ≤ 50000 := fragBy_le hr
  clear hE2 ho2 hb2 hr hno hyes
  go_wp2_with fail
  refine (fright_any l w2 _ (HV.out.ext HE2.out)).mono ?_
  rw [HRt.out]
  rintro e w3 ⟨rfl, hE3⟩
  have HE3 := Lib.hid (HE2.out.trans hE3)
  have HX3 := Lib.hid (HX2.out.ext hE3)
  clear hE3 HE2 HX2
  go_wp2_with fail
  refine (fput_any l w3 _ _ ah (HA.out.ext HE3.out) (HV.out.ext HE3.out) (by omega)).mono ?_
  rintro e w6 ⟨vp, rfl, hop⟩
  have hbp := hop.bytes
  obtain ⟨ap, cp, rfl, -⟩ := id hbp
  have HE6 := Lib.hid (HE3.out.trans hop.2)
  have HX6 := Lib.hid (HX3.out.ext hop.2)
  have HP6 := Lib.hid hbp
  clear hop hbp HX3 HE3
  have b4 := HA.out.ext HE6.out
  have b5 := HX6.out
  have hpos : 0 < (fragBy l).length + be.length := by have := fragBy_pos l; omega
  generalize hLP : (ah ++ fragBy l).length = LP at *
  clear hLP
  generalize hLX : (fragBy l).length = LX at *
  have HLX := Lib.hid hLX
  clear hLX
  go_wp2_with (at_builtin; refine appB rfl _ _ rfl rfl (ownB_madeF w6 (Nat.le_refl _)) rfl (b4.ext ((Ext.refl w6).alloc _)) ?b1 ?b2 ?_)
  case b1 => first | omega | (simp; done) | (simp; omega)
  case b2 => first | omega | (simp; done) | (simp; omega)
  intro v7 w7 o7 _ B7
  have E7 := ((Ext.refl w6).alloc (.cells #[] 5)).then B7
  go_wp2_with (at_builtin; refine appB rfl _ _ rfl rfl o7 rfl (b5.ext E7) ?b1 E7.size ?_)
  case b1 => first | omega | (simp [HLX.out]; done) | (simp [HLX.out]; omega) | (have := HLX.out; simp; omega)
  intro v8 w8 o8 _ B8
  have E8 := E7.then B8
  have b8 := o8.bytes
  try rw [List.nil_append] at b8
  have HE8 := Lib.hid (HE6.out.trans E8)
  have HX8 := Lib.hid (HX6.out.ext E8)
  have HP8 := Lib.hid (HP6.out.ext E8)
  clear E7 E8 B7 B8 o7 o8 b4 b5 HE6 HX6 HP6
  go_wp2_with fail
  refine (same_true HP8.out b8 rfl).mono ?_
  rintro e w9 ⟨rfl, rfl⟩
  clear b8 HP8
  have b5 := HX8.out
  have b6 := HB.out.ext HE8.out
  go_wp2_with (at_builtin; refine appB rfl _ _ rfl rfl (ownB_madeF w8 (Nat.le_refl _)) rfl (b5.ext ((Ext.refl w8).alloc _)) ?b1 ?b2 ?_)
  case b1 => first | omega | (simp [HLX.out]; done) | (simp [HLX.out]; omega) | (have := HLX.out; simp; omega)
  case b2 => first | omega | (simp; done) | (simp; omega)
  intro v9 w9 o9 _ B9
  have E9 := ((Ext.refl w8).alloc (.cells #[] 5)).then B9
  go_wp2_with (at_builtin; refine appB rfl _ _ rfl rfl o9 rfl (b6.ext E9) ?b1 E9.size ?_)
  case b1 => first | omega | (simp [HLX.out]; done) | (simp [HLX.out]; omega) | (have := HLX.out; simp; omega)
  intro v10 w10 o10 _ B10
  have E10 := E9.then B10
  try rw [List.nil_append] at o10
  have HE10 := Lib.hid (HE8.out.trans E10)
  have HW10 := Lib.hid E10
  have hsz10 := E10.size
  have HO10 := Lib.hid o10
  have b10 := o10.bytes
  have hbl := o10.lt
  obtain ⟨gi, ci, rfl⟩ : ∃ gi ci, v10 = .slice (some ⟨gi, 0, none⟩) (fragBy l ++ be).length ci := ownsRow_formF o10 (by rw [List.length_append, HLX.out]; exact hpos)
  have hgi := hbl gi rfl
  generalize hLI : (fragBy l ++ be).length = LI at *
  have HLI := Lib.hid hLI
  have hLIb : LI ≤ 100000 := by rw [← hLI, List.length_append, HLX.out]; omega
  clear hLI
  have hTk := takeF_by HRt.out be
  clear E9 E10 B9 B10 o9 o10 b5 b6 hbl
  go_wp2_with fail
  refine (ftake_any _ _ w10 b10).mono ?_
  rintro e w11 ⟨az, mz, cz, ar, mr, cr, fz, lz, rfl, hE11, hOz, -, hy⟩
  obtain ⟨rfl, rfl, hrb⟩ := hy _ _ hTk
  clear hTk b10 hy
  have HOz := Lib.hid hOz
  have HRz := Lib.hid (hrb.ext hE11)
  have HE11 := Lib.hid (HE10.out.trans hE11)
  have HW11 := Lib.hid (HW10.out.trans hE11)
  have HI11 := Lib.hid (hE11.own (show w10.ownsRow _ _ _ _ _ _ from HO10.out))
  have HEQ := Lib.hid (eqF_self lz)
  clear hOz hrb hE11 HE10 HW10 HO10
  go_wp2_with fail
  refine (fSame_any lz lz w11 _ _ (HV.out.ext HE11.out) HOz.out.row).mono ?_
  rw [HEQ.out]
  rintro e w12 ⟨rfl, hE12⟩
  have HE12 := Lib.hid hE12
  clear hE12
  go_wp2_with fail
  refine (same_true (HRz.out.ext HE12.out) (HB.out.ext (HE11.out.trans HE12.out)) rfl).mono ?_
  rintro e y2 ⟨rfl, rfl⟩
  go_wp2_with fail
  refine (fright_any lz w12 _ (HOz.out.row.ext HE12.out)).mono ?_
  rw [HRt.out]
  rintro e y5 ⟨rfl, hE5⟩
  have E5 := Lib.hid (HE12.out.trans hE5)
  clear hE5 HE12
  have HI5 := Lib.hid (E5.out.own HI11.out)
  have hcells : ∃ zs : List Int, y5.ownsRow w8.heap.size 5 1 (.slice (some ⟨gi, 0, none⟩) LI ci) LI (zs.map (Value.int .u8)) := by
    refine ⟨(fragBy lz ++ be).map fun x => (x.toNat : Int), ?_⟩
    have h := HI5.out
    rw [HLI.out] at h
    rw [List.map_map]
    exact h
  clear HI5 HI11
  go_wp2_with fail
  go_loopw [96] (fun i wr => ∃ (j : Nat) (zs : List Int), j ≤ LI ∧ i = .int .i64 j ∧ wr.ownsRow w8.heap.size 5 1 (.slice (some ⟨gi, 0, none⟩) LI ci) LI (zs.map (Value.int .u8)) ∧ y5.grownBy wr (some gi)) (fun i _ => LI - (intOf i).toNat)
  case atStart =>
    obtain ⟨zs, hz⟩ := hcells
    exact ⟨0, zs, by omega, rfl, hz, ⟨rfl, rfl, rfl, Nat.le_refl _, fun _ _ _ => rfl⟩⟩
  case round =>
    clear hcells
    obtain ⟨j, zs, hj, rfl, hown, hg⟩ := hrel
    have hzl : zs.length = LI := by have := hown.1; simpa using this
    by_cases hlt : j < LI
    · have hc := hown.cellAt j (by omega)
      have hfz := hown.frozenAt j
      obtain ⟨zj, hzj⟩ : ∃ zj, zs[j]? = some zj := ⟨zs[j]'(by omega), List.getElem?_eq_getElem (by omega)⟩
      rw [List.getElem?_map, hzj] at hc
      simp only [Option.map_some] at hc
      have HOW := Lib.hid hown
      clear hown hzl hzj
      have hj0 : (0 : Int) ≤ (j : Int) := by omega
      have hj1 : (j : Int) < (LI : Int) := by omega
      go_wp2_with fail
      go_roundw
      case rel => exact ⟨j + 1, zs.set j (bits .xor .u8 zj 255), by omega, by go_num, by rw [List.map_set]; exact (HOW.out.stored j _).1, grown_trans hg (HOW.out.stored j _).2⟩
      case measure => simp [intOf]; omega
    · obtain ⟨wl, rfl⟩ : ∃ wl : World, wl = wr := ⟨_, rfl⟩
      have HG := Lib.hid hg
      have HEl := Lib.hid ((HE11.out.trans E5.out).grown hg (fun x hx => by injection hx with hx; have := HE8.out.size; omega))
      have HWl := Lib.hid ((HW11.out.trans E5.out).grown hg (fun x hx => by injection hx with hx; omega))
      have HOl := Lib.hid ((HOz.out.ext E5.out).kept hg (fun b hb => by injection hb with hb; omega))
      have HXl := Lib.hid (HX8.out.ext HWl.out)
      clear hown hg hzl HG HE11 HW11 HOz E5 HX8
      have hli : ¬ (j : Int) < (LI : Int) := by omega
      go_wp2_with fail
      go_loopw [108] (fun i wr => ∃ j : Nat, j ≤ LX ∧ i = .int .i64 j ∧ Ext wl wr) (fun i _ => LX - (intOf i).toNat)
      case atStart => exact ⟨0, by omega, rfl, Ext.refl _⟩
      case round =>
        clear hlt hj hli
        obtain ⟨j, hj, rfl, hE⟩ := hrel
        by_cases hlt : j < LX
        · have hj0 : (0 : Int) ≤ (j : Int) := by omega
          have hj1 : (j : Int) < (LX : Int) := by omega
          have hjc : (j : Int) ≤ (cx : Int) := by omega
          have hsk := fun w' => slice_upto ax LX cx (j : Int) hj0 hjc w'
          simp only [takeV, Int.toNat_natCast] at hsk
          have tk := (HXl.out.ext hE).take (k := j) (by have := HLX.out; omega)
          simp only [takeV] at tk
          have HTk := Lib.hid tk
          have HNo := Lib.hid (takeF_short HRt.out (i := j) (by rw [HLX.out]; exact hlt))
          have hwj : IntKind.i64.wrap ((LX : Int) - (j : Int)) = (LX : Int) - (j : Int) := IntWalk.i64_in _ (by omega)
          have hrm : IntKind.i64.wrap ((j : Int).tmod 5) = (j : Int) % 5 := by rw [Int.tmod_eq_emod_of_nonneg hj0]; exact IntWalk.i64_in _ (by omega)
          have HE := Lib.hid hE
          clear tk hE
          by_cases h7 : (j : Int) % 5 = 0
          case' pos => go_wp2_with fail
          case' neg =>
            by_cases h9 : (LX : Int) - (j : Int) < 6
            case neg =>
              go_wp2
              go_roundw
              case rel => exact ⟨j + 1, by omega, by go_num, HE.out⟩
              case measure => simp [intOf]; omega
            go_wp2_with fail
          all_goals
           (refine (ftake_any _ _ _ HTk.out).mono ?_
            rintro e w14 ⟨a4, m4, c4, ar4, mr4, cr4, f4, l4, rfl, hE14, -, hn4, -⟩
            obtain ⟨rfl, rfl, rfl⟩ := hn4 HNo.out
            have HE14 := Lib.hid (HE.out.trans hE14)
            clear hE14 hsk hwj hrm hn4
            go_wp2
            go_roundw
            case rel => exact ⟨j + 1, by omega, by go_num, HE14.out⟩
            case measure => simp [intOf]; omega)
        · have HEr := Lib.hid (HEl.out.trans hE)
          have HOr := Lib.hid (HOl.out.row.ext hE)
          have hjx : ¬ (j : Int) < (LX : Int) := by omega
          clear hE HXl HEl HOl
          go_wp2_with fail
          refine (fSame_any lz lz _ _ _ (HV.out.ext HEr.out) HOr.out).mono ?_
          rw [HEQ.out]
          rintro e w13 ⟨rfl, hE13⟩
          have HE13 := Lib.hid (HEr.out.trans hE13)
          clear hE13
          go_wp2_with fail
          refine (awake09 _).mono ?_
          rintro e wz ⟨rfl, hEz⟩
          have HEz := Lib.hid (HE13.out.trans hEz)
          clear hEz
          go_wp2
          go_ret
          exact ⟨rfl, HEz.out⟩
end Go.Proofs.YtnbalamacpcanaaDoor
