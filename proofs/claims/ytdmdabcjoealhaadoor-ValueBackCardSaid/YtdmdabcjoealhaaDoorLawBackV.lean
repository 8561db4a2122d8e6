/- ValueBack answers true at every input. -/
import Derived.Test.YtdmdabcjoealhaaDoorAwakeA
open Go.RowKit Go.Shelf
namespace Go.Proofs.YtdmdabcjoealhaaDoor
open Go Go.Proofs Fm

theorem lies_four {w : World} {t : Tr} {v : Value} (hv : Lies w t v) : ∃ (k : Int) (n : Int) (s : ByteArray) (a : Option Addr) (m c : Nat), v = .agg #[.int .u8 k, .int .i64 n, .string s, .slice a m c] := by
  obtain ⟨k, n, s, l⟩ := t
  obtain ⟨dd, rfl, hn, hs, hl⟩ := hv.parts
  obtain ⟨a, cap, rfl, _⟩ := hl
  exact ⟨_, _, _, _, _, _, rfl⟩
theorem ownsRow_formB {w : World} {base : Nat} {v : Value} {xs : List UInt8} (h : OwnB base w v xs) (hn : 0 < xs.length) : ∃ g cap, v = .slice (some ⟨g, 0, none⟩) xs.length cap := by
  rcases h.2 with ⟨_, h0⟩ | ⟨g, cap, cur, hv, _⟩
  · omega
  · exact ⟨g, cap, hv⟩
theorem numB_pos (n : Int) : 0 < (numB n).length := by
  unfold numB grp; rw [grpN]; split <;> simp
theorem bytesT_pos (t : Tr) : 0 < (bytesT t).length := by
  obtain ⟨k, n, s, l⟩ := t
  rw [bytesT_node, List.length_append]
  have := numB_pos (k.toNat : Int)
  omega
theorem ownB_made (W : World) {base : Nat} (hb : base ≤ W.heap.size) : OwnB base (W.alloc (.cells #[] 5)) (.slice (some ⟨W.heap.size, 0, none⟩) 0 0) [] :=
  World.ownsRow_made W #[] 0 hb (by simp) rfl

set_option maxRecDepth 100000 in
set_option maxHeartbeats 4000000 in
theorem valueBack_any (w : World) (t : Tr) (v : Value) (hv : Lies w t v) (va : Value) (ah : List UInt8) (ha : Bytes w va ah) (vb : Value) (be : List UInt8) (hb : Bytes w vb be) (hT : Tab w) :
    Calls Tryd.prog 6 #[v, va, vb] w fun e w' => e = .returned (.bool true) ∧ Ext w w' := by
  have HT := Lib.hid hT
  have HV := Lib.hid hv
  have HA := Lib.hid ha
  have HB := Lib.hid hb
  have HFW := Lib.hid (fewT_light 20 t)
  obtain ⟨k, n, s, ad, md, cd, rfl⟩ := lies_four hv
  obtain ⟨aa, ca, rfl, -⟩ := id ha
  obtain ⟨ab, cb, rfl, -⟩ := id hb
  have hla := ha.length_le
  have hlb := hb.length_le
  clear hT hv ha hb
  have hE0 := (Ext.refl w).alloc (.cells #[.int .u8 k, .int .i64 n, .string s, .slice ad md cd] 25)
  have hB0 : Box4 (w.alloc (.cells #[.int .u8 k, .int .i64 n, .string s, .slice ad md cd] 25)) w.heap.size (.int .u8 k) (.int .i64 n) (.string s) (.slice ad md cd) := Box4.new w _ _ _ _
  go_enter Tryd.func6, Tryd.ntmps6
  go_wp2_with fail
  generalize w.alloc (.cells #[.int .u8 k, .int .i64 n, .string s, .slice ad md cd] 25) = W0 at *
  refine (Few_any t W0 _ (HV.out.ext hE0)).mono ?_
  rintro e w1 ⟨rfl, hE1⟩
  have HE1 := Lib.hid (hE0.trans hE1)
  have HB1 := Lib.hid (hB0.ext hE1)
  clear hE0 hE1 hB0
  have HTa := Lib.hid (HT.out.ext HE1.out)
  by_cases hf : fewT 20 t ≤ 600
  case neg =>
    have hfd : decide (fewT 20 t ≤ 600) = false := decide_eq_false hf
    rw [hfd]
    clear hfd hf HFW
    go_wp2_with fail
    refine (awake08 _ HTa.out).mono ?_
    rintro e wz ⟨rfl, hEz⟩
    have HEz := Lib.hid (HE1.out.trans hEz)
    clear hEz
    go_wp2
    go_ret
    exact ⟨rfl, HEz.out⟩
  have hfd : decide (fewT 20 t ≤ 600) = true := decide_eq_true hf
  obtain ⟨hpt, hdt⟩ := HFW.out hf
  have hp6 : partsT t ≤ 600 := by omega
  have HP := Lib.hid hp6
  rw [hfd]
  clear hfd hf hpt hdt HFW hp6
  by_cases hA4 : 40 < ah.length
  case pos =>
    have hA4' : (40 : Int) < (ah.length : Int) := by omega
    go_wp2_with fail
    refine (awake08 _ HTa.out).mono ?_
    rintro e wz ⟨rfl, hEz⟩
    have HEz := Lib.hid (HE1.out.trans hEz)
    clear hEz
    go_wp2
    go_ret
    exact ⟨rfl, HEz.out⟩
  have hA4' : ¬ (40 : Int) < (ah.length : Int) := by omega
  by_cases hB4 : 40 < be.length
  case pos =>
    have hB4' : (40 : Int) < (be.length : Int) := by omega
    go_wp2_with fail
    refine (awake08 _ HTa.out).mono ?_
    rintro e wz ⟨rfl, hEz⟩
    have HEz := Lib.hid (HE1.out.trans hEz)
    clear hEz
    go_wp2
    go_ret
    exact ⟨rfl, HEz.out⟩
  have hB4' : ¬ (40 : Int) < (be.length : Int) := by omega
  clear HTa
  obtain ⟨p0, p1, p2, p3⟩ := HB1.out.cells
  go_wp2_with fail
  refine (vbytes_any t w1 _ (HV.out.ext HE1.out)).mono ?_
  intro e w2 hp2
  unfold VBytes at hp2
  by_cases hr : rightT t = true
  case neg =>
    rw [if_neg hr] at hp2
    obtain ⟨rfl, hE2⟩ := hp2
    have HE2 := Lib.hid (HE1.out.trans hE2)
    have HB2 := Lib.hid (HB1.out.ext hE2)
    have HRf : Hid (rightT t = false) := Lib.hid (by simpa using hr)
    clear hE2 hr p0 p1 p2 p3
    obtain ⟨p0, p1, p2, p3⟩ := HB2.out.cells
    go_wp2_with fail
    refine (vright_any t w2 _ (HV.out.ext HE2.out)).mono ?_
    rw [HRf.out]
    rintro e w3 ⟨rfl, hE3⟩
    have HE3 := Lib.hid (HE2.out.trans hE3)
    have HTa := Lib.hid (HT.out.ext HE3.out)
    clear hE3 p0 p1 p2 p3
    go_wp2_with fail
    refine (awake08 _ HTa.out).mono ?_
    rintro e wz ⟨rfl, hEz⟩
    have HEz := Lib.hid (HE3.out.trans hEz)
    clear hEz
    go_wp2
    go_ret
    exact ⟨rfl, HEz.out⟩
  rw [if_pos hr] at hp2
  obtain ⟨vx, rfl, ho2⟩ := hp2
  have hb2 := ho2.bytes
  obtain ⟨ax, cx, rfl, hcx, -⟩ := id hb2
  have hE2 := ho2.2
  have HE2 := Lib.hid (HE1.out.trans hE2)
  have HB2 := Lib.hid (HB1.out.ext hE2)
  have HX2 := Lib.hid hb2
  have HRt := Lib.hid hr
  have HNu := Lib.hid HV.out.nums
  have hxl : (bytesT t).length ≤ 24000 := by have := bytesT_le t (rightT_iff.1 hr).1; have := (rightT_iff.1 hr).2.2; omega
  clear hE2 ho2 hb2 hr p0 p1 p2 p3
  obtain ⟨p0, p1, p2, p3⟩ := HB2.out.cells
  go_wp2_with fail
  refine (vright_any t w2 _ (HV.out.ext HE2.out)).mono ?_
  rw [HRt.out]
  rintro e w3 ⟨rfl, hE3⟩
  have HE3 := Lib.hid (HE2.out.trans hE3)
  have HB3 := Lib.hid (HB2.out.ext hE3)
  have HX3 := Lib.hid (HX2.out.ext hE3)
  clear hE3 p0 p1 p2 p3 HE2 HB2 HX2 HB1
  obtain ⟨p0, p1, p2, p3⟩ := HB3.out.cells
  go_wp2_with fail
  refine (put_any t w3 _ _ ah (HA.out.ext HE3.out) (HV.out.ext HE3.out) (by omega)).mono ?_
  rintro e w6 ⟨vp, rfl, hop⟩
  have hbp := hop.bytes
  obtain ⟨ap, cp, rfl, -⟩ := id hbp
  have HE6 := Lib.hid (HE3.out.trans hop.2)
  have HB6 := Lib.hid (HB3.out.ext hop.2)
  have HX6 := Lib.hid (HX3.out.ext hop.2)
  have HP6 := Lib.hid hbp
  clear hop hbp p0 p1 p2 p3 HB3 HX3 HE3
  have b4 := HA.out.ext HE6.out
  have b5 := HX6.out
  have hpos : 0 < (bytesT t).length + be.length := by have := bytesT_pos t; omega
  generalize hLP : (ah ++ bytesT t).length = LP at *
  clear hLP
  generalize hLX : (bytesT t).length = LX at *
  have HLX := Lib.hid hLX
  clear hLX
  go_wp2_with (at_builtin; refine appB rfl _ _ rfl rfl (ownB_made w6 (Nat.le_refl _)) rfl (b4.ext ((Ext.refl w6).alloc _)) ?b1 ?b2 ?_)
  case b1 => first | omega | (simp; done) | (simp; omega)
  case b2 => first | omega | (simp; done) | (simp; omega)
  intro v7 w7 o7 _ B7
  have E7 := ((Ext.refl w6).alloc (.cells #[] 5)).then B7
  go_wp2_with (at_builtin; refine appB rfl _ _ rfl rfl o7 rfl (b5.ext E7) ?b1 E7.size ?_)
  case b1 => first | omega | (simp [HLX.out]; done) | (simp [HLX.out]; omega) | (have := HLX.out; simp; omega)
  intro v8 w8 o8 _ B8
  have E8 := E7.then B8
  have b8 := o8.bytes
  try rw [List.nil_append] at b8
  have HE8 := Lib.hid (HE6.out.trans E8)
  have HB8 := Lib.hid (HB6.out.ext E8)
  have HX8 := Lib.hid (HX6.out.ext E8)
  have HP8 := Lib.hid (HP6.out.ext E8)
  clear E7 E8 B7 B8 o7 o8 b4 b5 HE6 HB6 HX6 HP6
  go_wp2_with fail
  refine (same_true HP8.out b8 rfl).mono ?_
  rintro e w9 ⟨rfl, rfl⟩
  clear b8 HP8
  have b5 := HX8.out
  have b6 := HB.out.ext HE8.out
  go_wp2_with (at_builtin; refine appB rfl _ _ rfl rfl (ownB_made w8 (Nat.le_refl _)) rfl (b5.ext ((Ext.refl w8).alloc _)) ?b1 ?b2 ?_)
  case b1 => first | omega | (simp [HLX.out]; done) | (simp [HLX.out]; omega) | (have := HLX.out; simp; omega)
  case b2 => first | omega | (simp; done) | (simp; omega)
  intro v9 w9 o9 _ B9
  have E9 := ((Ext.refl w8).alloc (.cells #[] 5)).then B9
  go_wp2_with (at_builtin; refine appB rfl _ _ rfl rfl o9 rfl (b6.ext E9) ?b1 E9.size ?_)
  case b1 => first | omega | (simp [HLX.out]; done) | (simp [HLX.out]; omega) | (have := HLX.out; simp; omega)
  intro v10 w10 o10 _ B10
  have E10 := E9.then B10
  try rw [List.nil_append] at o10
  have HE10 := Lib.hid (HE8.out.trans E10)
  have HB10 := Lib.hid (HB8.out.ext E10)
  have HW10 := Lib.hid E10
  have hsz10 := E10.size
  have hlt8 := HB8.out.lt
  have HO10 := Lib.hid o10
  have b10 := o10.bytes
  have hbl := o10.lt
  obtain ⟨gi, ci, rfl⟩ : ∃ gi ci, v10 = .slice (some ⟨gi, 0, none⟩) (bytesT t ++ be).length ci := ownsRow_formB o10 (by rw [List.length_append, HLX.out]; exact hpos)
  have hgi := hbl gi rfl
  generalize hLI : (bytesT t ++ be).length = LI at *
  have HLI := Lib.hid hLI
  have hLIb : LI ≤ 100000 := by rw [← hLI, List.length_append, HLX.out]; omega
  clear hLI
  have hTk := takeV_bytes HRt.out HNu.out be
  clear E9 E10 B9 B10 o9 o10 b5 b6 HE8 HB8 hbl
  go_wp2_with fail
  refine (vtake_any _ _ w10 b10).mono ?_
  intro e w11 hp11
  unfold TakePost at hp11
  rw [hTk] at hp11
  obtain ⟨vz, vr, rfl, hE11, hOz, hrb⟩ := hp11
  obtain ⟨kz, nz, sz, az, mz, cz, rfl⟩ := ownT_four hOz
  obtain ⟨ar, cr, rfl, -⟩ := id hrb
  clear hTk b10
  go_wp2_with fail
  have HE12 := Lib.hid ((HE10.out.trans hE11).alloc (.cells #[.int .u8 kz, .int .i64 nz, .string sz, .slice az mz cz] 25))
  have hx12 := hE11.alloc (.cells #[.int .u8 kz, .int .i64 nz, .string sz, .slice az mz cz] 25)
  have hbz : Box4 (w11.alloc (.cells #[.int .u8 kz, .int .i64 nz, .string sz, .slice az mz cz] 25)) w11.heap.size (.int .u8 kz) (.int .i64 nz) (.string sz) (.slice az mz cz) := Box4.new w11 _ _ _ _
  have hOz12 := hOz.ext ((Ext.refl w11).alloc (.cells #[.int .u8 kz, .int .i64 nz, .string sz, .slice az mz cz] 25))
  have hlt11 := hE11.size
  generalize w11.alloc (.cells #[.int .u8 kz, .int .i64 nz, .string sz, .slice az mz cz] 25) = W12 at *
  have hB12 := HB10.out.ext hx12
  have HBv := Lib.hid hB12
  have HBz := Lib.hid hbz
  have HW12 := Lib.hid (HW10.out.trans hx12)
  have HI12 := Lib.hid (hx12.own (show w10.ownsRow _ _ _ _ _ _ from HO10.out))
  have HR12 := Lib.hid (hrb.ext hx12)
  have HOz := Lib.hid hOz12
  have HS : Hid (∀ w', Ext W12 w' → (w'.cell? ⟨w.heap.size, 0, none⟩ = some (.int .u8 k) ∧ w'.cell? ⟨w.heap.size, 1, none⟩ = some (.int .i64 n) ∧ w'.cell? ⟨w.heap.size, 2, none⟩ = some (.string s) ∧ w'.cell? ⟨w.heap.size, 3, none⟩ = some (.slice ad md cd) ∧ w'.cell? ⟨w11.heap.size, 0, none⟩ = some (.int .u8 kz) ∧ w'.cell? ⟨w11.heap.size, 1, none⟩ = some (.int .i64 nz) ∧ w'.cell? ⟨w11.heap.size, 2, none⟩ = some (.string sz) ∧ w'.cell? ⟨w11.heap.size, 3, none⟩ = some (.slice az mz cz))) := Lib.hid (fun w' h => by
    obtain ⟨a0, a1, a2, a3⟩ := (hB12.ext h).cells
    obtain ⟨b0, b1, b2, b3⟩ := (hbz.ext h).cells
    exact ⟨a0, a1, a2, a3, b0, b1, b2, b3⟩)
  have HLz : Hid (∀ wx, Ext W12 wx → Lies wx t (.agg #[.int .u8 kz, .int .i64 nz, .string sz, .slice az mz cz])) := Lib.hid (fun wx h => (hOz12.ext h).lies)
  have HLv : Hid (∀ wx, Ext W12 wx → Lies wx t (.agg #[.int .u8 k, .int .i64 n, .string s, .slice ad md cd])) := Lib.hid (fun wx h => HV.out.ext (HE12.out.trans h))
  have HEQ := Lib.hid (eqT_self t)
  have HDr : Hid (Ext W12 W12.drew) := Lib.hid (Ext.refl W12).drew
  have hltz := hbz.lt
  clear hB12 hbz hOz hOz12 hrb hx12 hE11 HO10 HW10 HB10 HE10
  go_region_held3 (fun w' => w'.cell? ⟨w.heap.size, 0, none⟩ = some (.int .u8 k) ∧ w'.cell? ⟨w.heap.size, 1, none⟩ = some (.int .i64 n) ∧ w'.cell? ⟨w.heap.size, 2, none⟩ = some (.string s) ∧ w'.cell? ⟨w.heap.size, 3, none⟩ = some (.slice ad md cd) ∧ w'.cell? ⟨w11.heap.size, 0, none⟩ = some (.int .u8 kz) ∧ w'.cell? ⟨w11.heap.size, 1, none⟩ = some (.int .i64 nz) ∧ w'.cell? ⟨w11.heap.size, 2, none⟩ = some (.string sz) ∧ w'.cell? ⟨w11.heap.size, 3, none⟩ = some (.slice az mz cz))
    (first | exact HS.out _ HDr.out | exact HS.out _ E1.out | exact HS.out _ E3.out | exact HS.out _ E4.out | exact HS.out _ E5.out)
    (first
      | (go_at_call 15
         refine (vsame_any t t _ _ _ (HLv.out _ HDr.out) (HLz.out _ HDr.out)).mono ?_
         rw [HEQ.out]
         rintro e y1 ⟨rfl, hE⟩
         have E1 := Lib.hid (HDr.out.trans hE)
         clear hE)
      | (go_at_call 12
         refine (same_true (HR12.out.ext E1.out) (HB.out.ext (HE12.out.trans E1.out)) rfl).mono ?_
         rintro e y2 ⟨rfl, rfl⟩)
      | (go_at_call 11
         refine (vright_any t _ _ (HLz.out _ E1.out)).mono ?_
         rw [HRt.out]
         rintro e y3 ⟨rfl, hE⟩
         have E3 := Lib.hid (E1.out.trans hE)
         clear hE)
      | (go_at_call_of 20 (Value.agg #[Value.int IntKind.u8 kz, Value.int IntKind.i64 nz, Value.string sz, Value.slice az mz cz])
         refine (vparts_any t _ _ (HLz.out _ E3.out) (by have := HP.out; omega)).mono ?_
         rintro e y4 ⟨rfl, hE⟩
         have E4 := Lib.hid (E3.out.trans hE)
         clear hE)
      | (go_at_call_of 20 (Value.agg #[Value.int IntKind.u8 k, Value.int IntKind.i64 n, Value.string s, Value.slice ad md cd])
         refine (vparts_any t _ _ (HLv.out _ E4.out) (by have := HP.out; omega)).mono ?_
         rintro e y5 ⟨rfl, hE⟩
         have E5 := Lib.hid (E4.out.trans hE)
         clear hE))
  have HI5 := Lib.hid (E5.out.own HI12.out)
  have hcells : ∃ zs : List Int, y5.ownsRow w8.heap.size 5 1 (.slice (some ⟨gi, 0, none⟩) LI ci) LI (zs.map (Value.int .u8)) := by
    refine ⟨(bytesT t ++ be).map fun x => (x.toNat : Int), ?_⟩
    have h := HI5.out
    rw [HLI.out] at h
    rw [List.map_map]
    exact h
  clear HI5 HI12 HS HLz HLv HR12 HDr E1 E3 E4
  go_wp2_with fail
  go_loopw [105] (fun i wr => ∃ (j : Nat) (zs : List Int), j ≤ LI ∧ i = .int .i64 j ∧ wr.ownsRow w8.heap.size 5 1 (.slice (some ⟨gi, 0, none⟩) LI ci) LI (zs.map (Value.int .u8)) ∧ y5.grownBy wr (some gi)) (fun i _ => LI - (intOf i).toNat)
  case atStart =>
    obtain ⟨zs, hz⟩ := hcells
    exact ⟨0, zs, by omega, rfl, hz, ⟨rfl, rfl, rfl, Nat.le_refl _, fun _ _ _ => rfl⟩⟩
  case round =>
    clear hcells
    obtain ⟨j, zs, hj, rfl, hown, hg⟩ := hrel
    have hzl : zs.length = LI := by have := hown.1; simpa using this
    by_cases hlt : j < LI
    · have hc := hown.cellAt j (by omega)
      have hfz := hown.frozenAt j
      obtain ⟨zj, hzj⟩ : ∃ zj, zs[j]? = some zj := ⟨zs[j]'(by omega), List.getElem?_eq_getElem (by omega)⟩
      rw [List.getElem?_map, hzj] at hc
      simp only [Option.map_some] at hc
      have HOW := Lib.hid hown
      clear hown hzl hzj
      have hj0 : (0 : Int) ≤ (j : Int) := by omega
      have hj1 : (j : Int) < (LI : Int) := by omega
      go_wp2_with fail
      go_roundw
      case rel => exact ⟨j + 1, zs.set j (bits .xor .u8 zj 255), by omega, by go_num, by rw [List.map_set]; exact (HOW.out.stored j _).1, grown_trans hg (HOW.out.stored j _).2⟩
      case measure => simp [intOf]; omega
    · obtain ⟨wl, rfl⟩ : ∃ wl : World, wl = wr := ⟨_, rfl⟩
      have HG := Lib.hid hg
      have HEl := Lib.hid ((HE12.out.trans E5.out).grown hg (fun x hx => by injection hx with hx; omega))
      have HWl := Lib.hid ((HW12.out.trans E5.out).grown hg (fun x hx => by injection hx with hx; omega))
      have HBl := Lib.hid ((HBv.out.ext E5.out).kept hg (fun e => by injection e with e; omega))
      have HZl := Lib.hid ((HBz.out.ext E5.out).kept hg (fun e => by injection e with e; omega))
      have HOl := Lib.hid ((HOz.out.ext E5.out).grown hg (fun b hb => by injection hb with hb; omega))
      have HXl := Lib.hid (HX8.out.ext HWl.out)
      clear hown hg hzl HG HE12 HW12 HBv HBz HOz E5 HX8
      obtain ⟨p0, p1, p2, p3⟩ := HBl.out.cells
      obtain ⟨q0, q1, q2, q3⟩ := HZl.out.cells
      have hli : ¬ (j : Int) < (LI : Int) := by omega
      go_wp2_with fail
      refine (vsame_any t t _ _ _ (HV.out.ext HEl.out) HOl.out.lies).mono ?_
      rw [HEQ.out]
      rintro e w13 ⟨rfl, hE13⟩
      have HE13 := Lib.hid (HEl.out.trans hE13)
      have HX13 := Lib.hid (HXl.out.ext hE13)
      clear hE13 p0 p1 p2 p3 q0 q1 q2 q3 HEl HWl HBl HZl HOl HXl
      go_wp2_with fail
      go_loopw [121] (fun i wr => ∃ j : Nat, j ≤ LX ∧ i = .int .i64 j ∧ Ext w13 wr) (fun i _ => LX - (intOf i).toNat)
      case atStart => exact ⟨0, by omega, rfl, Ext.refl _⟩
      case round =>
        clear hlt hj hli
        obtain ⟨j, hj, rfl, hE⟩ := hrel
        by_cases hlt : j < LX
        · have hj0 : (0 : Int) ≤ (j : Int) := by omega
          have hj1 : (j : Int) < (LX : Int) := by omega
          have hjc : (j : Int) ≤ (cx : Int) := by omega
          have hsk := fun w' => slice_upto ax LX cx (j : Int) hj0 hjc w'
          simp only [takeV, Int.toNat_natCast] at hsk
          have tk := (HX13.out.ext hE).take (k := j) (by have := HLX.out; omega)
          simp only [takeV] at tk
          have HTk := Lib.hid tk
          have HNo := Lib.hid (takeV_short HRt.out HNu.out (i := j) (by rw [HLX.out]; exact hlt))
          have hwj : IntKind.i64.wrap ((LX : Int) - (j : Int)) = (LX : Int) - (j : Int) := IntWalk.i64_in _ (by omega)
          have hrm : IntKind.i64.wrap ((j : Int).tmod 7) = (j : Int) % 7 := by rw [Int.tmod_eq_emod_of_nonneg hj0]; exact IntWalk.i64_in _ (by omega)
          have HE := Lib.hid hE
          clear tk hE
          by_cases h7 : (j : Int) % 7 = 0
          case' pos => go_wp2_with fail
          case' neg =>
            by_cases h9 : (LX : Int) - (j : Int) < 9
            case neg =>
              go_wp2
              go_roundw
              case rel => exact ⟨j + 1, by omega, by go_num, HE.out⟩
              case measure => simp [intOf]; omega
            go_wp2_with fail
          all_goals
           (refine (vtake_any _ _ _ HTk.out).mono ?_
            intro e w14 hp14
            unfold TakePost at hp14
            rw [HNo.out] at hp14
            obtain ⟨rfl, hE14⟩ := hp14
            have HE14 := Lib.hid (HE.out.trans hE14)
            clear hE14 hsk hwj hrm
            go_wp2
            go_roundw
            case rel => exact ⟨j + 1, by omega, by go_num, HE14.out.alloc _⟩
            case measure => simp [intOf]; omega)
        · have HEr := Lib.hid (HE13.out.trans hE)
          have HTa := Lib.hid (HT.out.ext HEr.out)
          have hjx : ¬ (j : Int) < (LX : Int) := by omega
          clear hE HE13 HX13
          go_wp2_with fail
          refine (awake08 _ HTa.out).mono ?_
          rintro e wz ⟨rfl, hEz⟩
          have HEz := Lib.hid (HEr.out.trans hEz)
          clear hEz
          go_wp2
          go_ret
          exact ⟨rfl, HEz.out⟩
end Go.Proofs.YtdmdabcjoealhaaDoor
