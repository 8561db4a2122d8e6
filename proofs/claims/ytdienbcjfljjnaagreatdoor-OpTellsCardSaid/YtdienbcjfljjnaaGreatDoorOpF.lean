/- Walks: the law's says and awake. -/
import Derived.Test.YtdienbcjfljjnaaGreatDoorOpC
import Derived.Test.YtdienbcjfljjnaaGreatDoorOpE
import Derived.Test.YtdienbcjfljjnaaGreatDoorFragV
open Go.RowKit Go.Shelf
namespace Go.Proofs.YtdienbcjfljjnaaGreatDoor
open Go Go.Proofs Fm

set_option maxRecDepth 100000 in
set_option maxHeartbeats 8000000 in
theorem says_any (o : Opn) (hr1 : rightO o = true) (w : World) (v : Value) (hv : OpV w o v) (wv : Value) (hb : Bytes w wv (opBy o)) (hT : KTab w) :
    Calls Tryz.prog 52 #[v, wv] w fun e w' => e = .returned (.bool true) ∧ Ext w w' := by
  have HV := Lib.hid hv
  have HRR := Lib.hid hr1
  have HPA := Lib.hid (parseO_by hr1 hv.wf)
  have HB := Lib.hid hb
  have HT := Lib.hid hT
  obtain ⟨aw, cw, rfl, -⟩ := id hb
  obtain ⟨k, n, s, d, a, m, c, rfl, -⟩ := hv
  clear hb hT hr1
  have hBo := BoxL.new w [.int .u8 (o.what.toNat : Int), .string (str o.id), .int .i64 o.tok, k, n, s, d, .slice a m c, .int .i64 o.quo] 46
  have hE := (Ext.refl w).alloc (.cells #[.int .u8 (o.what.toNat : Int), .string (str o.id), .int .i64 o.tok, k, n, s, d, .slice a m c, .int .i64 o.quo] 46)
  go_enter Tryz.func52, Tryz.ntmps52
  go_wp2_with fail
  generalize w.alloc (.cells #[.int .u8 (o.what.toNat : Int), .string (str o.id), .int .i64 o.tok, k, n, s, d, .slice a m c, .int .i64 o.quo] 46) = W1 at *
  have HBo := Lib.hid hBo
  have HE := Lib.hid hE
  clear hBo hE
  refine (opBytes_any o W1 _ (HV.out.ext HE.out) (HT.out.ext HE.out)).mono ?_
  rintro e w2 ⟨a2, m2, cc2, n2, rfl, hE2, -, hyes⟩
  obtain ⟨rfl, hO2⟩ := hyes HRR.out
  have HX2 := Lib.hid hO2.bytes
  have HE12 := Lib.hid hE2
  have HE2 := Lib.hid (HE.out.trans hE2)
  clear hyes hE2 hO2
  go_wp2_with fail
  refine (opParse_any _ (opBy o) w2 (HB.out.ext HE2.out) (HT.out.ext HE2.out)).mono ?_
  rintro e w3 ⟨kk, ids, tt, vk, vn, vs, va, vm, vc, fa, fm, fc, qq, n3, o3, rfl, hE3, hO3, -, hyes⟩
  obtain ⟨rfl, rfl⟩ := hyes o HPA.out
  have hlt := HBo.out.lt
  have HA3 := Lib.hid ((Ext.refl w3).alloc (.cells #[.int .u8 kk, .string ids, .int .i64 tt, .int .u8 vk, .int .i64 vn, .string vs, .slice va vm vc, .slice fa fm fc, .int .i64 qq] 46))
  have HN3 : Hid (BoxL (w3.alloc (.cells #[.int .u8 kk, .string ids, .int .i64 tt, .int .u8 vk, .int .i64 vn, .string vs, .slice va vm vc, .slice fa fm fc, .int .i64 qq] 46)) w3.heap.size [.int .u8 kk, .string ids, .int .i64 tt, .int .u8 vk, .int .i64 vn, .string vs, .slice va vm vc, .slice fa fm fc, .int .i64 qq]) := Lib.hid (BoxL.new w3 [.int .u8 kk, .string ids, .int .i64 tt, .int .u8 vk, .int .i64 vn, .string vs, .slice va vm vc, .slice fa fm fc, .int .i64 qq] _)
  have HX3 := Lib.hid ((HX2.out.ext hE3).ext HA3.out)
  have HE3 := Lib.hid ((HE2.out.trans hE3).trans HA3.out)
  have HO3 := Lib.hid (hO3.ext HA3.out)
  have HB3 := Lib.hid ((HBo.out.ext (HE12.out.trans hE3)).ext HA3.out)
  clear hyes hE3 hO3
  go_wp2_with fail
  generalize w3.alloc (.cells #[.int .u8 kk, .string ids, .int .i64 tt, .int .u8 vk, .int .i64 vn, .string vs, .slice va vm vc, .slice fa fm fc, .int .i64 qq] 46) = W3 at *
  refine (same_any _ _ _ _ W3 HX3.out (HB.out.ext HE3.out)).mono ?_
  rw [decide_eq_true (show opBy o3 = opBy o3 from rfl)]
  rintro e w4 ⟨rfl, rfl⟩
  have ⟨q0, q1, q2, q3, q4, q5, q6, q7, q8⟩ := HN3.out.nine
  have ⟨p0, p1, p2, p3, p4, p5, p6, p7, p8⟩ := HB3.out.nine
  go_wp2_with fail
  refine (opSame_any o3 o3 W3 _ _ HO3.out.v (HV.out.ext HE3.out)).mono ?_
  rw [eqO_refl]
  rintro e w5 ⟨rfl, hE5⟩
  have HE5 := Lib.hid (HE3.out.trans hE5)
  clear hE5
  go_wp2
  go_ret
  exact ⟨rfl, HE5.out⟩

def exO (k : UInt8) (t : Int) (q : Int) (s : List UInt8) : Opn := ⟨k, s, t, zT, [], q⟩
theorem exO_v (w : World) (k : UInt8) (t q : Int) (s : List UInt8) (ht : isI64 t) (hq : isI64 q) (hs : s.length ≤ 1000) :
    OpV w (exO k t q s) (.agg #[.int .u8 (k.toNat : Int), .string (str s), .int .i64 t, .int .u8 0, .int .i64 0, .string { data := #[] }, .slice none 0 0, .slice none 0 0, .int .i64 q]) :=
  ⟨_, _, _, _, none, 0, 0, rfl, Lies_zT w, Elem.Row.void _ _ _, by show s.length ≤ _; omega, ht, hq⟩
theorem exO_right (k : UInt8) (t q : Int) (s : List UInt8) (h : (oK k && (bif oQ k then decide (0 ≤ q) && decide (q ≤ 400) else decide (q = 0)) && (bif oI k then idB s else decide (s.length = 0)) && (bif oT k then decide (1 ≤ t) else decide (t = 0))) = true) : rightO (exO k t q s) = true := by
  have e1 : fragB [] = true := by decide
  have e2 : rightT zT = true := by simp [zT, rightT, kindsT_node, deepT_node, deepL_nil, partsT_node, partsL_nil, plainB]
  have e3 : eqT zT zT = true := eqT_iff.2 rfl
  unfold rightO exO
  simp only [e1, e2, e3, List.length_nil, decide_true]
  simp only [Bool.and_eq_true] at h ⊢
  obtain ⟨⟨⟨h1, h2⟩, h3⟩, h4⟩ := h
  exact ⟨⟨⟨⟨⟨h1, by cases oF k <;> rfl⟩, h2⟩, h3⟩, h4⟩, by cases oV k <;> rfl⟩
theorem ex1_by : opBy (exO 5 0 0 [120]) = [10, 2, 120] := by decide +kernel
theorem ex2_by : opBy (exO 2 0 0 [120]) = [4, 2, 120] := by decide +kernel
theorem ex3_by : opBy (exO 4 1 0 [120]) = [8, 2, 120, 2] := by decide +kernel
theorem ex4_by : opBy (exO 1 0 3 []) = [2, 0, 6] := by decide +kernel
theorem ex5_by : opBy (exO 3 1 0 [120]) = [6, 2, 120, 2, 0, 0, 0] := by
  show numB _ ++ (_ ++ (_ ++ (bytesT zT ++ _))) = _
  rw [zT, bytesT_node]
  decide +kernel
theorem ex0_bad : rightO (exO 5 1 0 [120]) = false := by
  unfold rightO exO
  have : (bif oT 5 then decide ((1 : Int) ≤ 1) else decide ((1 : Int) = 0)) = false := by decide
  simp only [this, Bool.and_false, Bool.false_and]

set_option maxRecDepth 100000 in
set_option maxHeartbeats 8000000 in
theorem awake10 (w : World) (hT : KTab w) : Calls Tryz.prog 17 #[] w fun e w' => e = .returned (.bool true) ∧ Ext w w' := by
  have HT := Lib.hid hT
  clear hT
  go_enter Tryz.func17, Tryz.ntmps17
  go_wp2_with fail
  refine (opBytes_any (exO 5 1 0 [120]) w _ (exO_v w 5 1 0 [120] (by unfold isI64; omega) (by unfold isI64; omega) (by decide)) HT.out).mono ?_
  rintro e w0 ⟨a0, m0, c0, n0, rfl, hE0, hno, -⟩
  obtain ⟨rfl, rfl⟩ := hno ex0_bad
  have HE0 := Lib.hid hE0
  clear hno hE0
  go_wp2_with fail
  have x1 := (Ext.refl w0).alloc (.cells #[.int .u8 10, .int .u8 2, .int .u8 120] 5)
  refine (says_any (exO 5 0 0 [120]) (exO_right 5 0 0 [120] (by decide)) _ _ (exO_v _ 5 0 0 [120] (by unfold isI64; omega) (by unfold isI64; omega) (by decide)) _ (by rw [ex1_by]; exact bytes_lit w0 [10, 2, 120] 5 (by decide)) (HT.out.ext (HE0.out.trans x1))).mono ?_
  rintro e w1 ⟨rfl, hE1⟩
  have HE1 := Lib.hid ((HE0.out.trans x1).trans hE1)
  clear hE1 x1
  go_wp2_with fail
  have x2 := (Ext.refl w1).alloc (.cells #[.int .u8 4, .int .u8 2, .int .u8 120] 5)
  refine (says_any (exO 2 0 0 [120]) (exO_right 2 0 0 [120] (by decide)) _ _ (exO_v _ 2 0 0 [120] (by unfold isI64; omega) (by unfold isI64; omega) (by decide)) _ (by rw [ex2_by]; exact bytes_lit w1 [4, 2, 120] 5 (by decide)) (HT.out.ext (HE1.out.trans x2))).mono ?_
  rintro e w2 ⟨rfl, hE2⟩
  have HE2 := Lib.hid ((HE1.out.trans x2).trans hE2)
  clear hE2 x2
  go_wp2_with fail
  have x3 := (Ext.refl w2).alloc (.cells #[.int .u8 8, .int .u8 2, .int .u8 120, .int .u8 2] 5)
  refine (says_any (exO 4 1 0 [120]) (exO_right 4 1 0 [120] (by decide)) _ _ (exO_v _ 4 1 0 [120] (by unfold isI64; omega) (by unfold isI64; omega) (by decide)) _ (by rw [ex3_by]; exact bytes_lit w2 [8, 2, 120, 2] 5 (by decide)) (HT.out.ext (HE2.out.trans x3))).mono ?_
  rintro e w3 ⟨rfl, hE3⟩
  have HE3 := Lib.hid ((HE2.out.trans x3).trans hE3)
  clear hE3 x3
  go_wp2_with fail
  have x4 := (Ext.refl w3).alloc (.cells #[.int .u8 2, .int .u8 0, .int .u8 6] 5)
  refine (says_any (exO 1 0 3 []) (exO_right 1 0 3 [] (by decide)) _ _ (exO_v _ 1 0 3 [] (by unfold isI64; omega) (by unfold isI64; omega) (by decide)) _ (by rw [ex4_by]; exact bytes_lit w3 [2, 0, 6] 5 (by decide)) (HT.out.ext (HE3.out.trans x4))).mono ?_
  rintro e w4 ⟨rfl, hE4⟩
  have HE4 := Lib.hid ((HE3.out.trans x4).trans hE4)
  clear hE4 x4
  go_wp2_with fail
  have x5 := (Ext.refl w4).alloc (.cells #[.int .u8 6, .int .u8 2, .int .u8 120, .int .u8 2, .int .u8 0, .int .u8 0, .int .u8 0] 5)
  refine (says_any (exO 3 1 0 [120]) (exO_right 3 1 0 [120] (by decide)) _ _ (exO_v _ 3 1 0 [120] (by unfold isI64; omega) (by unfold isI64; omega) (by decide)) _ (by rw [ex5_by]; exact bytes_lit w4 [6, 2, 120, 2, 0, 0, 0] 5 (by decide)) (HT.out.ext (HE4.out.trans x5))).mono ?_
  rintro e w5 ⟨rfl, hE5⟩
  have HE5 := Lib.hid ((HE4.out.trans x5).trans hE5)
  clear hE5 x5
  go_wp2
  go_ret
  exact ⟨rfl, HE5.out⟩
end Go.Proofs.YtdienbcjfljjnaaGreatDoor
