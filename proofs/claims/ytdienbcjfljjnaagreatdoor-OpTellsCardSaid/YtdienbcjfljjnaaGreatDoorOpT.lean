/- The reference of operations: ID, none, Same, Right, Bytes. -/
import Derived.Test.YtdienbcjfljjnaaGreatDoorOpR0
import Derived.Test.YtdienbcjfljjnaaGreatDoorOpC
import Derived.Test.YtdienbcjfljjnaaGreatDoorRefC
import Derived.Test.YtdienbcjfljjnaaGreatDoorFragD
import Derived.Test.YtdienbcjfljjnaaGreatDoorFragF
import Derived.Test.YtdienbcjfljjnaaGreatDoorFragQ
open Go.RowKit Go.Shelf
namespace Go.Proofs.YtdienbcjfljjnaaGreatDoor
open Go Go.Proofs Fm

set_option maxHeartbeats 2000000 in
theorem rid_any (s : List UInt8) (hs : s.length ≤ 9223372036854775807) (w : World) :
    Calls Tryz.prog 21 #[.string (str s)] w fun e w' => e = .returned (.bool (idB s)) ∧ w = w' := by
  have hss := str_size s
  go_enter Tryz.func21, Tryz.ntmps21
  go_wp2_with fail
  go_loop [3] (fun i => ∃ j : Nat, j ≤ s.length ∧ i = .int .i64 j ∧ Hid ((s.take j).all idC = true)) (fun i => s.length - (intOf i).toNat)
  case atStart => exact ⟨0, by omega, rfl, Lib.hid (by simp)⟩
  case round =>
    obtain ⟨j, hj, rfl, HA⟩ := hrel
    by_cases hlt : j < s.length
    · obtain ⟨x, hx⟩ : ∃ x, x = s[j]?.getD 0 := ⟨_, rfl⟩
      have hxs : x = s[j] := by rw [hx]; simp [hlt]
      have hix := run_index_str (P := Tryz.prog) Tryz.underlying9 s j hlt
      rw [← hx] at hix
      have HI := Lib.hid hxs
      clear hx hxs
      cases hb : idC x with
      | true =>
        have HB := Lib.hid hb
        unfold idC at hb
        simp only [Bool.and_eq_true, decide_eq_true_eq] at hb
        generalize hz : (x.toNat : Int) = z at *
        have z1 : ¬ z < 33 := by omega
        have z2 : ¬ 126 < z := by omega
        clear hb hz
        go_wp2
        go_round
        case rel => exact ⟨j + 1, by omega, by go_num, Lib.hid (all_at hlt HA.out (by rw [← HI.out]; exact HB.out))⟩
        case measure => simp [intOf]; omega
      | false =>
        have HB := Lib.hid (show idB s = false by
          unfold idB; rw [all_not hlt (by rw [← HI.out]; exact hb)]; rfl)
        unfold idC at hb
        simp only [Bool.and_eq_false_iff, decide_eq_false_iff_not] at hb
        generalize hz : (x.toNat : Int) = z at *
        have hz2 : z < 33 ∨ (¬ z < 33 ∧ 126 < z) := by omega
        clear hb hz HA HI
        rcases hz2 with k1 | ⟨k1, k2⟩
        all_goals
          go_wp2
          go_ret
          exact ⟨by rw [HB.out]; rfl, rfl⟩
    · have hjl : j = s.length := by omega
      have HA2 := Lib.hid (show s.all idC = true by have := HA.out; rwa [hjl, List.take_length] at this)
      clear HA
      by_cases h1 : 1 ≤ s.length
      case neg =>
        have HX := Lib.hid (idB_short h1)
        have h1' : ¬ (1 : Int) ≤ (s.length : Int) := by omega
        clear hjl
        go_wp2
        go_ret
        exact ⟨by rw [HX.out]; rfl, rfl⟩
      have h1' : (1 : Int) ≤ (s.length : Int) := by omega
      by_cases h2 : s.length ≤ 400
      case neg =>
        have HX := Lib.hid (idB_long h2)
        have h2' : ¬ (s.length : Int) ≤ 400 := by omega
        clear hjl
        go_wp2
        go_ret
        exact ⟨by rw [HX.out]; rfl, rfl⟩
      have h2' : (s.length : Int) ≤ 400 := by omega
      have HX := Lib.hid ((idB_all h1 h2).trans HA2.out)
      clear hjl
      go_wp2
      go_ret
      exact ⟨by rw [HX.out]; rfl, rfl⟩

theorem none10_any (t : Tr) (w : World) (v : Value) (h : Lies w t v) :
    Calls Tryz.prog 54 #[v] w fun e w' => e = .returned (.bool (eqT t zT)) ∧ Ext w w' := by
  obtain ⟨k, n, s, a, m, c, rfl⟩ : ∃ k n s a m c, v = .agg #[.int .u8 k, .int .i64 n, .string s, .slice a m c] := by
    cases h; exact ⟨_, _, _, _, _, _, rfl⟩
  have HL := Lib.hid h
  clear h
  go_enter Tryz.func54, Tryz.ntmps54
  go_wp2_with fail
  refine (rsame_any t zT _ _ _ (HL.out.ext ((Ext.refl w).alloc _)) (Lies_zT _)).mono ?_
  rintro e w1 ⟨rfl, hE⟩
  go_wp2
  go_ret
  exact ⟨rfl, ((Ext.refl w).alloc _).trans hE⟩

set_option maxRecDepth 100000 in
set_option maxHeartbeats 8000000 in
theorem rOpSame_any (o p : Opn) (w : World) (v x : Value) (hv : OpV w o v) (hx : OpV w p x) :
    Calls Tryz.prog 24 #[v, x] w fun e w' => e = .returned (.bool (eqO o p)) ∧ Ext w w' := by
  obtain ⟨k, n, s, d, a, m, c, rfl, hl, hr, hi, ht, hq⟩ := hv
  obtain ⟨k', n', s', d', a', m', c', rfl, hl', hr', hi', ht', hq'⟩ := hx
  obtain ⟨K, hK⟩ : ∃ K : Int, K = (o.what.toNat : Int) := ⟨_, rfl⟩
  obtain ⟨K', hK'⟩ : ∃ K' : Int, K' = (p.what.toNat : Int) := ⟨_, rfl⟩
  have hX : eqO o p = ((K == K') && ((str o.id).toList == (str p.id).toList) && (o.tok == p.tok) && eqT o.val p.val && eqF o.frg p.frg && (o.quo == p.quo)) := by
    have e1 : (o.tok == p.tok) = decide (o.tok = p.tok) := by rw [Bool.eq_iff_iff]; simp
    have e2 : (o.quo == p.quo) = decide (o.quo = p.quo) := by rw [Bool.eq_iff_iff]; simp
    rw [eqO_all, hK, hK', u8_eq, str_beq, e1, e2]
    ac_rfl
  rw [← hK, ← hK']
  have HL := Lib.hid hl
  have HR := Lib.hid hr
  have HL' := Lib.hid hl'
  have HR' := Lib.hid hr'
  clear hl hr hl' hr' hK hK' hi hi' ht ht' hq hq'
  obtain ⟨I, hI⟩ : ∃ I, I = str o.id := ⟨_, rfl⟩
  obtain ⟨I', hI'⟩ : ∃ I', I' = str p.id := ⟨_, rfl⟩
  obtain ⟨T, hT⟩ : ∃ T, T = o.tok := ⟨_, rfl⟩
  obtain ⟨T', hT'⟩ : ∃ T', T' = p.tok := ⟨_, rfl⟩
  obtain ⟨Q, hQ⟩ : ∃ Q, Q = o.quo := ⟨_, rfl⟩
  obtain ⟨Q', hQ'⟩ : ∃ Q', Q' = p.quo := ⟨_, rfl⟩
  rw [← hI, ← hI', ← hT, ← hT', ← hQ, ← hQ'] at hX ⊢
  have HX := Lib.hid hX
  clear hX hI hI' hT hT' hQ hQ'
  have h1 := (BoxL.new w [.int .u8 K, .string I, .int .i64 T, k, n, s, d, .slice a m c, .int .i64 Q] 46).ext ((Ext.refl _).alloc (.cells #[.int .u8 K', .string I', .int .i64 T', k', n', s', d', .slice a' m' c', .int .i64 Q'] 46))
  have h2 := BoxL.new (w.alloc (.cells #[.int .u8 K, .string I, .int .i64 T, k, n, s, d, .slice a m c, .int .i64 Q] 46)) [.int .u8 K', .string I', .int .i64 T', k', n', s', d', .slice a' m' c', .int .i64 Q'] 46
  have hz : (w.alloc (.cells #[.int .u8 K, .string I, .int .i64 T, k, n, s, d, .slice a m c, .int .i64 Q] 46)).heap.size = w.heap.size + 1 := by simp
  rw [hz] at h2
  have hE := ((Ext.refl w).alloc (.cells #[.int .u8 K, .string I, .int .i64 T, k, n, s, d, .slice a m c, .int .i64 Q] 46)).alloc (.cells #[.int .u8 K', .string I', .int .i64 T', k', n', s', d', .slice a' m' c', .int .i64 Q'] 46)
  clear hz
  go_enter Tryz.func24, Tryz.ntmps24
  go_upto_region 1 with (fail)
  have H1 := Lib.hid h1
  have H2 := Lib.hid h2
  have HE := Lib.hid hE
  clear h1 h2 hE
  generalize (w.alloc _).alloc _ = W1 at *
  have ⟨p0, p1, p2, p3, p4, p5, p6, p7, p8⟩ := H1.out.nine
  have ⟨q0, q1, q2, q3, q4, q5, q6, q7, q8⟩ := H2.out.nine
  cases b1 : (K == K') with
  | false =>
    have HB := Lib.hid (by rw [HX.out, b1]; simp : eqO o p = false)
    go_wp2
    go_ret
    exact ⟨by rw [HB.out]; rfl, HE.out⟩
  | true =>
  cases b2 : (I.toList == I'.toList) with
  | false =>
    have HB := Lib.hid (by rw [HX.out, b1, b2]; simp : eqO o p = false)
    go_wp2
    go_ret
    exact ⟨by rw [HB.out]; rfl, HE.out⟩
  | true =>
  cases b3 : (T == T') with
  | false =>
    have HB := Lib.hid (by rw [HX.out, b1, b2, b3]; simp : eqO o p = false)
    go_wp2
    go_ret
    exact ⟨by rw [HB.out]; rfl, HE.out⟩
  | true =>
    have HB : Hid (eqO o p = (eqT o.val p.val && eqF o.frg p.frg && (Q == Q'))) := Lib.hid (by rw [HX.out, b1, b2, b3]; rfl)
    clear HX
    go_wp2_with fail
    refine (rsame_any o.val p.val W1 _ _ (HL.out.ext HE.out) (HL'.out.ext HE.out)).mono ?_
    rintro e w2 ⟨rfl, hE2⟩
    have H12 := Lib.hid (H1.out.ext hE2)
    have H22 := Lib.hid (H2.out.ext hE2)
    have HE2 := Lib.hid (HE.out.trans hE2)
    clear hE2 p0 p1 p2 p3 p4 p5 p6 p7 p8 q0 q1 q2 q3 q4 q5 q6 q7 q8
    cases b5 : eqT o.val p.val with
    | false =>
      have HB2 := Lib.hid (by rw [HB.out, b5]; rfl : eqO o p = false)
      clear b5
      go_wp2
      go_ret
      exact ⟨by rw [HB2.out]; rfl, HE2.out⟩
    | true =>
      have HB2 := Lib.hid (by rw [HB.out, b5, Bool.true_and] : eqO o p = (eqF o.frg p.frg && (Q == Q')))
      clear b5
      have ⟨p0, p1, p2, p3, p4, p5, p6, p7, p8⟩ := H12.out.nine
      have ⟨q0, q1, q2, q3, q4, q5, q6, q7, q8⟩ := H22.out.nine
      go_wp2_with fail
      refine (rfSame_any o.frg p.frg w2 _ _ (HR.out.ext HE2.out) (HR'.out.ext HE2.out)).mono ?_
      rintro e w3 ⟨rfl, hE3⟩
      have H13 := Lib.hid (H12.out.ext hE3)
      have H23 := Lib.hid (H22.out.ext hE3)
      have HE3 := Lib.hid (HE2.out.trans hE3)
      clear hE3 p0 p1 p2 p3 p4 p5 p6 p7 p8 q0 q1 q2 q3 q4 q5 q6 q7 q8
      cases b6 : eqF o.frg p.frg with
      | false =>
        have HB3 := Lib.hid (by rw [HB2.out, b6]; rfl : eqO o p = false)
        clear b6
        go_wp2
        go_ret
        exact ⟨by rw [HB3.out]; rfl, HE3.out⟩
      | true =>
        have HB3 := Lib.hid (by rw [HB2.out, b6, Bool.true_and] : eqO o p = (Q == Q'))
        clear b6
        have ⟨p0, p1, p2, p3, p4, p5, p6, p7, p8⟩ := H13.out.nine
        have ⟨q0, q1, q2, q3, q4, q5, q6, q7, q8⟩ := H23.out.nine
        go_wp2
        go_ret
        exact ⟨by rw [HB3.out]; rfl, HE3.out⟩

set_option maxRecDepth 100000 in
set_option maxHeartbeats 8000000 in
theorem rOpRight_0 (o : Opn) (hk : oK o.what = false) (hp : partsT o.val ≤ 1000000) (hd : deepT o.val ≤ 1000000) (w : World) (v : Value) (hv : OpV w o v) :
    Calls Tryz.prog 18 #[v] w fun e w' => e = .returned (.bool (rightO o)) ∧ Ext w w' := by
  obtain ⟨k, n, s, d, a, m, c, rfl, hl, hr, hi, ht, hq⟩ := hv
  have hm : m = o.frg.length := by
    obtain ⟨_, _, e, _⟩ := hr.slice
    injection e
  have HM := Lib.hid hm
  have HL := Lib.hid hl
  have HR := Lib.hid hr
  have hss := str_size o.id
  have e1 : ((m : Int) == 0) = decide (o.frg.length = 0) := by rw [HM.out, Bool.eq_iff_iff]; simp
  have e2 : (!(o.quo != 0)) = decide (o.quo = 0) := by rw [Bool.eq_iff_iff]; simp
  have e3 : (str o.id).toList.isEmpty = decide (o.id.length = 0) := by rw [str_toList, Bool.eq_iff_iff]; simp
  have e4 : (o.tok == 0) = decide (o.tok = 0) := by rw [Bool.eq_iff_iff]; simp
  have HX : Hid (rightO o = false) := Lib.hid (by unfold rightO; rw [hk]; rfl)
  simp only [oK, Bool.and_eq_false_iff, decide_eq_false_iff_not] at hk
  obtain ⟨KK, hKK⟩ : ∃ KK : Int, KK = (o.what.toNat : Int) := ⟨_, rfl⟩
  rw [← hKK]
  have hk2 : KK < 1 ∨ (¬ KK < 1 ∧ 5 < KK) := by omega
  clear hl hr hm hk e1 e2 e3 e4 ht hq hKK
  have hB := BoxL.new w [.int .u8 KK, .string (str o.id), .int .i64 o.tok, k, n, s, d, .slice a m c, .int .i64 o.quo] 46
  have hE := (Ext.refl w).alloc (.cells #[.int .u8 KK, .string (str o.id), .int .i64 o.tok, k, n, s, d, .slice a m c, .int .i64 o.quo] 46)
  go_enter Tryz.func18, Tryz.ntmps18
  go_upto_region 1 with (fail)
  have HB := Lib.hid hB
  have HE := Lib.hid hE
  clear hB hE
  generalize w.alloc (.cells #[.int .u8 KK, .string (str o.id), .int .i64 o.tok, k, n, s, d, .slice a m c, .int .i64 o.quo] 46) = W1 at *
  have ⟨p0, p1, p2, p3, p4, p5, p6, p7, p8⟩ := HB.out.nine
  rcases hk2 with k1 | ⟨k1, k2⟩
  all_goals
    go_wp2
    go_ret
    exact ⟨by rw [HX.out]; rfl, HE.out⟩

set_option maxRecDepth 100000 in
set_option maxHeartbeats 8000000 in
theorem rOpRight_1 (o : Opn) (hk : o.what = 1) (hp : partsT o.val ≤ 1000000) (hd : deepT o.val ≤ 1000000) (w : World) (v : Value) (hv : OpV w o v) :
    Calls Tryz.prog 18 #[v] w fun e w' => e = .returned (.bool (rightO o)) ∧ Ext w w' := by
  obtain ⟨k, n, s, d, a, m, c, rfl, hl, hr, hi, ht, hq⟩ := hv
  have hm : m = o.frg.length := by
    obtain ⟨_, _, e, _⟩ := hr.slice
    injection e
  have HM := Lib.hid hm
  have HL := Lib.hid hl
  have HR := Lib.hid hr
  have hss := str_size o.id
  have e1 : ((m : Int) == 0) = decide (o.frg.length = 0) := by rw [HM.out, Bool.eq_iff_iff]; simp
  have e2 : (!(o.quo != 0)) = decide (o.quo = 0) := by rw [Bool.eq_iff_iff]; simp
  have e3 : (str o.id).toList.isEmpty = decide (o.id.length = 0) := by rw [str_toList, Bool.eq_iff_iff]; simp
  have e4 : (o.tok == 0) = decide (o.tok = 0) := by rw [Bool.eq_iff_iff]; simp
  have HX : Hid (rightO o = (fragB o.frg && decide (0 ≤ o.quo) && decide (o.quo ≤ 400) && (str o.id).toList.isEmpty && (o.tok == 0) && eqT o.val zT)) := Lib.hid (by
    try rw [e1]
    try rw [e2]
    try rw [e3]
    try rw [e4]
    unfold rightO; rw [hk]; simp only [show oF 1 = true from by decide, show oQ 1 = true from by decide, show oI 1 = false from by decide, show oT 1 = false from by decide, show oV 1 = false from by decide, show oK 1 = true from by decide, cond_true, cond_false]
    generalize fragB o.frg = x1; generalize decide (0 ≤ o.quo) = x2; generalize decide (o.quo ≤ 400) = x3; generalize decide (o.id.length = 0) = x4; generalize decide (o.tok = 0) = x5; generalize eqT o.val zT = x6; generalize idB o.id = x7; generalize decide (o.quo = 0) = x8; generalize decide (1 ≤ o.tok) = x9; generalize rightT o.val = x10; generalize decide (o.frg.length = 0) = x11
    first | (simp only [Bool.true_and]; ac_rfl) | (revert x1 x2 x3 x4 x5 x6 x7 x8 x9 x10 x11; decide))
  rw [hk]
  clear hl hr hm hk e1 e2 e3 e4 ht hq
  rw [show (((1 : UInt8).toNat : Nat) : Int) = 1 from rfl]
  have hB := BoxL.new w [.int .u8 1, .string (str o.id), .int .i64 o.tok, k, n, s, d, .slice a m c, .int .i64 o.quo] 46
  have hE := (Ext.refl w).alloc (.cells #[.int .u8 1, .string (str o.id), .int .i64 o.tok, k, n, s, d, .slice a m c, .int .i64 o.quo] 46)
  go_enter Tryz.func18, Tryz.ntmps18
  go_upto_region 1 with (fail)
  have HB := Lib.hid hB
  have HE := Lib.hid hE
  clear hB hE
  generalize w.alloc (.cells #[.int .u8 1, .string (str o.id), .int .i64 o.tok, k, n, s, d, .slice a m c, .int .i64 o.quo] 46) = W1 at *
  have ⟨p0, p1, p2, p3, p4, p5, p6, p7, p8⟩ := HB.out.nine
  go_wp2_with fail
  refine (rfright_any o.frg W1 _ (HR.out.ext HE.out)).mono ?_
  rintro e w2 ⟨rfl, hE⟩
  have B2 := Lib.hid (HB.out.ext hE)
  have E2 := Lib.hid (HE.out.trans hE)
  clear hE HB HE p0 p1 p2 p3 p4 p5 p6 p7 p8
  have ⟨p0, p1, p2, p3, p4, p5, p6, p7, p8⟩ := B2.out.nine
  cases c0 : (fragB o.frg) with
  | false =>
    have X0 := Lib.hid (by rw [HX.out, c0]; simp : rightO o = false)
    clear c0
    go_wp2
    go_ret
    exact ⟨by rw [X0.out]; rfl, E2.out⟩
  | true =>
  have X0 : Hid (rightO o = (decide (0 ≤ o.quo) && decide (o.quo ≤ 400) && (str o.id).toList.isEmpty && (o.tok == 0) && eqT o.val zT)) := Lib.hid (by rw [HX.out, c0]; simp)
  clear HX c0
  by_cases c1 : 0 ≤ o.quo
  case neg =>
    have X1 := Lib.hid (by rw [X0.out, decide_eq_false c1]; simp : rightO o = false)
    go_wp2
    go_ret
    exact ⟨by rw [X1.out]; rfl, E2.out⟩
  have X1 : Hid (rightO o = (decide (o.quo ≤ 400) && (str o.id).toList.isEmpty && (o.tok == 0) && eqT o.val zT)) := Lib.hid (by rw [X0.out, decide_eq_true c1]; simp)
  clear X0
  by_cases c2 : o.quo ≤ 400
  case neg =>
    have X2 := Lib.hid (by rw [X1.out, decide_eq_false c2]; simp : rightO o = false)
    go_wp2
    go_ret
    exact ⟨by rw [X2.out]; rfl, E2.out⟩
  have X2 : Hid (rightO o = ((str o.id).toList.isEmpty && (o.tok == 0) && eqT o.val zT)) := Lib.hid (by rw [X1.out, decide_eq_true c2]; simp)
  clear X1
  cases c3 : ((str o.id).toList.isEmpty) with
  | false =>
    have X3 := Lib.hid (by rw [X2.out, c3]; simp : rightO o = false)
    go_wp2
    go_ret
    exact ⟨by rw [X3.out]; rfl, E2.out⟩
  | true =>
  have X3 : Hid (rightO o = ((o.tok == 0) && eqT o.val zT)) := Lib.hid (by rw [X2.out, c3]; simp)
  clear X2
  cases c4 : ((o.tok == 0)) with
  | false =>
    have X4 := Lib.hid (by rw [X3.out, c4]; simp : rightO o = false)
    go_wp2
    go_ret
    exact ⟨by rw [X4.out]; rfl, E2.out⟩
  | true =>
  have X4 : Hid (rightO o = (eqT o.val zT)) := Lib.hid (by rw [X3.out, c4]; simp)
  clear X3
  go_wp2_with fail
  refine (none10_any o.val w2 _ (HL.out.ext E2.out)).mono ?_
  rintro e w3 ⟨rfl, hE⟩
  have B3 := Lib.hid (B2.out.ext hE)
  have E3 := Lib.hid (E2.out.trans hE)
  clear hE B2 E2 p0 p1 p2 p3 p4 p5 p6 p7 p8
  have ⟨p0, p1, p2, p3, p4, p5, p6, p7, p8⟩ := B3.out.nine
  go_wp2
  go_ret
  exact ⟨by rw [X4.out]; rfl, E3.out⟩

set_option maxRecDepth 100000 in
set_option maxHeartbeats 8000000 in
theorem rOpRight_2 (o : Opn) (hk : o.what = 2) (hp : partsT o.val ≤ 1000000) (hd : deepT o.val ≤ 1000000) (w : World) (v : Value) (hv : OpV w o v) :
    Calls Tryz.prog 18 #[v] w fun e w' => e = .returned (.bool (rightO o)) ∧ Ext w w' := by
  obtain ⟨k, n, s, d, a, m, c, rfl, hl, hr, hi, ht, hq⟩ := hv
  have hm : m = o.frg.length := by
    obtain ⟨_, _, e, _⟩ := hr.slice
    injection e
  have HM := Lib.hid hm
  have HL := Lib.hid hl
  have HR := Lib.hid hr
  have hss := str_size o.id
  have e1 : ((m : Int) == 0) = decide (o.frg.length = 0) := by rw [HM.out, Bool.eq_iff_iff]; simp
  have e2 : (!(o.quo != 0)) = decide (o.quo = 0) := by rw [Bool.eq_iff_iff]; simp
  have e3 : (str o.id).toList.isEmpty = decide (o.id.length = 0) := by rw [str_toList, Bool.eq_iff_iff]; simp
  have e4 : (o.tok == 0) = decide (o.tok = 0) := by rw [Bool.eq_iff_iff]; simp
  have HX : Hid (rightO o = (idB o.id && (!(o.quo != 0)) && (o.tok == 0) && eqT o.val zT && ((m : Int) == 0))) := Lib.hid (by
    try rw [e1]
    try rw [e2]
    try rw [e3]
    try rw [e4]
    unfold rightO; rw [hk]; simp only [show oF 2 = false from by decide, show oQ 2 = false from by decide, show oI 2 = true from by decide, show oT 2 = false from by decide, show oV 2 = false from by decide, show oK 2 = true from by decide, cond_true, cond_false]
    generalize fragB o.frg = x1; generalize decide (0 ≤ o.quo) = x2; generalize decide (o.quo ≤ 400) = x3; generalize decide (o.id.length = 0) = x4; generalize decide (o.tok = 0) = x5; generalize eqT o.val zT = x6; generalize idB o.id = x7; generalize decide (o.quo = 0) = x8; generalize decide (1 ≤ o.tok) = x9; generalize rightT o.val = x10; generalize decide (o.frg.length = 0) = x11
    first | (simp only [Bool.true_and]; ac_rfl) | (revert x1 x2 x3 x4 x5 x6 x7 x8 x9 x10 x11; decide))
  rw [hk]
  clear hl hr hm hk e1 e2 e3 e4 ht hq
  rw [show (((2 : UInt8).toNat : Nat) : Int) = 2 from rfl]
  have hB := BoxL.new w [.int .u8 2, .string (str o.id), .int .i64 o.tok, k, n, s, d, .slice a m c, .int .i64 o.quo] 46
  have hE := (Ext.refl w).alloc (.cells #[.int .u8 2, .string (str o.id), .int .i64 o.tok, k, n, s, d, .slice a m c, .int .i64 o.quo] 46)
  go_enter Tryz.func18, Tryz.ntmps18
  go_upto_region 1 with (fail)
  have HB := Lib.hid hB
  have HE := Lib.hid hE
  clear hB hE
  generalize w.alloc (.cells #[.int .u8 2, .string (str o.id), .int .i64 o.tok, k, n, s, d, .slice a m c, .int .i64 o.quo] 46) = W1 at *
  have ⟨p0, p1, p2, p3, p4, p5, p6, p7, p8⟩ := HB.out.nine
  go_wp2_with fail
  refine (rid_any o.id hi W1).mono ?_
  rintro e wq ⟨rfl, rfl⟩
  cases c0 : (idB o.id) with
  | false =>
    have X0 := Lib.hid (by rw [HX.out, c0]; simp : rightO o = false)
    clear c0
    go_wp2
    go_ret
    exact ⟨by rw [X0.out]; rfl, HE.out⟩
  | true =>
  have X0 : Hid (rightO o = ((!(o.quo != 0)) && (o.tok == 0) && eqT o.val zT && ((m : Int) == 0))) := Lib.hid (by rw [HX.out, c0]; simp)
  clear HX c0
  cases c1 : (o.quo != 0) with
  | true =>
    have X1 := Lib.hid (by rw [X0.out, c1]; simp : rightO o = false)
    go_wp2
    go_ret
    exact ⟨by rw [X1.out]; rfl, HE.out⟩
  | false =>
  have X1 : Hid (rightO o = ((o.tok == 0) && eqT o.val zT && ((m : Int) == 0))) := Lib.hid (by rw [X0.out, c1]; simp)
  clear X0
  cases c2 : ((o.tok == 0)) with
  | false =>
    have X2 := Lib.hid (by rw [X1.out, c2]; simp : rightO o = false)
    go_wp2
    go_ret
    exact ⟨by rw [X2.out]; rfl, HE.out⟩
  | true =>
  have X2 : Hid (rightO o = (eqT o.val zT && ((m : Int) == 0))) := Lib.hid (by rw [X1.out, c2]; simp)
  clear X1
  go_wp2_with fail
  refine (none10_any o.val W1 _ (HL.out.ext HE.out)).mono ?_
  rintro e w3 ⟨rfl, hE⟩
  have B3 := Lib.hid (HB.out.ext hE)
  have E3 := Lib.hid (HE.out.trans hE)
  clear hE HB HE p0 p1 p2 p3 p4 p5 p6 p7 p8
  have ⟨p0, p1, p2, p3, p4, p5, p6, p7, p8⟩ := B3.out.nine
  cases c3 : (eqT o.val zT) with
  | false =>
    have X3 := Lib.hid (by rw [X2.out, c3]; simp : rightO o = false)
    clear c3
    go_wp2
    go_ret
    exact ⟨by rw [X3.out]; rfl, E3.out⟩
  | true =>
  have X3 : Hid (rightO o = (((m : Int) == 0))) := Lib.hid (by rw [X2.out, c3]; simp)
  clear X2 c3
  go_wp2
  go_ret
  exact ⟨by rw [X3.out]; rfl, E3.out⟩

set_option maxRecDepth 100000 in
set_option maxHeartbeats 8000000 in
theorem rOpRight_3 (o : Opn) (hk : o.what = 3) (hp : partsT o.val ≤ 1000000) (hd : deepT o.val ≤ 1000000) (w : World) (v : Value) (hv : OpV w o v) :
    Calls Tryz.prog 18 #[v] w fun e w' => e = .returned (.bool (rightO o)) ∧ Ext w w' := by
  obtain ⟨k, n, s, d, a, m, c, rfl, hl, hr, hi, ht, hq⟩ := hv
  have hm : m = o.frg.length := by
    obtain ⟨_, _, e, _⟩ := hr.slice
    injection e
  have HM := Lib.hid hm
  have HL := Lib.hid hl
  have HR := Lib.hid hr
  have hss := str_size o.id
  have e1 : ((m : Int) == 0) = decide (o.frg.length = 0) := by rw [HM.out, Bool.eq_iff_iff]; simp
  have e2 : (!(o.quo != 0)) = decide (o.quo = 0) := by rw [Bool.eq_iff_iff]; simp
  have e3 : (str o.id).toList.isEmpty = decide (o.id.length = 0) := by rw [str_toList, Bool.eq_iff_iff]; simp
  have e4 : (o.tok == 0) = decide (o.tok = 0) := by rw [Bool.eq_iff_iff]; simp
  have HX : Hid (rightO o = (idB o.id && (!(o.quo != 0)) && decide (1 ≤ o.tok) && rightT o.val && fragB o.frg)) := Lib.hid (by
    try rw [e1]
    try rw [e2]
    try rw [e3]
    try rw [e4]
    unfold rightO; rw [hk]; simp only [show oF 3 = true from by decide, show oQ 3 = false from by decide, show oI 3 = true from by decide, show oT 3 = true from by decide, show oV 3 = true from by decide, show oK 3 = true from by decide, cond_true, cond_false]
    generalize fragB o.frg = x1; generalize decide (0 ≤ o.quo) = x2; generalize decide (o.quo ≤ 400) = x3; generalize decide (o.id.length = 0) = x4; generalize decide (o.tok = 0) = x5; generalize eqT o.val zT = x6; generalize idB o.id = x7; generalize decide (o.quo = 0) = x8; generalize decide (1 ≤ o.tok) = x9; generalize rightT o.val = x10; generalize decide (o.frg.length = 0) = x11
    first | (simp only [Bool.true_and]; ac_rfl) | (revert x1 x2 x3 x4 x5 x6 x7 x8 x9 x10 x11; decide))
  rw [hk]
  clear hl hr hm hk e1 e2 e3 e4 ht hq
  rw [show (((3 : UInt8).toNat : Nat) : Int) = 3 from rfl]
  have hB := BoxL.new w [.int .u8 3, .string (str o.id), .int .i64 o.tok, k, n, s, d, .slice a m c, .int .i64 o.quo] 46
  have hE := (Ext.refl w).alloc (.cells #[.int .u8 3, .string (str o.id), .int .i64 o.tok, k, n, s, d, .slice a m c, .int .i64 o.quo] 46)
  go_enter Tryz.func18, Tryz.ntmps18
  go_upto_region 1 with (fail)
  have HB := Lib.hid hB
  have HE := Lib.hid hE
  clear hB hE
  generalize w.alloc (.cells #[.int .u8 3, .string (str o.id), .int .i64 o.tok, k, n, s, d, .slice a m c, .int .i64 o.quo] 46) = W1 at *
  have ⟨p0, p1, p2, p3, p4, p5, p6, p7, p8⟩ := HB.out.nine
  go_wp2_with fail
  refine (rid_any o.id hi W1).mono ?_
  rintro e wq ⟨rfl, rfl⟩
  cases c0 : (idB o.id) with
  | false =>
    have X0 := Lib.hid (by rw [HX.out, c0]; simp : rightO o = false)
    clear c0
    go_wp2
    go_ret
    exact ⟨by rw [X0.out]; rfl, HE.out⟩
  | true =>
  have X0 : Hid (rightO o = ((!(o.quo != 0)) && decide (1 ≤ o.tok) && rightT o.val && fragB o.frg)) := Lib.hid (by rw [HX.out, c0]; simp)
  clear HX c0
  cases c1 : (o.quo != 0) with
  | true =>
    have X1 := Lib.hid (by rw [X0.out, c1]; simp : rightO o = false)
    go_wp2
    go_ret
    exact ⟨by rw [X1.out]; rfl, HE.out⟩
  | false =>
  have X1 : Hid (rightO o = (decide (1 ≤ o.tok) && rightT o.val && fragB o.frg)) := Lib.hid (by rw [X0.out, c1]; simp)
  clear X0
  by_cases c2 : 1 ≤ o.tok
  case neg =>
    have X2 := Lib.hid (by rw [X1.out, decide_eq_false c2]; simp : rightO o = false)
    go_wp2
    go_ret
    exact ⟨by rw [X2.out]; rfl, HE.out⟩
  have X2 : Hid (rightO o = (rightT o.val && fragB o.frg)) := Lib.hid (by rw [X1.out, decide_eq_true c2]; simp)
  clear X1
  go_wp2_with fail
  refine (rright_any o.val W1 _ (HL.out.ext HE.out) hp hd).mono ?_
  rintro e w3 ⟨rfl, hE⟩
  have B3 := Lib.hid (HB.out.ext hE)
  have E3 := Lib.hid (HE.out.trans hE)
  clear hE HB HE p0 p1 p2 p3 p4 p5 p6 p7 p8
  have ⟨p0, p1, p2, p3, p4, p5, p6, p7, p8⟩ := B3.out.nine
  cases c3 : (rightT o.val) with
  | false =>
    have X3 := Lib.hid (by rw [X2.out, c3]; simp : rightO o = false)
    clear c3
    go_wp2
    go_ret
    exact ⟨by rw [X3.out]; rfl, E3.out⟩
  | true =>
  have X3 : Hid (rightO o = (fragB o.frg)) := Lib.hid (by rw [X2.out, c3]; simp)
  clear X2 c3
  go_wp2_with fail
  refine (rfright_any o.frg w3 _ (HR.out.ext E3.out)).mono ?_
  rintro e w4 ⟨rfl, hE⟩
  have B4 := Lib.hid (B3.out.ext hE)
  have E4 := Lib.hid (E3.out.trans hE)
  clear hE B3 E3 p0 p1 p2 p3 p4 p5 p6 p7 p8
  have ⟨p0, p1, p2, p3, p4, p5, p6, p7, p8⟩ := B4.out.nine
  go_wp2
  go_ret
  exact ⟨by rw [X3.out]; rfl, E4.out⟩

set_option maxRecDepth 100000 in
set_option maxHeartbeats 8000000 in
theorem rOpRight_4 (o : Opn) (hk : o.what = 4) (hp : partsT o.val ≤ 1000000) (hd : deepT o.val ≤ 1000000) (w : World) (v : Value) (hv : OpV w o v) :
    Calls Tryz.prog 18 #[v] w fun e w' => e = .returned (.bool (rightO o)) ∧ Ext w w' := by
  obtain ⟨k, n, s, d, a, m, c, rfl, hl, hr, hi, ht, hq⟩ := hv
  have hm : m = o.frg.length := by
    obtain ⟨_, _, e, _⟩ := hr.slice
    injection e
  have HM := Lib.hid hm
  have HL := Lib.hid hl
  have HR := Lib.hid hr
  have hss := str_size o.id
  have e1 : ((m : Int) == 0) = decide (o.frg.length = 0) := by rw [HM.out, Bool.eq_iff_iff]; simp
  have e2 : (!(o.quo != 0)) = decide (o.quo = 0) := by rw [Bool.eq_iff_iff]; simp
  have e3 : (str o.id).toList.isEmpty = decide (o.id.length = 0) := by rw [str_toList, Bool.eq_iff_iff]; simp
  have e4 : (o.tok == 0) = decide (o.tok = 0) := by rw [Bool.eq_iff_iff]; simp
  have HX : Hid (rightO o = (idB o.id && (!(o.quo != 0)) && decide (1 ≤ o.tok) && eqT o.val zT && ((m : Int) == 0))) := Lib.hid (by
    try rw [e1]
    try rw [e2]
    try rw [e3]
    try rw [e4]
    unfold rightO; rw [hk]; simp only [show oF 4 = false from by decide, show oQ 4 = false from by decide, show oI 4 = true from by decide, show oT 4 = true from by decide, show oV 4 = false from by decide, show oK 4 = true from by decide, cond_true, cond_false]
    generalize fragB o.frg = x1; generalize decide (0 ≤ o.quo) = x2; generalize decide (o.quo ≤ 400) = x3; generalize decide (o.id.length = 0) = x4; generalize decide (o.tok = 0) = x5; generalize eqT o.val zT = x6; generalize idB o.id = x7; generalize decide (o.quo = 0) = x8; generalize decide (1 ≤ o.tok) = x9; generalize rightT o.val = x10; generalize decide (o.frg.length = 0) = x11
    first | (simp only [Bool.true_and]; ac_rfl) | (revert x1 x2 x3 x4 x5 x6 x7 x8 x9 x10 x11; decide))
  rw [hk]
  clear hl hr hm hk e1 e2 e3 e4 ht hq
  rw [show (((4 : UInt8).toNat : Nat) : Int) = 4 from rfl]
  have hB := BoxL.new w [.int .u8 4, .string (str o.id), .int .i64 o.tok, k, n, s, d, .slice a m c, .int .i64 o.quo] 46
  have hE := (Ext.refl w).alloc (.cells #[.int .u8 4, .string (str o.id), .int .i64 o.tok, k, n, s, d, .slice a m c, .int .i64 o.quo] 46)
  go_enter Tryz.func18, Tryz.ntmps18
  go_upto_region 1 with (fail)
  have HB := Lib.hid hB
  have HE := Lib.hid hE
  clear hB hE
  generalize w.alloc (.cells #[.int .u8 4, .string (str o.id), .int .i64 o.tok, k, n, s, d, .slice a m c, .int .i64 o.quo] 46) = W1 at *
  have ⟨p0, p1, p2, p3, p4, p5, p6, p7, p8⟩ := HB.out.nine
  go_wp2_with fail
  refine (rid_any o.id hi W1).mono ?_
  rintro e wq ⟨rfl, rfl⟩
  cases c0 : (idB o.id) with
  | false =>
    have X0 := Lib.hid (by rw [HX.out, c0]; simp : rightO o = false)
    clear c0
    go_wp2
    go_ret
    exact ⟨by rw [X0.out]; rfl, HE.out⟩
  | true =>
  have X0 : Hid (rightO o = ((!(o.quo != 0)) && decide (1 ≤ o.tok) && eqT o.val zT && ((m : Int) == 0))) := Lib.hid (by rw [HX.out, c0]; simp)
  clear HX c0
  cases c1 : (o.quo != 0) with
  | true =>
    have X1 := Lib.hid (by rw [X0.out, c1]; simp : rightO o = false)
    go_wp2
    go_ret
    exact ⟨by rw [X1.out]; rfl, HE.out⟩
  | false =>
  have X1 : Hid (rightO o = (decide (1 ≤ o.tok) && eqT o.val zT && ((m : Int) == 0))) := Lib.hid (by rw [X0.out, c1]; simp)
  clear X0
  by_cases c2 : 1 ≤ o.tok
  case neg =>
    have X2 := Lib.hid (by rw [X1.out, decide_eq_false c2]; simp : rightO o = false)
    go_wp2
    go_ret
    exact ⟨by rw [X2.out]; rfl, HE.out⟩
  have X2 : Hid (rightO o = (eqT o.val zT && ((m : Int) == 0))) := Lib.hid (by rw [X1.out, decide_eq_true c2]; simp)
  clear X1
  go_wp2_with fail
  refine (none10_any o.val W1 _ (HL.out.ext HE.out)).mono ?_
  rintro e w3 ⟨rfl, hE⟩
  have B3 := Lib.hid (HB.out.ext hE)
  have E3 := Lib.hid (HE.out.trans hE)
  clear hE HB HE p0 p1 p2 p3 p4 p5 p6 p7 p8
  have ⟨p0, p1, p2, p3, p4, p5, p6, p7, p8⟩ := B3.out.nine
  cases c3 : (eqT o.val zT) with
  | false =>
    have X3 := Lib.hid (by rw [X2.out, c3]; simp : rightO o = false)
    clear c3
    go_wp2
    go_ret
    exact ⟨by rw [X3.out]; rfl, E3.out⟩
  | true =>
  have X3 : Hid (rightO o = (((m : Int) == 0))) := Lib.hid (by rw [X2.out, c3]; simp)
  clear X2 c3
  go_wp2
  go_ret
  exact ⟨by rw [X3.out]; rfl, E3.out⟩

set_option maxRecDepth 100000 in
set_option maxHeartbeats 8000000 in
theorem rOpRight_5 (o : Opn) (hk : o.what = 5) (hp : partsT o.val ≤ 1000000) (hd : deepT o.val ≤ 1000000) (w : World) (v : Value) (hv : OpV w o v) :
    Calls Tryz.prog 18 #[v] w fun e w' => e = .returned (.bool (rightO o)) ∧ Ext w w' := by
  obtain ⟨k, n, s, d, a, m, c, rfl, hl, hr, hi, ht, hq⟩ := hv
  have hm : m = o.frg.length := by
    obtain ⟨_, _, e, _⟩ := hr.slice
    injection e
  have HM := Lib.hid hm
  have HL := Lib.hid hl
  have HR := Lib.hid hr
  have hss := str_size o.id
  have e1 : ((m : Int) == 0) = decide (o.frg.length = 0) := by rw [HM.out, Bool.eq_iff_iff]; simp
  have e2 : (!(o.quo != 0)) = decide (o.quo = 0) := by rw [Bool.eq_iff_iff]; simp
  have e3 : (str o.id).toList.isEmpty = decide (o.id.length = 0) := by rw [str_toList, Bool.eq_iff_iff]; simp
  have e4 : (o.tok == 0) = decide (o.tok = 0) := by rw [Bool.eq_iff_iff]; simp
  have HX : Hid (rightO o = (idB o.id && (!(o.quo != 0)) && (o.tok == 0) && eqT o.val zT && ((m : Int) == 0))) := Lib.hid (by
    try rw [e1]
    try rw [e2]
    try rw [e3]
    try rw [e4]
    unfold rightO; rw [hk]; simp only [show oF 5 = false from by decide, show oQ 5 = false from by decide, show oI 5 = true from by decide, show oT 5 = false from by decide, show oV 5 = false from by decide, show oK 5 = true from by decide, cond_true, cond_false]
    generalize fragB o.frg = x1; generalize decide (0 ≤ o.quo) = x2; generalize decide (o.quo ≤ 400) = x3; generalize decide (o.id.length = 0) = x4; generalize decide (o.tok = 0) = x5; generalize eqT o.val zT = x6; generalize idB o.id = x7; generalize decide (o.quo = 0) = x8; generalize decide (1 ≤ o.tok) = x9; generalize rightT o.val = x10; generalize decide (o.frg.length = 0) = x11
    first | (simp only [Bool.true_and]; ac_rfl) | (revert x1 x2 x3 x4 x5 x6 x7 x8 x9 x10 x11; decide))
  rw [hk]
  clear hl hr hm hk e1 e2 e3 e4 ht hq
  rw [show (((5 : UInt8).toNat : Nat) : Int) = 5 from rfl]
  have hB := BoxL.new w [.int .u8 5, .string (str o.id), .int .i64 o.tok, k, n, s, d, .slice a m c, .int .i64 o.quo] 46
  have hE := (Ext.refl w).alloc (.cells #[.int .u8 5, .string (str o.id), .int .i64 o.tok, k, n, s, d, .slice a m c, .int .i64 o.quo] 46)
  go_enter Tryz.func18, Tryz.ntmps18
  go_upto_region 1 with (fail)
  have HB := Lib.hid hB
  have HE := Lib.hid hE
  clear hB hE
  generalize w.alloc (.cells #[.int .u8 5, .string (str o.id), .int .i64 o.tok, k, n, s, d, .slice a m c, .int .i64 o.quo] 46) = W1 at *
  have ⟨p0, p1, p2, p3, p4, p5, p6, p7, p8⟩ := HB.out.nine
  go_wp2_with fail
  refine (rid_any o.id hi W1).mono ?_
  rintro e wq ⟨rfl, rfl⟩
  cases c0 : (idB o.id) with
  | false =>
    have X0 := Lib.hid (by rw [HX.out, c0]; simp : rightO o = false)
    clear c0
    go_wp2
    go_ret
    exact ⟨by rw [X0.out]; rfl, HE.out⟩
  | true =>
  have X0 : Hid (rightO o = ((!(o.quo != 0)) && (o.tok == 0) && eqT o.val zT && ((m : Int) == 0))) := Lib.hid (by rw [HX.out, c0]; simp)
  clear HX c0
  cases c1 : (o.quo != 0) with
  | true =>
    have X1 := Lib.hid (by rw [X0.out, c1]; simp : rightO o = false)
    go_wp2
    go_ret
    exact ⟨by rw [X1.out]; rfl, HE.out⟩
  | false =>
  have X1 : Hid (rightO o = ((o.tok == 0) && eqT o.val zT && ((m : Int) == 0))) := Lib.hid (by rw [X0.out, c1]; simp)
  clear X0
  cases c2 : ((o.tok == 0)) with
  | false =>
    have X2 := Lib.hid (by rw [X1.out, c2]; simp : rightO o = false)
    go_wp2
    go_ret
    exact ⟨by rw [X2.out]; rfl, HE.out⟩
  | true =>
  have X2 : Hid (rightO o = (eqT o.val zT && ((m : Int) == 0))) := Lib.hid (by rw [X1.out, c2]; simp)
  clear X1
  go_wp2_with fail
  refine (none10_any o.val W1 _ (HL.out.ext HE.out)).mono ?_
  rintro e w3 ⟨rfl, hE⟩
  have B3 := Lib.hid (HB.out.ext hE)
  have E3 := Lib.hid (HE.out.trans hE)
  clear hE HB HE p0 p1 p2 p3 p4 p5 p6 p7 p8
  have ⟨p0, p1, p2, p3, p4, p5, p6, p7, p8⟩ := B3.out.nine
  cases c3 : (eqT o.val zT) with
  | false =>
    have X3 := Lib.hid (by rw [X2.out, c3]; simp : rightO o = false)
    clear c3
    go_wp2
    go_ret
    exact ⟨by rw [X3.out]; rfl, E3.out⟩
  | true =>
  have X3 : Hid (rightO o = (((m : Int) == 0))) := Lib.hid (by rw [X2.out, c3]; simp)
  clear X2 c3
  go_wp2
  go_ret
  exact ⟨by rw [X3.out]; rfl, E3.out⟩

theorem rOpRight_any (o : Opn) (hp : partsT o.val ≤ 1000000) (hd : deepT o.val ≤ 1000000) (w : World) (v : Value) (hv : OpV w o v) :
    Calls Tryz.prog 18 #[v] w fun e w' => e = .returned (.bool (rightO o)) ∧ Ext w w' := by
  cases hk : oK o.what with
  | false => exact rOpRight_0 o hk hp hd w v hv
  | true =>
    simp only [oK, Bool.and_eq_true, decide_eq_true_eq] at hk
    rcases (by omega : o.what.toNat = 1 ∨ o.what.toNat = 2 ∨ o.what.toNat = 3 ∨ o.what.toNat = 4 ∨ o.what.toNat = 5) with h | h | h | h | h
    · exact rOpRight_1 o (u8_is (by decide) h) hp hd w v hv
    · exact rOpRight_2 o (u8_is (by decide) h) hp hd w v hv
    · exact rOpRight_3 o (u8_is (by decide) h) hp hd w v hv
    · exact rOpRight_4 o (u8_is (by decide) h) hp hd w v hv
    · exact rOpRight_5 o (u8_is (by decide) h) hp hd w v hv

set_option maxRecDepth 100000 in
set_option maxHeartbeats 8000000 in
theorem rOpBytes_1 (o : Opn) (hk : o.what = 1) (hr1 : rightO o = true) (w : World) (v : Value) (hv : OpV w o v) :
    Calls Tryz.prog 25 #[v] w (RetBytes w (opBy o)) := by
  obtain ⟨k, n, s, d, a, m, c, rfl, hl, hr, hi, ht, hq⟩ := hv
  obtain ⟨l1, l3, l4⟩ := opParts_le hr1
  have HBY : Hid (numB 1 ++ (fragBy o.frg ++ (numB o.quo)) = opBy o) := Lib.hid (by unfold opBy opTail; rw [hk]; simp [oI, oT, oV, oF, oQ])
  have HL := Lib.hid hl
  have HR := Lib.hid hr
  have HQ := Lib.hid hq
  have HTK := Lib.hid ht
  have hb0 := numB_le (1 : Int)
  have hb1 := numB_le o.tok
  have hb2 := numB_le o.quo
  have hb3 := textB_le o.id
  have hK : isI64 (1 : Int) := by unfold isI64; omega
  rw [hk, show (((1 : UInt8).toNat : Nat) : Int) = 1 from rfl]
  clear hl hr hk hr1 ht hq
  have hB := BoxL.new w [.int .u8 1, .string (str o.id), .int .i64 o.tok, k, n, s, d, .slice a m c, .int .i64 o.quo] 46
  have hE := (Ext.refl w).alloc (.cells #[.int .u8 1, .string (str o.id), .int .i64 o.tok, k, n, s, d, .slice a m c, .int .i64 o.quo] 46)
  have HK := Lib.hid hK
  clear hK
  go_enter Tryz.func25, Tryz.ntmps25
  go_wp2_with fail
  generalize w.alloc (.cells #[.int .u8 1, .string (str o.id), .int .i64 o.tok, k, n, s, d, .slice a m c, .int .i64 o.quo] 46) = W1 at *
  refine (rnum_any 1 HK.out W1).mono ?_
  rintro e w2 ⟨v2, rfl, r2⟩
  have HB2 := Lib.hid (hB.ext r2.2)
  have HE2 := Lib.hid (hE.trans r2.2)
  have HO2 : Hid (OwnB w.heap.size w2 v2 (numB 1)) := Lib.hid (r2.own.mono (by have := hB.lt; omega))
  have HN2 : Hid (v2.ownBlock ≠ some w.heap.size) := Lib.hid (fun e => by have := (World.ownsRow.lt r2.own _ e).1; have := hB.lt; omega)
  clear r2 hB hE
  have ⟨p0, p1, p2, p3, p4, p5, p6, p7, p8⟩ := HB2.out.nine
  go_wp2_with fail
  refine (rfbytes_any o.frg w2 _ (HR.out.ext HE2.out) (by omega)).mono ?_
  rintro e y3 ⟨x3, rfl, r3⟩
  have o3 := HO2.out.ext r3.2
  have b3 := r3.bytes
  have e3 := HE2.out.trans r3.2
  have z3 := HB2.out.ext r3.2
  have g3 := z3.lt
  clear r3 p0 p1 p2 p3 p4 p5 p6 p7 p8
  go_wp2_with (at_builtin; refine appN rfl _ _ rfl rfl o3 rfl b3 (by (try simp only [List.length_append]); omega) e3.size z3 HN2.out ?_)
  intro v3 w3 oo nn xx bb
  have HO3 : Hid (OwnB w.heap.size w3 v3 (numB 1 ++ fragBy o.frg)) := Lib.hid (by simpa only [List.append_assoc] using oo)
  have HE3 : Hid (Ext w w3) := Lib.hid (e3.then bb)
  have HN3 := Lib.hid nn
  have HB3 := Lib.hid xx
  clear oo nn xx bb o3 b3 e3 z3 g3 HO2 HE2 HN2 HB2
  have ⟨p0, p1, p2, p3, p4, p5, p6, p7, p8⟩ := HB3.out.nine
  go_wp2_with fail
  refine (rnum_any o.quo HQ.out w3).mono ?_
  rintro e y4 ⟨x4, rfl, r4⟩
  have o4 := HO3.out.ext r4.2
  have b4 := r4.bytes
  have e4 := HE3.out.trans r4.2
  have z4 := HB3.out.ext r4.2
  have g4 := z4.lt
  clear r4 p0 p1 p2 p3 p4 p5 p6 p7 p8
  go_wp2_with (at_builtin; refine appN rfl _ _ rfl rfl o4 rfl b4 (by (try simp only [List.length_append]); omega) e4.size z4 HN3.out ?_)
  intro v4 w4 oo nn xx bb
  have HO4 : Hid (OwnB w.heap.size w4 v4 ((numB 1 ++ fragBy o.frg) ++ numB o.quo)) := Lib.hid (by simpa only [List.append_assoc] using oo)
  have HE4 : Hid (Ext w w4) := Lib.hid (e4.then bb)
  have HN4 := Lib.hid nn
  have HB4 := Lib.hid xx
  clear oo nn xx bb o4 b4 e4 z4 g4 HO3 HE3 HN3 HB3
  have HP : ∃ vr, vr = v4 ∧ RetBytes w (opBy o) (.returned vr) w4 := ⟨_, rfl, v4, rfl, by
    have h := HO4.out
    rw [show ((numB 1 ++ fragBy o.frg) ++ numB o.quo) = opBy o from by rw [← HBY.out]; try simp only [List.append_assoc]] at h
    exact ⟨h, HE4.out⟩⟩
  obtain ⟨vr, rfl, hR⟩ := HP
  have ⟨p0, p1, p2, p3, p4, p5, p6, p7, p8⟩ := HB4.out.nine
  clear HO4 HE4 HN4 HB4
  go_wp2
  go_ret
  exact hR

set_option maxRecDepth 100000 in
set_option maxHeartbeats 8000000 in
theorem rOpBytes_2 (o : Opn) (hk : o.what = 2) (hr1 : rightO o = true) (w : World) (v : Value) (hv : OpV w o v) :
    Calls Tryz.prog 25 #[v] w (RetBytes w (opBy o)) := by
  obtain ⟨k, n, s, d, a, m, c, rfl, hl, hr, hi, ht, hq⟩ := hv
  obtain ⟨l1, l3, l4⟩ := opParts_le hr1
  have HBY : Hid (numB 2 ++ (textB o.id) = opBy o) := Lib.hid (by unfold opBy opTail; rw [hk]; simp [oI, oT, oV, oF, oQ])
  have HL := Lib.hid hl
  have HR := Lib.hid hr
  have HQ := Lib.hid hq
  have HTK := Lib.hid ht
  have hb0 := numB_le (2 : Int)
  have hb1 := numB_le o.tok
  have hb2 := numB_le o.quo
  have hb3 := textB_le o.id
  have hK : isI64 (2 : Int) := by unfold isI64; omega
  rw [hk, show (((2 : UInt8).toNat : Nat) : Int) = 2 from rfl]
  clear hl hr hk hr1 ht hq
  have hB := BoxL.new w [.int .u8 2, .string (str o.id), .int .i64 o.tok, k, n, s, d, .slice a m c, .int .i64 o.quo] 46
  have hE := (Ext.refl w).alloc (.cells #[.int .u8 2, .string (str o.id), .int .i64 o.tok, k, n, s, d, .slice a m c, .int .i64 o.quo] 46)
  have HK := Lib.hid hK
  clear hK
  go_enter Tryz.func25, Tryz.ntmps25
  go_wp2_with fail
  generalize w.alloc (.cells #[.int .u8 2, .string (str o.id), .int .i64 o.tok, k, n, s, d, .slice a m c, .int .i64 o.quo] 46) = W1 at *
  refine (rnum_any 2 HK.out W1).mono ?_
  rintro e w2 ⟨v2, rfl, r2⟩
  have HB2 := Lib.hid (hB.ext r2.2)
  have HE2 := Lib.hid (hE.trans r2.2)
  have HO2 : Hid (OwnB w.heap.size w2 v2 (numB 2)) := Lib.hid (r2.own.mono (by have := hB.lt; omega))
  have HN2 : Hid (v2.ownBlock ≠ some w.heap.size) := Lib.hid (fun e => by have := (World.ownsRow.lt r2.own _ e).1; have := hB.lt; omega)
  clear r2 hB hE
  have ⟨p0, p1, p2, p3, p4, p5, p6, p7, p8⟩ := HB2.out.nine
  go_wp2_with fail
  refine (rtext_any o.id (by omega) w2).mono ?_
  rintro e y3 ⟨x3, rfl, r3⟩
  have o3 := HO2.out.ext r3.2
  have b3 := r3.bytes
  have e3 := HE2.out.trans r3.2
  have z3 := HB2.out.ext r3.2
  have g3 := z3.lt
  clear r3 p0 p1 p2 p3 p4 p5 p6 p7 p8
  go_wp2_with (at_builtin; refine appN rfl _ _ rfl rfl o3 rfl b3 (by (try simp only [List.length_append]); omega) e3.size z3 HN2.out ?_)
  intro v3 w3 oo nn xx bb
  have HO3 : Hid (OwnB w.heap.size w3 v3 (numB 2 ++ textB o.id)) := Lib.hid (by simpa only [List.append_assoc] using oo)
  have HE3 : Hid (Ext w w3) := Lib.hid (e3.then bb)
  have HN3 := Lib.hid nn
  have HB3 := Lib.hid xx
  clear oo nn xx bb o3 b3 e3 z3 g3 HO2 HE2 HN2 HB2
  have HP : ∃ vr, vr = v3 ∧ RetBytes w (opBy o) (.returned vr) w3 := ⟨_, rfl, v3, rfl, by
    have h := HO3.out
    rw [show (numB 2 ++ textB o.id) = opBy o from by rw [← HBY.out]; try simp only [List.append_assoc]] at h
    exact ⟨h, HE3.out⟩⟩
  obtain ⟨vr, rfl, hR⟩ := HP
  have ⟨p0, p1, p2, p3, p4, p5, p6, p7, p8⟩ := HB3.out.nine
  clear HO3 HE3 HN3 HB3
  go_wp2
  go_ret
  exact hR

set_option maxRecDepth 100000 in
set_option maxHeartbeats 8000000 in
theorem rOpBytes_3 (o : Opn) (hk : o.what = 3) (hr1 : rightO o = true) (w : World) (v : Value) (hv : OpV w o v) :
    Calls Tryz.prog 25 #[v] w (RetBytes w (opBy o)) := by
  obtain ⟨k, n, s, d, a, m, c, rfl, hl, hr, hi, ht, hq⟩ := hv
  obtain ⟨l1, l3, l4⟩ := opParts_le hr1
  have HBY : Hid (numB 3 ++ (textB o.id ++ (numB o.tok ++ (bytesT o.val ++ (fragBy o.frg)))) = opBy o) := Lib.hid (by unfold opBy opTail; rw [hk]; simp [oI, oT, oV, oF, oQ])
  have HL := Lib.hid hl
  have HR := Lib.hid hr
  have HQ := Lib.hid hq
  have HTK := Lib.hid ht
  have hb0 := numB_le (3 : Int)
  have hb1 := numB_le o.tok
  have hb2 := numB_le o.quo
  have hb3 := textB_le o.id
  have hK : isI64 (3 : Int) := by unfold isI64; omega
  rw [hk, show (((3 : UInt8).toNat : Nat) : Int) = 3 from rfl]
  clear hl hr hk hr1 ht hq
  have hB := BoxL.new w [.int .u8 3, .string (str o.id), .int .i64 o.tok, k, n, s, d, .slice a m c, .int .i64 o.quo] 46
  have hE := (Ext.refl w).alloc (.cells #[.int .u8 3, .string (str o.id), .int .i64 o.tok, k, n, s, d, .slice a m c, .int .i64 o.quo] 46)
  have HK := Lib.hid hK
  clear hK
  go_enter Tryz.func25, Tryz.ntmps25
  go_wp2_with fail
  generalize w.alloc (.cells #[.int .u8 3, .string (str o.id), .int .i64 o.tok, k, n, s, d, .slice a m c, .int .i64 o.quo] 46) = W1 at *
  refine (rnum_any 3 HK.out W1).mono ?_
  rintro e w2 ⟨v2, rfl, r2⟩
  have HB2 := Lib.hid (hB.ext r2.2)
  have HE2 := Lib.hid (hE.trans r2.2)
  have HO2 : Hid (OwnB w.heap.size w2 v2 (numB 3)) := Lib.hid (r2.own.mono (by have := hB.lt; omega))
  have HN2 : Hid (v2.ownBlock ≠ some w.heap.size) := Lib.hid (fun e => by have := (World.ownsRow.lt r2.own _ e).1; have := hB.lt; omega)
  clear r2 hB hE
  have ⟨p0, p1, p2, p3, p4, p5, p6, p7, p8⟩ := HB2.out.nine
  go_wp2_with fail
  refine (rtext_any o.id (by omega) w2).mono ?_
  rintro e y3 ⟨x3, rfl, r3⟩
  have o3 := HO2.out.ext r3.2
  have b3 := r3.bytes
  have e3 := HE2.out.trans r3.2
  have z3 := HB2.out.ext r3.2
  have g3 := z3.lt
  clear r3 p0 p1 p2 p3 p4 p5 p6 p7 p8
  go_wp2_with (at_builtin; refine appN rfl _ _ rfl rfl o3 rfl b3 (by (try simp only [List.length_append]); omega) e3.size z3 HN2.out ?_)
  intro v3 w3 oo nn xx bb
  have HO3 : Hid (OwnB w.heap.size w3 v3 (numB 3 ++ textB o.id)) := Lib.hid (by simpa only [List.append_assoc] using oo)
  have HE3 : Hid (Ext w w3) := Lib.hid (e3.then bb)
  have HN3 := Lib.hid nn
  have HB3 := Lib.hid xx
  clear oo nn xx bb o3 b3 e3 z3 g3 HO2 HE2 HN2 HB2
  have ⟨p0, p1, p2, p3, p4, p5, p6, p7, p8⟩ := HB3.out.nine
  go_wp2_with fail
  refine (rnum_any o.tok HTK.out w3).mono ?_
  rintro e y4 ⟨x4, rfl, r4⟩
  have o4 := HO3.out.ext r4.2
  have b4 := r4.bytes
  have e4 := HE3.out.trans r4.2
  have z4 := HB3.out.ext r4.2
  have g4 := z4.lt
  clear r4 p0 p1 p2 p3 p4 p5 p6 p7 p8
  go_wp2_with (at_builtin; refine appN rfl _ _ rfl rfl o4 rfl b4 (by (try simp only [List.length_append]); omega) e4.size z4 HN3.out ?_)
  intro v4 w4 oo nn xx bb
  have HO4 : Hid (OwnB w.heap.size w4 v4 ((numB 3 ++ textB o.id) ++ numB o.tok)) := Lib.hid (by simpa only [List.append_assoc] using oo)
  have HE4 : Hid (Ext w w4) := Lib.hid (e4.then bb)
  have HN4 := Lib.hid nn
  have HB4 := Lib.hid xx
  clear oo nn xx bb o4 b4 e4 z4 g4 HO3 HE3 HN3 HB3
  have ⟨p0, p1, p2, p3, p4, p5, p6, p7, p8⟩ := HB4.out.nine
  go_wp2_with fail
  refine (rbytes_any o.val w4 _ (HL.out.ext HE4.out) (by omega)).mono ?_
  rintro e y5 ⟨x5, rfl, r5⟩
  have o5 := HO4.out.ext r5.2
  have b5 := r5.bytes
  have e5 := HE4.out.trans r5.2
  have z5 := HB4.out.ext r5.2
  have g5 := z5.lt
  clear r5 p0 p1 p2 p3 p4 p5 p6 p7 p8
  go_wp2_with (at_builtin; refine appN rfl _ _ rfl rfl o5 rfl b5 (by (try simp only [List.length_append]); omega) e5.size z5 HN4.out ?_)
  intro v5 w5 oo nn xx bb
  have HO5 : Hid (OwnB w.heap.size w5 v5 (((numB 3 ++ textB o.id) ++ numB o.tok) ++ bytesT o.val)) := Lib.hid (by simpa only [List.append_assoc] using oo)
  have HE5 : Hid (Ext w w5) := Lib.hid (e5.then bb)
  have HN5 := Lib.hid nn
  have HB5 := Lib.hid xx
  clear oo nn xx bb o5 b5 e5 z5 g5 HO4 HE4 HN4 HB4
  have ⟨p0, p1, p2, p3, p4, p5, p6, p7, p8⟩ := HB5.out.nine
  go_wp2_with fail
  refine (rfbytes_any o.frg w5 _ (HR.out.ext HE5.out) (by omega)).mono ?_
  rintro e y6 ⟨x6, rfl, r6⟩
  have o6 := HO5.out.ext r6.2
  have b6 := r6.bytes
  have e6 := HE5.out.trans r6.2
  have z6 := HB5.out.ext r6.2
  have g6 := z6.lt
  clear r6 p0 p1 p2 p3 p4 p5 p6 p7 p8
  go_wp2_with (at_builtin; refine appN rfl _ _ rfl rfl o6 rfl b6 (by (try simp only [List.length_append]); omega) e6.size z6 HN5.out ?_)
  intro v6 w6 oo nn xx bb
  have HO6 : Hid (OwnB w.heap.size w6 v6 ((((numB 3 ++ textB o.id) ++ numB o.tok) ++ bytesT o.val) ++ fragBy o.frg)) := Lib.hid (by simpa only [List.append_assoc] using oo)
  have HE6 : Hid (Ext w w6) := Lib.hid (e6.then bb)
  have HN6 := Lib.hid nn
  have HB6 := Lib.hid xx
  clear oo nn xx bb o6 b6 e6 z6 g6 HO5 HE5 HN5 HB5
  have HP : ∃ vr, vr = v6 ∧ RetBytes w (opBy o) (.returned vr) w6 := ⟨_, rfl, v6, rfl, by
    have h := HO6.out
    rw [show ((((numB 3 ++ textB o.id) ++ numB o.tok) ++ bytesT o.val) ++ fragBy o.frg) = opBy o from by rw [← HBY.out]; try simp only [List.append_assoc]] at h
    exact ⟨h, HE6.out⟩⟩
  obtain ⟨vr, rfl, hR⟩ := HP
  have ⟨p0, p1, p2, p3, p4, p5, p6, p7, p8⟩ := HB6.out.nine
  clear HO6 HE6 HN6 HB6
  go_wp2
  go_ret
  exact hR

set_option maxRecDepth 100000 in
set_option maxHeartbeats 8000000 in
theorem rOpBytes_4 (o : Opn) (hk : o.what = 4) (hr1 : rightO o = true) (w : World) (v : Value) (hv : OpV w o v) :
    Calls Tryz.prog 25 #[v] w (RetBytes w (opBy o)) := by
  obtain ⟨k, n, s, d, a, m, c, rfl, hl, hr, hi, ht, hq⟩ := hv
  obtain ⟨l1, l3, l4⟩ := opParts_le hr1
  have HBY : Hid (numB 4 ++ (textB o.id ++ (numB o.tok)) = opBy o) := Lib.hid (by unfold opBy opTail; rw [hk]; simp [oI, oT, oV, oF, oQ])
  have HL := Lib.hid hl
  have HR := Lib.hid hr
  have HQ := Lib.hid hq
  have HTK := Lib.hid ht
  have hb0 := numB_le (4 : Int)
  have hb1 := numB_le o.tok
  have hb2 := numB_le o.quo
  have hb3 := textB_le o.id
  have hK : isI64 (4 : Int) := by unfold isI64; omega
  rw [hk, show (((4 : UInt8).toNat : Nat) : Int) = 4 from rfl]
  clear hl hr hk hr1 ht hq
  have hB := BoxL.new w [.int .u8 4, .string (str o.id), .int .i64 o.tok, k, n, s, d, .slice a m c, .int .i64 o.quo] 46
  have hE := (Ext.refl w).alloc (.cells #[.int .u8 4, .string (str o.id), .int .i64 o.tok, k, n, s, d, .slice a m c, .int .i64 o.quo] 46)
  have HK := Lib.hid hK
  clear hK
  go_enter Tryz.func25, Tryz.ntmps25
  go_wp2_with fail
  generalize w.alloc (.cells #[.int .u8 4, .string (str o.id), .int .i64 o.tok, k, n, s, d, .slice a m c, .int .i64 o.quo] 46) = W1 at *
  refine (rnum_any 4 HK.out W1).mono ?_
  rintro e w2 ⟨v2, rfl, r2⟩
  have HB2 := Lib.hid (hB.ext r2.2)
  have HE2 := Lib.hid (hE.trans r2.2)
  have HO2 : Hid (OwnB w.heap.size w2 v2 (numB 4)) := Lib.hid (r2.own.mono (by have := hB.lt; omega))
  have HN2 : Hid (v2.ownBlock ≠ some w.heap.size) := Lib.hid (fun e => by have := (World.ownsRow.lt r2.own _ e).1; have := hB.lt; omega)
  clear r2 hB hE
  have ⟨p0, p1, p2, p3, p4, p5, p6, p7, p8⟩ := HB2.out.nine
  go_wp2_with fail
  refine (rtext_any o.id (by omega) w2).mono ?_
  rintro e y3 ⟨x3, rfl, r3⟩
  have o3 := HO2.out.ext r3.2
  have b3 := r3.bytes
  have e3 := HE2.out.trans r3.2
  have z3 := HB2.out.ext r3.2
  have g3 := z3.lt
  clear r3 p0 p1 p2 p3 p4 p5 p6 p7 p8
  go_wp2_with (at_builtin; refine appN rfl _ _ rfl rfl o3 rfl b3 (by (try simp only [List.length_append]); omega) e3.size z3 HN2.out ?_)
  intro v3 w3 oo nn xx bb
  have HO3 : Hid (OwnB w.heap.size w3 v3 (numB 4 ++ textB o.id)) := Lib.hid (by simpa only [List.append_assoc] using oo)
  have HE3 : Hid (Ext w w3) := Lib.hid (e3.then bb)
  have HN3 := Lib.hid nn
  have HB3 := Lib.hid xx
  clear oo nn xx bb o3 b3 e3 z3 g3 HO2 HE2 HN2 HB2
  have ⟨p0, p1, p2, p3, p4, p5, p6, p7, p8⟩ := HB3.out.nine
  go_wp2_with fail
  refine (rnum_any o.tok HTK.out w3).mono ?_
  rintro e y4 ⟨x4, rfl, r4⟩
  have o4 := HO3.out.ext r4.2
  have b4 := r4.bytes
  have e4 := HE3.out.trans r4.2
  have z4 := HB3.out.ext r4.2
  have g4 := z4.lt
  clear r4 p0 p1 p2 p3 p4 p5 p6 p7 p8
  go_wp2_with (at_builtin; refine appN rfl _ _ rfl rfl o4 rfl b4 (by (try simp only [List.length_append]); omega) e4.size z4 HN3.out ?_)
  intro v4 w4 oo nn xx bb
  have HO4 : Hid (OwnB w.heap.size w4 v4 ((numB 4 ++ textB o.id) ++ numB o.tok)) := Lib.hid (by simpa only [List.append_assoc] using oo)
  have HE4 : Hid (Ext w w4) := Lib.hid (e4.then bb)
  have HN4 := Lib.hid nn
  have HB4 := Lib.hid xx
  clear oo nn xx bb o4 b4 e4 z4 g4 HO3 HE3 HN3 HB3
  have HP : ∃ vr, vr = v4 ∧ RetBytes w (opBy o) (.returned vr) w4 := ⟨_, rfl, v4, rfl, by
    have h := HO4.out
    rw [show ((numB 4 ++ textB o.id) ++ numB o.tok) = opBy o from by rw [← HBY.out]; try simp only [List.append_assoc]] at h
    exact ⟨h, HE4.out⟩⟩
  obtain ⟨vr, rfl, hR⟩ := HP
  have ⟨p0, p1, p2, p3, p4, p5, p6, p7, p8⟩ := HB4.out.nine
  clear HO4 HE4 HN4 HB4
  go_wp2
  go_ret
  exact hR

set_option maxRecDepth 100000 in
set_option maxHeartbeats 8000000 in
theorem rOpBytes_5 (o : Opn) (hk : o.what = 5) (hr1 : rightO o = true) (w : World) (v : Value) (hv : OpV w o v) :
    Calls Tryz.prog 25 #[v] w (RetBytes w (opBy o)) := by
  obtain ⟨k, n, s, d, a, m, c, rfl, hl, hr, hi, ht, hq⟩ := hv
  obtain ⟨l1, l3, l4⟩ := opParts_le hr1
  have HBY : Hid (numB 5 ++ (textB o.id) = opBy o) := Lib.hid (by unfold opBy opTail; rw [hk]; simp [oI, oT, oV, oF, oQ])
  have HL := Lib.hid hl
  have HR := Lib.hid hr
  have HQ := Lib.hid hq
  have HTK := Lib.hid ht
  have hb0 := numB_le (5 : Int)
  have hb1 := numB_le o.tok
  have hb2 := numB_le o.quo
  have hb3 := textB_le o.id
  have hK : isI64 (5 : Int) := by unfold isI64; omega
  rw [hk, show (((5 : UInt8).toNat : Nat) : Int) = 5 from rfl]
  clear hl hr hk hr1 ht hq
  have hB := BoxL.new w [.int .u8 5, .string (str o.id), .int .i64 o.tok, k, n, s, d, .slice a m c, .int .i64 o.quo] 46
  have hE := (Ext.refl w).alloc (.cells #[.int .u8 5, .string (str o.id), .int .i64 o.tok, k, n, s, d, .slice a m c, .int .i64 o.quo] 46)
  have HK := Lib.hid hK
  clear hK
  go_enter Tryz.func25, Tryz.ntmps25
  go_wp2_with fail
  generalize w.alloc (.cells #[.int .u8 5, .string (str o.id), .int .i64 o.tok, k, n, s, d, .slice a m c, .int .i64 o.quo] 46) = W1 at *
  refine (rnum_any 5 HK.out W1).mono ?_
  rintro e w2 ⟨v2, rfl, r2⟩
  have HB2 := Lib.hid (hB.ext r2.2)
  have HE2 := Lib.hid (hE.trans r2.2)
  have HO2 : Hid (OwnB w.heap.size w2 v2 (numB 5)) := Lib.hid (r2.own.mono (by have := hB.lt; omega))
  have HN2 : Hid (v2.ownBlock ≠ some w.heap.size) := Lib.hid (fun e => by have := (World.ownsRow.lt r2.own _ e).1; have := hB.lt; omega)
  clear r2 hB hE
  have ⟨p0, p1, p2, p3, p4, p5, p6, p7, p8⟩ := HB2.out.nine
  go_wp2_with fail
  refine (rtext_any o.id (by omega) w2).mono ?_
  rintro e y3 ⟨x3, rfl, r3⟩
  have o3 := HO2.out.ext r3.2
  have b3 := r3.bytes
  have e3 := HE2.out.trans r3.2
  have z3 := HB2.out.ext r3.2
  have g3 := z3.lt
  clear r3 p0 p1 p2 p3 p4 p5 p6 p7 p8
  go_wp2_with (at_builtin; refine appN rfl _ _ rfl rfl o3 rfl b3 (by (try simp only [List.length_append]); omega) e3.size z3 HN2.out ?_)
  intro v3 w3 oo nn xx bb
  have HO3 : Hid (OwnB w.heap.size w3 v3 (numB 5 ++ textB o.id)) := Lib.hid (by simpa only [List.append_assoc] using oo)
  have HE3 : Hid (Ext w w3) := Lib.hid (e3.then bb)
  have HN3 := Lib.hid nn
  have HB3 := Lib.hid xx
  clear oo nn xx bb o3 b3 e3 z3 g3 HO2 HE2 HN2 HB2
  have HP : ∃ vr, vr = v3 ∧ RetBytes w (opBy o) (.returned vr) w3 := ⟨_, rfl, v3, rfl, by
    have h := HO3.out
    rw [show (numB 5 ++ textB o.id) = opBy o from by rw [← HBY.out]; try simp only [List.append_assoc]] at h
    exact ⟨h, HE3.out⟩⟩
  obtain ⟨vr, rfl, hR⟩ := HP
  have ⟨p0, p1, p2, p3, p4, p5, p6, p7, p8⟩ := HB3.out.nine
  clear HO3 HE3 HN3 HB3
  go_wp2
  go_ret
  exact hR

theorem rOpBytes_any (o : Opn) (hr1 : rightO o = true) (w : World) (v : Value) (hv : OpV w o v) :
    Calls Tryz.prog 25 #[v] w (RetBytes w (opBy o)) := by
  have hk := (rightO_iff.1 hr1).1
  simp only [oK, Bool.and_eq_true, decide_eq_true_eq] at hk
  rcases (by omega : o.what.toNat = 1 ∨ o.what.toNat = 2 ∨ o.what.toNat = 3 ∨ o.what.toNat = 4 ∨ o.what.toNat = 5) with h | h | h | h | h
  · exact rOpBytes_1 o (u8_is (by decide) h) hr1 w v hv
  · exact rOpBytes_2 o (u8_is (by decide) h) hr1 w v hv
  · exact rOpBytes_3 o (u8_is (by decide) h) hr1 w v hv
  · exact rOpBytes_4 o (u8_is (by decide) h) hr1 w v hv
  · exact rOpBytes_5 o (u8_is (by decide) h) hr1 w v hv
end Go.Proofs.YtdienbcjfljjnaaGreatDoor
