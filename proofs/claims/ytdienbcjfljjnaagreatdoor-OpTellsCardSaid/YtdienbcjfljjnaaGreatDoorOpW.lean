/- OpTells answers true at every input. -/
import Derived.Test.YtdienbcjfljjnaaGreatDoorOpF
import Derived.Test.YtdienbcjfljjnaaGreatDoorOpT
import Derived.Test.YtdienbcjfljjnaaGreatDoorOpU
import Derived.Test.YtdienbcjfljjnaaGreatDoorTake
open Go.RowKit Go.Shelf
namespace Go.Proofs.YtdienbcjfljjnaaGreatDoor
open Go Go.Proofs Fm

set_option maxRecDepth 100000 in
set_option maxHeartbeats 8000000 in
theorem opTells_any (w : World) (o : Opn) (v : Value) (hv : OpV w o v) (p : Opn) (u : Value) (hu : OpV w p u) (s : List UInt8) (hs : s.length ≤ 9223372036854775807) (vb : Value) (be : List UInt8) (hb : Bytes w vb be) (hT : KTab w) :
    Calls Tryz.prog 4 #[v, u, .string (str s), vb] w fun e w' => e = .returned (.bool true) ∧ Ext w w' := by
  have HV := Lib.hid hv
  have HU := Lib.hid hu
  have HB := Lib.hid hb
  have HT := Lib.hid hT
  have hss := str_size s
  have hlb := hb.length_le
  obtain ⟨ab, cb, rfl, -⟩ := id hb
  obtain ⟨k, n, s0, d, a, m, c, rfl, -⟩ := hv
  obtain ⟨k', n', s', d', a', m', c', rfl, -⟩ := hu
  clear hb hT
  have h1 := (BoxL.new w [.int .u8 (o.what.toNat : Int), .string (str o.id), .int .i64 o.tok, k, n, s0, d, .slice a m c, .int .i64 o.quo] 46).ext ((Ext.refl _).alloc (.cells #[.int .u8 (p.what.toNat : Int), .string (str p.id), .int .i64 p.tok, k', n', s', d', .slice a' m' c', .int .i64 p.quo] 46))
  have h2 := BoxL.new (w.alloc (.cells #[.int .u8 (o.what.toNat : Int), .string (str o.id), .int .i64 o.tok, k, n, s0, d, .slice a m c, .int .i64 o.quo] 46)) [.int .u8 (p.what.toNat : Int), .string (str p.id), .int .i64 p.tok, k', n', s', d', .slice a' m' c', .int .i64 p.quo] 46
  have hz : (w.alloc (.cells #[.int .u8 (o.what.toNat : Int), .string (str o.id), .int .i64 o.tok, k, n, s0, d, .slice a m c, .int .i64 o.quo] 46)).heap.size = w.heap.size + 1 := by simp
  rw [hz] at h2
  have hE := ((Ext.refl w).alloc (.cells #[.int .u8 (o.what.toNat : Int), .string (str o.id), .int .i64 o.tok, k, n, s0, d, .slice a m c, .int .i64 o.quo] 46)).alloc (.cells #[.int .u8 (p.what.toNat : Int), .string (str p.id), .int .i64 p.tok, k', n', s', d', .slice a' m' c', .int .i64 p.quo] 46)
  clear hz
  go_enter Tryz.func4, Tryz.ntmps4
  go_upto_region 1 with (fail)
  have H1 := Lib.hid h1
  have H2 := Lib.hid h2
  have HE1 := Lib.hid hE
  clear h1 h2 hE
  generalize (w.alloc _).alloc _ = W1 at *
  have ⟨p0, p1, p2, p3, p4, p5, p6, p7, p8⟩ := H1.out.nine
  go_wp2_with fail
  refine (opFew_any o W1 _ (HV.out.ext HE1.out)).mono ?_
  rintro e w2 ⟨rfl, hE2⟩
  have HE2 := Lib.hid (HE1.out.trans hE2)
  have H22 := Lib.hid (H2.out.ext hE2)
  have H12 := Lib.hid (H1.out.ext hE2)
  clear hE2 H1 H2 HE1 p0 p1 p2 p3 p4 p5 p6 p7 p8
  cases hf : fewO o with
  | false =>
    clear hf
    go_wp2_with fail
    refine (awake10 _ (HT.out.ext HE2.out)).mono ?_
    rintro e wz ⟨rfl, hEz⟩
    have HEz := Lib.hid (HE2.out.trans hEz)
    clear hEz
    go_wp2
    go_ret
    exact ⟨rfl, HEz.out⟩
  | true =>
  have HPD : Hid (partsT o.val ≤ 1000000 ∧ deepT o.val ≤ 1000000) := Lib.hid (by
    unfold fewO at hf
    simp only [Bool.and_eq_true, decide_eq_true_eq] at hf
    obtain ⟨k1, k2⟩ := fewT_light 20 o.val hf.1.1
    omega)
  clear hf
  have ⟨p0, p1, p2, p3, p4, p5, p6, p7, p8⟩ := H22.out.nine
  go_wp2_with fail
  refine (opFew_any p w2 _ (HU.out.ext HE2.out)).mono ?_
  rintro e w3 ⟨rfl, hE3⟩
  have HE3 := Lib.hid (HE2.out.trans hE3)
  have H13 := Lib.hid (H12.out.ext hE3)
  have H23 := Lib.hid (H22.out.ext hE3)
  clear hE3 H12 H22 HE2 p0 p1 p2 p3 p4 p5 p6 p7 p8
  cases hf : fewO p with
  | false =>
    clear hf
    go_wp2_with fail
    refine (awake10 _ (HT.out.ext HE3.out)).mono ?_
    rintro e wz ⟨rfl, hEz⟩
    have HEz := Lib.hid (HE3.out.trans hEz)
    clear hEz
    go_wp2
    go_ret
    exact ⟨rfl, HEz.out⟩
  | true =>
  clear hf
  by_cases hS5 : 500 < s.length
  case pos =>
    have hS5' : (500 : Int) < (s.length : Int) := by omega
    go_wp2_with fail
    refine (awake10 _ (HT.out.ext HE3.out)).mono ?_
    rintro e wz ⟨rfl, hEz⟩
    have HEz := Lib.hid (HE3.out.trans hEz)
    clear hEz
    go_wp2
    go_ret
    exact ⟨rfl, HEz.out⟩
  have hS5' : ¬ (500 : Int) < (s.length : Int) := by omega
  by_cases hB4 : 2000 < be.length
  case pos =>
    have hB4' : (2000 : Int) < (be.length : Int) := by omega
    go_wp2_with fail
    refine (awake10 _ (HT.out.ext HE3.out)).mono ?_
    rintro e wz ⟨rfl, hEz⟩
    have HEz := Lib.hid (HE3.out.trans hEz)
    clear hEz
    go_wp2
    go_ret
    exact ⟨rfl, HEz.out⟩
  have hB4' : ¬ (2000 : Int) < (be.length : Int) := by omega
  have ⟨p0, p1, p2, p3, p4, p5, p6, p7, p8⟩ := H13.out.nine
  go_wp2_with fail
  clear hS5' hB4'
  refine (rOpRight_any o HPD.out.1 HPD.out.2 w3 _ (HV.out.ext HE3.out)).mono ?_
  rintro e w4 ⟨rfl, hE4⟩
  have HE4 := Lib.hid (HE3.out.trans hE4)
  have H14 := Lib.hid (H13.out.ext hE4)
  have H24 := Lib.hid (H23.out.ext hE4)
  clear hE4 H13 H23 HE3 p0 p1 p2 p3 p4 p5 p6 p7 p8
  have ⟨p0, p1, p2, p3, p4, p5, p6, p7, p8⟩ := H14.out.nine
  go_wp2_with fail
  refine (opBytes_any o w4 _ (HV.out.ext HE4.out) (HT.out.ext HE4.out)).mono ?_
  rintro e w5 ⟨ax1, mx1, cx1, nx1, rfl, hE5, hno1, hyes1⟩
  have HE5 := Lib.hid (HE4.out.trans hE5)
  have H15 := Lib.hid (H14.out.ext hE5)
  have H25 := Lib.hid (H24.out.ext hE5)
  clear hE5 H14 H24 HE4 p0 p1 p2 p3 p4 p5 p6 p7 p8
  have HS : Hid (∀ W2, Ext w5 W2 → W2.cell? ⟨w.heap.size, 0, none⟩ = some (.int .u8 (o.what.toNat : Int)) ∧ W2.cell? ⟨w.heap.size, 1, none⟩ = some (.string (str o.id)) ∧ W2.cell? ⟨w.heap.size, 2, none⟩ = some (.int .i64 o.tok) ∧ W2.cell? ⟨w.heap.size, 3, none⟩ = some (k) ∧ W2.cell? ⟨w.heap.size, 4, none⟩ = some (n) ∧ W2.cell? ⟨w.heap.size, 5, none⟩ = some (s0) ∧ W2.cell? ⟨w.heap.size, 6, none⟩ = some (d) ∧ W2.cell? ⟨w.heap.size, 7, none⟩ = some (.slice a m c) ∧ W2.cell? ⟨w.heap.size, 8, none⟩ = some (.int .i64 o.quo) ∧ W2.cell? ⟨w.heap.size + 1, 0, none⟩ = some (.int .u8 (p.what.toNat : Int)) ∧ W2.cell? ⟨w.heap.size + 1, 1, none⟩ = some (.string (str p.id)) ∧ W2.cell? ⟨w.heap.size + 1, 2, none⟩ = some (.int .i64 p.tok) ∧ W2.cell? ⟨w.heap.size + 1, 3, none⟩ = some (k') ∧ W2.cell? ⟨w.heap.size + 1, 4, none⟩ = some (n') ∧ W2.cell? ⟨w.heap.size + 1, 5, none⟩ = some (s') ∧ W2.cell? ⟨w.heap.size + 1, 6, none⟩ = some (d') ∧ W2.cell? ⟨w.heap.size + 1, 7, none⟩ = some (.slice a' m' c') ∧ W2.cell? ⟨w.heap.size + 1, 8, none⟩ = some (.int .i64 p.quo)) := Lib.hid (fun W2 h => by
    obtain ⟨x0, x1, x2, x3, x4, x5, x6, x7, x8⟩ := (H15.out.ext h).nine
    obtain ⟨z0, z1, z2, z3, z4, z5, z6, z7, z8⟩ := (H25.out.ext h).nine
    exact ⟨x0, x1, x2, x3, x4, x5, x6, x7, x8, z0, z1, z2, z3, z4, z5, z6, z7, z8⟩)
  cases hr : rightO o with
  | false =>
    have HRR := Lib.hid hr
    obtain ⟨rfl, rfl⟩ := hno1 hr
    clear hno1 hyes1 hr
    go_upto_region 5 with (fail)
    refine wp_region_held_drew (S := (fun w' => w'.cell? ⟨w.heap.size, 0, none⟩ = some (.int .u8 (o.what.toNat : Int)) ∧ w'.cell? ⟨w.heap.size, 1, none⟩ = some (.string (str o.id)) ∧ w'.cell? ⟨w.heap.size, 2, none⟩ = some (.int .i64 o.tok) ∧ w'.cell? ⟨w.heap.size, 3, none⟩ = some (k) ∧ w'.cell? ⟨w.heap.size, 4, none⟩ = some (n) ∧ w'.cell? ⟨w.heap.size, 5, none⟩ = some (s0) ∧ w'.cell? ⟨w.heap.size, 6, none⟩ = some (d) ∧ w'.cell? ⟨w.heap.size, 7, none⟩ = some (.slice a m c) ∧ w'.cell? ⟨w.heap.size, 8, none⟩ = some (.int .i64 o.quo) ∧ w'.cell? ⟨w.heap.size + 1, 0, none⟩ = some (.int .u8 (p.what.toNat : Int)) ∧ w'.cell? ⟨w.heap.size + 1, 1, none⟩ = some (.string (str p.id)) ∧ w'.cell? ⟨w.heap.size + 1, 2, none⟩ = some (.int .i64 p.tok) ∧ w'.cell? ⟨w.heap.size + 1, 3, none⟩ = some (k') ∧ w'.cell? ⟨w.heap.size + 1, 4, none⟩ = some (n') ∧ w'.cell? ⟨w.heap.size + 1, 5, none⟩ = some (s') ∧ w'.cell? ⟨w.heap.size + 1, 6, none⟩ = some (d') ∧ w'.cell? ⟨w.heap.size + 1, 7, none⟩ = some (.slice a' m' c') ∧ w'.cell? ⟨w.heap.size + 1, 8, none⟩ = some (.int .i64 p.quo))) (by kernel_rfl) ?_ (fun hHeld => ?_)
    · (try dsimp only)
      (first | exact HS.out _ (Ext.refl _).drew | exact HS.out _ Y1.out | exact HS.out _ Y2.out | exact HS.out _ Y3.out | exact HS.out _ Y4.out | exact HS.out _ Y5.out)
    refine take_w 0 (some 43) (v := ?_) (by kernel_rfl) (by kernel_rfl) (by kernel_rfl) (by kernel_rfl) (by kernel_rfl) (fun _ _ _ h => h) (by rfl) ?_ (by assumption) ?_
    rotate_left
    · (intro w hSw; (try dsimp only at hSw); go_simp; try with_reducible rfl)
    try simp only [Act.put, List.setIfInBounds_toArray, List.set_cons_zero, List.set_cons_succ]
    refine take_w 2 (some 45) (v := ?_) (by kernel_rfl) (by kernel_rfl) (by kernel_rfl) (by kernel_rfl) (by kernel_rfl) (fun _ _ _ h => h) (by rfl) ?_ (by assumption) ?_
    rotate_left
    · (intro w hSw; (try dsimp only at hSw); go_simp; try with_reducible rfl)
    try simp only [Act.put, List.setIfInBounds_toArray, List.set_cons_zero, List.set_cons_succ]
    refine ready_one 1 (by kernel_rfl) (by kernel_rfl) (by rfl) (fun Kc hKc => ?_)
    go_simp
    refine (opID_any s hs _).mono ?_
    rintro e y1 ⟨rfl, hy1⟩
    have Y1 := Lib.hid ((Ext.refl w5).drew.trans hy1)
    clear hy1
    try go_wp2_with fail
    refine hKc.out _ _ ?_ (fun hHeld => ?_)
    · (try dsimp only)
      (first | exact HS.out _ (Ext.refl _).drew | exact HS.out _ Y1.out | exact HS.out _ Y2.out | exact HS.out _ Y3.out | exact HS.out _ Y4.out | exact HS.out _ Y5.out)
    clear hKc Kc
    try simp only [Act.put, List.setIfInBounds_toArray, List.set_cons_zero, List.set_cons_succ]
    refine ready_one 3 (by kernel_rfl) (by kernel_rfl) (by rfl) (fun Kc hKc => ?_)
    go_simp
    refine (rid_any s hs _).mono ?_
    rintro e y1b ⟨rfl, rfl⟩
    generalize idB s = qn
    try go_wp2_with fail
    refine hKc.out _ _ ?_ (fun hHeld => ?_)
    · (try dsimp only)
      (first | exact HS.out _ (Ext.refl _).drew | exact HS.out _ Y1.out | exact HS.out _ Y2.out | exact HS.out _ Y3.out | exact HS.out _ Y4.out | exact HS.out _ Y5.out)
    clear hKc Kc
    try simp only [Act.put, List.setIfInBounds_toArray, List.set_cons_zero, List.set_cons_succ]
    refine take_w 4 (some 47) (v := ?_) (by kernel_rfl) (by kernel_rfl) (by kernel_rfl) (by kernel_rfl) (by kernel_rfl) (fun _ _ _ h => h) (by rfl) ?_ (by assumption) ?_
    rotate_left
    · (intro w hSw; (try dsimp only at hSw); go_simp; try with_reducible rfl)
    try simp only [Act.put, List.setIfInBounds_toArray, List.set_cons_zero, List.set_cons_succ]
    refine take_w 5 (some 48) (v := ?_) (by kernel_rfl) (by kernel_rfl) (by kernel_rfl) (by kernel_rfl) (by kernel_rfl) (fun _ _ _ h => h) (by rfl) ?_ (by assumption) ?_
    rotate_left
    · (intro w hSw; (try dsimp only at hSw); go_simp; try with_reducible rfl)
    try simp only [Act.put, List.setIfInBounds_toArray, List.set_cons_zero, List.set_cons_succ]
    refine take_w 6 (some 49) (v := ?_) (by kernel_rfl) (by kernel_rfl) (by kernel_rfl) (by kernel_rfl) (by kernel_rfl) (fun _ _ _ h => h) (by rfl) ?_ (by assumption) ?_
    rotate_left
    · (intro w hSw; (try dsimp only at hSw); go_simp; try with_reducible rfl)
    try simp only [Act.put, List.setIfInBounds_toArray, List.set_cons_zero, List.set_cons_succ]
    refine take_w 8 (some 51) (v := ?_) (by kernel_rfl) (by kernel_rfl) (by kernel_rfl) (by kernel_rfl) (by kernel_rfl) (fun _ _ _ h => h) (by rfl) ?_ (by assumption) ?_
    rotate_left
    · (intro w hSw; (try dsimp only at hSw); go_simp; try with_reducible rfl)
    try simp only [Act.put, List.setIfInBounds_toArray, List.set_cons_zero, List.set_cons_succ]
    refine ready_one 7 (by kernel_rfl) (by kernel_rfl) (by rfl) (fun Kc hKc => ?_)
    go_simp
    refine (opRight_any o _ _ (HV.out.ext (HE5.out.trans Y1.out)) (HT.out.ext (HE5.out.trans Y1.out))).mono ?_
    rw [HRR.out]
    rintro e y3 ⟨rfl, hy3⟩
    have Y3 := Lib.hid (Y1.out.trans hy3)
    clear hy3
    try go_wp2_with fail
    refine hKc.out _ _ ?_ (fun hHeld => ?_)
    · (try dsimp only)
      (first | exact HS.out _ (Ext.refl _).drew | exact HS.out _ Y1.out | exact HS.out _ Y2.out | exact HS.out _ Y3.out | exact HS.out _ Y4.out | exact HS.out _ Y5.out)
    clear hKc Kc
    try simp only [Act.put, List.setIfInBounds_toArray, List.set_cons_zero, List.set_cons_succ]
    refine take_w 9 (some 52) (v := ?_) (by kernel_rfl) (by kernel_rfl) (by kernel_rfl) (by kernel_rfl) (by kernel_rfl) (fun _ _ _ h => h) (by rfl) ?_ (by assumption) ?_
    rotate_left
    · (intro w hSw; (try dsimp only at hSw); go_simp; try with_reducible rfl)
    try simp only [Act.put, List.setIfInBounds_toArray, List.set_cons_zero, List.set_cons_succ]
    refine take_w 10 (some 53) (v := ?_) (by kernel_rfl) (by kernel_rfl) (by kernel_rfl) (by kernel_rfl) (by kernel_rfl) (fun _ _ _ h => h) (by rfl) ?_ (by assumption) ?_
    rotate_left
    · (intro w hSw; (try dsimp only at hSw); go_simp; try with_reducible rfl)
    try simp only [Act.put, List.setIfInBounds_toArray, List.set_cons_zero, List.set_cons_succ]
    refine take_w 11 (some 54) (v := ?_) (by kernel_rfl) (by kernel_rfl) (by kernel_rfl) (by kernel_rfl) (by kernel_rfl) (fun _ _ _ h => h) (by rfl) ?_ (by assumption) ?_
    rotate_left
    · (intro w hSw; (try dsimp only at hSw); go_simp; try with_reducible rfl)
    try simp only [Act.put, List.setIfInBounds_toArray, List.set_cons_zero, List.set_cons_succ]
    refine take_w 12 (some 55) (v := ?_) (by kernel_rfl) (by kernel_rfl) (by kernel_rfl) (by kernel_rfl) (by kernel_rfl) (fun _ _ _ h => h) (by rfl) ?_ (by assumption) ?_
    rotate_left
    · (intro w hSw; (try dsimp only at hSw); go_simp; try with_reducible rfl)
    try simp only [Act.put, List.setIfInBounds_toArray, List.set_cons_zero, List.set_cons_succ]
    refine take_w 13 (some 56) (v := ?_) (by kernel_rfl) (by kernel_rfl) (by kernel_rfl) (by kernel_rfl) (by kernel_rfl) (fun _ _ _ h => h) (by rfl) ?_ (by assumption) ?_
    rotate_left
    · (intro w hSw; (try dsimp only at hSw); go_simp; try with_reducible rfl)
    try simp only [Act.put, List.setIfInBounds_toArray, List.set_cons_zero, List.set_cons_succ]
    refine take_w 14 (some 57) (v := ?_) (by kernel_rfl) (by kernel_rfl) (by kernel_rfl) (by kernel_rfl) (by kernel_rfl) (fun _ _ _ h => h) (by rfl) ?_ (by assumption) ?_
    rotate_left
    · (intro w hSw; (try dsimp only at hSw); go_simp; try with_reducible rfl)
    try simp only [Act.put, List.setIfInBounds_toArray, List.set_cons_zero, List.set_cons_succ]
    refine take_w 15 (some 58) (v := ?_) (by kernel_rfl) (by kernel_rfl) (by kernel_rfl) (by kernel_rfl) (by kernel_rfl) (fun _ _ _ h => h) (by rfl) ?_ (by assumption) ?_
    rotate_left
    · (intro w hSw; (try dsimp only at hSw); go_simp; try with_reducible rfl)
    try simp only [Act.put, List.setIfInBounds_toArray, List.set_cons_zero, List.set_cons_succ]
    refine take_w 16 (some 59) (v := ?_) (by kernel_rfl) (by kernel_rfl) (by kernel_rfl) (by kernel_rfl) (by kernel_rfl) (fun _ _ _ h => h) (by rfl) ?_ (by assumption) ?_
    rotate_left
    · (intro w hSw; (try dsimp only at hSw); go_simp; try with_reducible rfl)
    try simp only [Act.put, List.setIfInBounds_toArray, List.set_cons_zero, List.set_cons_succ]
    refine take_w 17 (some 60) (v := ?_) (by kernel_rfl) (by kernel_rfl) (by kernel_rfl) (by kernel_rfl) (by kernel_rfl) (fun _ _ _ h => h) (by rfl) ?_ (by assumption) ?_
    rotate_left
    · (intro w hSw; (try dsimp only at hSw); go_simp; try with_reducible rfl)
    try simp only [Act.put, List.setIfInBounds_toArray, List.set_cons_zero, List.set_cons_succ]
    refine take_w 18 (some 61) (v := ?_) (by kernel_rfl) (by kernel_rfl) (by kernel_rfl) (by kernel_rfl) (by kernel_rfl) (fun _ _ _ h => h) (by rfl) ?_ (by assumption) ?_
    rotate_left
    · (intro w hSw; (try dsimp only at hSw); go_simp; try with_reducible rfl)
    try simp only [Act.put, List.setIfInBounds_toArray, List.set_cons_zero, List.set_cons_succ]
    refine take_w 19 (some 62) (v := ?_) (by kernel_rfl) (by kernel_rfl) (by kernel_rfl) (by kernel_rfl) (by kernel_rfl) (fun _ _ _ h => h) (by rfl) ?_ (by assumption) ?_
    rotate_left
    · (intro w hSw; (try dsimp only at hSw); go_simp; try with_reducible rfl)
    try simp only [Act.put, List.setIfInBounds_toArray, List.set_cons_zero, List.set_cons_succ]
    refine take_w 20 (some 63) (v := ?_) (by kernel_rfl) (by kernel_rfl) (by kernel_rfl) (by kernel_rfl) (by kernel_rfl) (fun _ _ _ h => h) (by rfl) ?_ (by assumption) ?_
    rotate_left
    · (intro w hSw; (try dsimp only at hSw); go_simp; try with_reducible rfl)
    try simp only [Act.put, List.setIfInBounds_toArray, List.set_cons_zero, List.set_cons_succ]
    refine take_w 21 (some 64) (v := ?_) (by kernel_rfl) (by kernel_rfl) (by kernel_rfl) (by kernel_rfl) (by kernel_rfl) (fun _ _ _ h => h) (by rfl) ?_ (by assumption) ?_
    rotate_left
    · (intro w hSw; (try dsimp only at hSw); go_simp; try with_reducible rfl)
    try simp only [Act.put, List.setIfInBounds_toArray, List.set_cons_zero, List.set_cons_succ]
    refine take_w 22 (some 65) (v := ?_) (by kernel_rfl) (by kernel_rfl) (by kernel_rfl) (by kernel_rfl) (by kernel_rfl) (fun _ _ _ h => h) (by rfl) ?_ (by assumption) ?_
    rotate_left
    · (intro w hSw; (try dsimp only at hSw); go_simp; try with_reducible rfl)
    try simp only [Act.put, List.setIfInBounds_toArray, List.set_cons_zero, List.set_cons_succ]
    refine take_w 23 (some 66) (v := ?_) (by kernel_rfl) (by kernel_rfl) (by kernel_rfl) (by kernel_rfl) (by kernel_rfl) (fun _ _ _ h => h) (by rfl) ?_ (by assumption) ?_
    rotate_left
    · (intro w hSw; (try dsimp only at hSw); go_simp; try with_reducible rfl)
    try simp only [Act.put, List.setIfInBounds_toArray, List.set_cons_zero, List.set_cons_succ]
    refine take_w 24 (some 67) (v := ?_) (by kernel_rfl) (by kernel_rfl) (by kernel_rfl) (by kernel_rfl) (by kernel_rfl) (fun _ _ _ h => h) (by rfl) ?_ (by assumption) ?_
    rotate_left
    · (intro w hSw; (try dsimp only at hSw); go_simp; try with_reducible rfl)
    try simp only [Act.put, List.setIfInBounds_toArray, List.set_cons_zero, List.set_cons_succ]
    refine take_w 25 (some 68) (v := ?_) (by kernel_rfl) (by kernel_rfl) (by kernel_rfl) (by kernel_rfl) (by kernel_rfl) (fun _ _ _ h => h) (by rfl) ?_ (by assumption) ?_
    rotate_left
    · (intro w hSw; (try dsimp only at hSw); go_simp; try with_reducible rfl)
    try simp only [Act.put, List.setIfInBounds_toArray, List.set_cons_zero, List.set_cons_succ]
    refine take_w 26 (some 69) (v := ?_) (by kernel_rfl) (by kernel_rfl) (by kernel_rfl) (by kernel_rfl) (by kernel_rfl) (fun _ _ _ h => h) (by rfl) ?_ (by assumption) ?_
    rotate_left
    · (intro w hSw; (try dsimp only at hSw); go_simp; try with_reducible rfl)
    try simp only [Act.put, List.setIfInBounds_toArray, List.set_cons_zero, List.set_cons_succ]
    refine take_w 27 (some 70) (v := ?_) (by kernel_rfl) (by kernel_rfl) (by kernel_rfl) (by kernel_rfl) (by kernel_rfl) (fun _ _ _ h => h) (by rfl) ?_ (by assumption) ?_
    rotate_left
    · (intro w hSw; (try dsimp only at hSw); go_simp; try with_reducible rfl)
    try simp only [Act.put, List.setIfInBounds_toArray, List.set_cons_zero, List.set_cons_succ]
    refine take_w 28 (some 71) (v := ?_) (by kernel_rfl) (by kernel_rfl) (by kernel_rfl) (by kernel_rfl) (by kernel_rfl) (fun _ _ _ h => h) (by rfl) ?_ (by assumption) ?_
    rotate_left
    · (intro w hSw; (try dsimp only at hSw); go_simp; try with_reducible rfl)
    try simp only [Act.put, List.setIfInBounds_toArray, List.set_cons_zero, List.set_cons_succ]
    refine take_w 29 (some 72) (v := ?_) (by kernel_rfl) (by kernel_rfl) (by kernel_rfl) (by kernel_rfl) (by kernel_rfl) (fun _ _ _ h => h) (by rfl) ?_ (by assumption) ?_
    rotate_left
    · (intro w hSw; (try dsimp only at hSw); go_simp; try with_reducible rfl)
    try simp only [Act.put, List.setIfInBounds_toArray, List.set_cons_zero, List.set_cons_succ]
    refine take_w 30 (some 73) (v := ?_) (by kernel_rfl) (by kernel_rfl) (by kernel_rfl) (by kernel_rfl) (by kernel_rfl) (fun _ _ _ h => h) (by rfl) ?_ (by assumption) ?_
    rotate_left
    · (intro w hSw; (try dsimp only at hSw); go_simp; try with_reducible rfl)
    try simp only [Act.put, List.setIfInBounds_toArray, List.set_cons_zero, List.set_cons_succ]
    refine take_w 31 (some 74) (v := ?_) (by kernel_rfl) (by kernel_rfl) (by kernel_rfl) (by kernel_rfl) (by kernel_rfl) (fun _ _ _ h => h) (by rfl) ?_ (by assumption) ?_
    rotate_left
    · (intro w hSw; (try dsimp only at hSw); go_simp; try with_reducible rfl)
    try simp only [Act.put, List.setIfInBounds_toArray, List.set_cons_zero, List.set_cons_succ]
    refine take_w 32 (some 75) (v := ?_) (by kernel_rfl) (by kernel_rfl) (by kernel_rfl) (by kernel_rfl) (by kernel_rfl) (fun _ _ _ h => h) (by rfl) ?_ (by assumption) ?_
    rotate_left
    · (intro w hSw; (try dsimp only at hSw); go_simp; try with_reducible rfl)
    try simp only [Act.put, List.setIfInBounds_toArray, List.set_cons_zero, List.set_cons_succ]
    refine take_w 34 (some 77) (v := ?_) (by kernel_rfl) (by kernel_rfl) (by kernel_rfl) (by kernel_rfl) (by kernel_rfl) (fun _ _ _ h => h) (by rfl) ?_ (by assumption) ?_
    rotate_left
    · (intro w hSw; (try dsimp only at hSw); go_simp; try with_reducible rfl)
    try simp only [Act.put, List.setIfInBounds_toArray, List.set_cons_zero, List.set_cons_succ]
    refine take_w 35 (some 78) (v := ?_) (by kernel_rfl) (by kernel_rfl) (by kernel_rfl) (by kernel_rfl) (by kernel_rfl) (fun _ _ _ h => h) (by rfl) ?_ (by assumption) ?_
    rotate_left
    · (intro w hSw; (try dsimp only at hSw); go_simp; try with_reducible rfl)
    try simp only [Act.put, List.setIfInBounds_toArray, List.set_cons_zero, List.set_cons_succ]
    refine ready_one 33 (by kernel_rfl) (by kernel_rfl) (by rfl) (fun Kc hKc => ?_)
    go_simp
    refine (opSame_any o p _ _ _ (HV.out.ext (HE5.out.trans Y3.out)) (HU.out.ext (HE5.out.trans Y3.out))).mono ?_
    rintro e y4 ⟨rfl, hy4⟩
    have Y4 := Lib.hid (Y3.out.trans hy4)
    clear hy4
    try go_wp2_with fail
    refine hKc.out _ _ ?_ (fun hHeld => ?_)
    · (try dsimp only)
      (first | exact HS.out _ (Ext.refl _).drew | exact HS.out _ Y1.out | exact HS.out _ Y2.out | exact HS.out _ Y3.out | exact HS.out _ Y4.out | exact HS.out _ Y5.out)
    clear hKc Kc
    try simp only [Act.put, List.setIfInBounds_toArray, List.set_cons_zero, List.set_cons_succ]
    refine ready_one 36 (by kernel_rfl) (by kernel_rfl) (by rfl) (fun Kc hKc => ?_)
    go_simp
    refine (rOpSame_any o p _ _ _ (HV.out.ext (HE5.out.trans Y4.out)) (HU.out.ext (HE5.out.trans Y4.out))).mono ?_
    rintro e y5 ⟨rfl, hy5⟩
    have Y5 := Lib.hid (Y4.out.trans hy5)
    clear hy5
    generalize eqO o p = qe
    try go_wp2_with fail
    refine hKc.out _ _ ?_ (fun hHeld => ?_)
    · (try dsimp only)
      (first | exact HS.out _ (Ext.refl _).drew | exact HS.out _ Y1.out | exact HS.out _ Y2.out | exact HS.out _ Y3.out | exact HS.out _ Y4.out | exact HS.out _ Y5.out)
    clear hKc Kc
    try simp only [Act.put, List.setIfInBounds_toArray, List.set_cons_zero, List.set_cons_succ]
    refine take_w 37 (some 80) (v := ?_) (by kernel_rfl) (by kernel_rfl) (by kernel_rfl) (by kernel_rfl) (by kernel_rfl) (fun _ _ _ h => h) (by rfl) ?_ (by assumption) ?_
    rotate_left
    · (intro w hSw; (try dsimp only at hSw); go_simp; try with_reducible rfl)
    try simp only [Act.put, List.setIfInBounds_toArray, List.set_cons_zero, List.set_cons_succ]
    refine take_w 38 (some 81) (v := ?_) (by kernel_rfl) (by kernel_rfl) (by kernel_rfl) (by kernel_rfl) (by kernel_rfl) (fun _ _ _ h => h) (by rfl) ?_ (by assumption) ?_
    rotate_left
    · (intro w hSw; (try dsimp only at hSw); go_simp; try with_reducible rfl)
    try simp only [Act.put, List.setIfInBounds_toArray, List.set_cons_zero, List.set_cons_succ]
    refine wpAnyH_done (by kernel_rfl) ?_ _
    go_wp2_with fail
    have HER := Lib.hid (HE5.out.trans Y5.out)
    clear H15 H25 HS HE5 HRR Y1 Y3 Y4 Y5
    obtain ⟨wR, hwR⟩ : ∃ wR, wR = y5 := ⟨_, rfl⟩
    subst hwR
    refine (opParse_any _ be wR (HB.out.ext HER.out) (HT.out.ext HER.out)).mono ?_
    rintro e w8 ⟨kk1, ids1, tt1, vk1, vn1, vs1, va1, vm1, vc1, fa1, fm1, fc1, qq1, f4, x, rfl, hE8, hO8, hno, hyes⟩
    have HA8 := Lib.hid ((Ext.refl w8).alloc (.cells #[.int .u8 kk1, .string ids1, .int .i64 tt1, .int .u8 vk1, .int .i64 vn1, .string vs1, .slice va1 vm1 vc1, .slice fa1 fm1 fc1, .int .i64 qq1] 46))
    have HN8 : Hid (BoxL (w8.alloc (.cells #[.int .u8 kk1, .string ids1, .int .i64 tt1, .int .u8 vk1, .int .i64 vn1, .string vs1, .slice va1 vm1 vc1, .slice fa1 fm1 fc1, .int .i64 qq1] 46)) w8.heap.size [.int .u8 kk1, .string ids1, .int .i64 tt1, .int .u8 vk1, .int .i64 vn1, .string vs1, .slice va1 vm1 vc1, .slice fa1 fm1 fc1, .int .i64 qq1]) := Lib.hid (BoxL.new w8 [.int .u8 kk1, .string ids1, .int .i64 tt1, .int .u8 vk1, .int .i64 vn1, .string vs1, .slice va1 vm1 vc1, .slice fa1 fm1 fc1, .int .i64 qq1] _)
    have HE8 := Lib.hid ((HER.out.trans hE8).trans HA8.out)
    have HO8 := Lib.hid (hO8.ext HA8.out)
    have hz8 : (w8.alloc (.cells #[.int .u8 kk1, .string ids1, .int .i64 tt1, .int .u8 vk1, .int .i64 vn1, .string vs1, .slice va1 vm1 vc1, .slice fa1 fm1 fc1, .int .i64 qq1] 46)).heap.size = w8.heap.size + 1 := by simp
    clear hE8 hO8 HER
    go_wp2_with fail
    generalize w8.alloc (.cells #[.int .u8 kk1, .string ids1, .int .i64 tt1, .int .u8 vk1, .int .i64 vn1, .string vs1, .slice va1 vm1 vc1, .slice fa1 fm1 fc1, .int .i64 qq1] 46) = W8 at *
    refine (rparseO_any _ be W8 (HB.out.ext HE8.out)).mono ?_
    rintro e w9 ⟨kk2, ids2, tt2, vk2, vn2, vs2, va2, vm2, vc2, fa2, fm2, fc2, qq2, ok, y, rfl, hE9, hO9, hno2, hyes2⟩
    have HA9 := Lib.hid ((Ext.refl w9).alloc (.cells #[.int .u8 kk2, .string ids2, .int .i64 tt2, .int .u8 vk2, .int .i64 vn2, .string vs2, .slice va2 vm2 vc2, .slice fa2 fm2 fc2, .int .i64 qq2] 46))
    have HN9 : Hid (BoxL (w9.alloc (.cells #[.int .u8 kk2, .string ids2, .int .i64 tt2, .int .u8 vk2, .int .i64 vn2, .string vs2, .slice va2 vm2 vc2, .slice fa2 fm2 fc2, .int .i64 qq2] 46)) w9.heap.size [.int .u8 kk2, .string ids2, .int .i64 tt2, .int .u8 vk2, .int .i64 vn2, .string vs2, .slice va2 vm2 vc2, .slice fa2 fm2 fc2, .int .i64 qq2]) := Lib.hid (BoxL.new w9 [.int .u8 kk2, .string ids2, .int .i64 tt2, .int .u8 vk2, .int .i64 vn2, .string vs2, .slice va2 vm2 vc2, .slice fa2 fm2 fc2, .int .i64 qq2] _)
    have HE9 := Lib.hid ((HE8.out.trans hE9).trans HA9.out)
    have HO89 := Lib.hid ((HO8.out.ext hE9).ext HA9.out)
    have HN89 := Lib.hid ((HN8.out.ext hE9).ext HA9.out)
    have HO9 := Lib.hid (hO9.ext HA9.out)
    have hlt : w8.heap.size < w9.heap.size := by have := hE9.size; omega
    clear hE9 hO9 HE8 HO8 HN8 HA8
    go_upto_region 13 with (fail)
    generalize w9.alloc (.cells #[.int .u8 kk2, .string ids2, .int .i64 tt2, .int .u8 vk2, .int .i64 vn2, .string vs2, .slice va2 vm2 vc2, .slice fa2 fm2 fc2, .int .i64 qq2] 46) = W9 at *
    have ⟨p0, p1, p2, p3, p4, p5, p6, p7, p8⟩ := HN89.out.nine
    have ⟨q0, q1, q2, q3, q4, q5, q6, q7, q8⟩ := HN9.out.nine
    have hxy : x = y ∧ ((ok = true ∧ f4 = 0) ∨ (ok = false ∧ f4 = 30)) := by
      cases hp : parseO be with
      | none =>
        obtain ⟨r1, r2⟩ := hno hp
        obtain ⟨r3, r4⟩ := hno2 hp
        exact ⟨by rw [r2, r4], .inr ⟨r3, r1⟩⟩
      | some z =>
        obtain ⟨r1, r2⟩ := hyes z hp
        obtain ⟨r3, r4⟩ := hyes2 z hp
        exact ⟨by rw [r2, r4], .inl ⟨r3, r1⟩⟩
    obtain ⟨rfl, hok⟩ := hxy
    clear hno hyes hno2 hyes2 HA9
    rcases hok with ⟨rfl, rfl⟩ | ⟨rfl, rfl⟩
    all_goals
      go_wp2_with fail
      refine (rOpSame_any x x W9 _ _ HO89.out.v HO9.out.v).mono ?_
      rw [eqO_iff.2 (rfl : x = x)]
      rintro e wA ⟨rfl, hEA⟩
      have HEA := Lib.hid (HE9.out.trans hEA)
      clear hEA HO89 HO9 HN89 HN9 HE9 p0 p1 p2 p3 p4 p5 p6 p7 p8 q0 q1 q2 q3 q4 q5 q6 q7 q8
      go_wp2_with fail
      refine (awake10 _ (HT.out.ext HEA.out)).mono ?_
      rintro e wz ⟨rfl, hEz⟩
      have HEz := Lib.hid (HEA.out.trans hEz)
      clear hEz
      go_wp2
      go_ret
      exact ⟨rfl, HEz.out⟩
  | true =>
    have HRR := Lib.hid hr
    obtain ⟨rfl, ho1⟩ := hyes1 hr
    have HX1 := Lib.hid ho1.bytes
    clear hno1 hyes1 hr ho1
    go_upto_region 5 with (fail)
    refine wp_region_held_drew (S := (fun w' => w'.cell? ⟨w.heap.size, 0, none⟩ = some (.int .u8 (o.what.toNat : Int)) ∧ w'.cell? ⟨w.heap.size, 1, none⟩ = some (.string (str o.id)) ∧ w'.cell? ⟨w.heap.size, 2, none⟩ = some (.int .i64 o.tok) ∧ w'.cell? ⟨w.heap.size, 3, none⟩ = some (k) ∧ w'.cell? ⟨w.heap.size, 4, none⟩ = some (n) ∧ w'.cell? ⟨w.heap.size, 5, none⟩ = some (s0) ∧ w'.cell? ⟨w.heap.size, 6, none⟩ = some (d) ∧ w'.cell? ⟨w.heap.size, 7, none⟩ = some (.slice a m c) ∧ w'.cell? ⟨w.heap.size, 8, none⟩ = some (.int .i64 o.quo) ∧ w'.cell? ⟨w.heap.size + 1, 0, none⟩ = some (.int .u8 (p.what.toNat : Int)) ∧ w'.cell? ⟨w.heap.size + 1, 1, none⟩ = some (.string (str p.id)) ∧ w'.cell? ⟨w.heap.size + 1, 2, none⟩ = some (.int .i64 p.tok) ∧ w'.cell? ⟨w.heap.size + 1, 3, none⟩ = some (k') ∧ w'.cell? ⟨w.heap.size + 1, 4, none⟩ = some (n') ∧ w'.cell? ⟨w.heap.size + 1, 5, none⟩ = some (s') ∧ w'.cell? ⟨w.heap.size + 1, 6, none⟩ = some (d') ∧ w'.cell? ⟨w.heap.size + 1, 7, none⟩ = some (.slice a' m' c') ∧ w'.cell? ⟨w.heap.size + 1, 8, none⟩ = some (.int .i64 p.quo))) (by kernel_rfl) ?_ (fun hHeld => ?_)
    · (try dsimp only)
      (first | exact HS.out _ (Ext.refl _).drew | exact HS.out _ Y1.out | exact HS.out _ Y2.out | exact HS.out _ Y3.out | exact HS.out _ Y4.out | exact HS.out _ Y5.out)
    refine take_w 0 (some 43) (v := ?_) (by kernel_rfl) (by kernel_rfl) (by kernel_rfl) (by kernel_rfl) (by kernel_rfl) (fun _ _ _ h => h) (by rfl) ?_ (by assumption) ?_
    rotate_left
    · (intro w hSw; (try dsimp only at hSw); go_simp; try with_reducible rfl)
    try simp only [Act.put, List.setIfInBounds_toArray, List.set_cons_zero, List.set_cons_succ]
    refine take_w 2 (some 45) (v := ?_) (by kernel_rfl) (by kernel_rfl) (by kernel_rfl) (by kernel_rfl) (by kernel_rfl) (fun _ _ _ h => h) (by rfl) ?_ (by assumption) ?_
    rotate_left
    · (intro w hSw; (try dsimp only at hSw); go_simp; try with_reducible rfl)
    try simp only [Act.put, List.setIfInBounds_toArray, List.set_cons_zero, List.set_cons_succ]
    refine ready_one 1 (by kernel_rfl) (by kernel_rfl) (by rfl) (fun Kc hKc => ?_)
    go_simp
    refine (opID_any s hs _).mono ?_
    rintro e y1 ⟨rfl, hy1⟩
    have Y1 := Lib.hid ((Ext.refl w5).drew.trans hy1)
    clear hy1
    try go_wp2_with fail
    refine hKc.out _ _ ?_ (fun hHeld => ?_)
    · (try dsimp only)
      (first | exact HS.out _ (Ext.refl _).drew | exact HS.out _ Y1.out | exact HS.out _ Y2.out | exact HS.out _ Y3.out | exact HS.out _ Y4.out | exact HS.out _ Y5.out)
    clear hKc Kc
    try simp only [Act.put, List.setIfInBounds_toArray, List.set_cons_zero, List.set_cons_succ]
    refine ready_one 3 (by kernel_rfl) (by kernel_rfl) (by rfl) (fun Kc hKc => ?_)
    go_simp
    refine (rid_any s hs _).mono ?_
    rintro e y1b ⟨rfl, rfl⟩
    generalize idB s = qn
    try go_wp2_with fail
    refine hKc.out _ _ ?_ (fun hHeld => ?_)
    · (try dsimp only)
      (first | exact HS.out _ (Ext.refl _).drew | exact HS.out _ Y1.out | exact HS.out _ Y2.out | exact HS.out _ Y3.out | exact HS.out _ Y4.out | exact HS.out _ Y5.out)
    clear hKc Kc
    try simp only [Act.put, List.setIfInBounds_toArray, List.set_cons_zero, List.set_cons_succ]
    refine take_w 4 (some 47) (v := ?_) (by kernel_rfl) (by kernel_rfl) (by kernel_rfl) (by kernel_rfl) (by kernel_rfl) (fun _ _ _ h => h) (by rfl) ?_ (by assumption) ?_
    rotate_left
    · (intro w hSw; (try dsimp only at hSw); go_simp; try with_reducible rfl)
    try simp only [Act.put, List.setIfInBounds_toArray, List.set_cons_zero, List.set_cons_succ]
    refine take_w 5 (some 48) (v := ?_) (by kernel_rfl) (by kernel_rfl) (by kernel_rfl) (by kernel_rfl) (by kernel_rfl) (fun _ _ _ h => h) (by rfl) ?_ (by assumption) ?_
    rotate_left
    · (intro w hSw; (try dsimp only at hSw); go_simp; try with_reducible rfl)
    try simp only [Act.put, List.setIfInBounds_toArray, List.set_cons_zero, List.set_cons_succ]
    refine take_w 6 (some 49) (v := ?_) (by kernel_rfl) (by kernel_rfl) (by kernel_rfl) (by kernel_rfl) (by kernel_rfl) (fun _ _ _ h => h) (by rfl) ?_ (by assumption) ?_
    rotate_left
    · (intro w hSw; (try dsimp only at hSw); go_simp; try with_reducible rfl)
    try simp only [Act.put, List.setIfInBounds_toArray, List.set_cons_zero, List.set_cons_succ]
    refine take_w 8 (some 51) (v := ?_) (by kernel_rfl) (by kernel_rfl) (by kernel_rfl) (by kernel_rfl) (by kernel_rfl) (fun _ _ _ h => h) (by rfl) ?_ (by assumption) ?_
    rotate_left
    · (intro w hSw; (try dsimp only at hSw); go_simp; try with_reducible rfl)
    try simp only [Act.put, List.setIfInBounds_toArray, List.set_cons_zero, List.set_cons_succ]
    refine ready_one 7 (by kernel_rfl) (by kernel_rfl) (by rfl) (fun Kc hKc => ?_)
    go_simp
    refine (opRight_any o _ _ (HV.out.ext (HE5.out.trans Y1.out)) (HT.out.ext (HE5.out.trans Y1.out))).mono ?_
    rw [HRR.out]
    rintro e y3 ⟨rfl, hy3⟩
    have Y3 := Lib.hid (Y1.out.trans hy3)
    clear hy3
    try go_wp2_with fail
    refine hKc.out _ _ ?_ (fun hHeld => ?_)
    · (try dsimp only)
      (first | exact HS.out _ (Ext.refl _).drew | exact HS.out _ Y1.out | exact HS.out _ Y2.out | exact HS.out _ Y3.out | exact HS.out _ Y4.out | exact HS.out _ Y5.out)
    clear hKc Kc
    try simp only [Act.put, List.setIfInBounds_toArray, List.set_cons_zero, List.set_cons_succ]
    refine take_w 9 (some 52) (v := ?_) (by kernel_rfl) (by kernel_rfl) (by kernel_rfl) (by kernel_rfl) (by kernel_rfl) (fun _ _ _ h => h) (by rfl) ?_ (by assumption) ?_
    rotate_left
    · (intro w hSw; (try dsimp only at hSw); go_simp; try with_reducible rfl)
    try simp only [Act.put, List.setIfInBounds_toArray, List.set_cons_zero, List.set_cons_succ]
    refine take_w 10 (some 53) (v := ?_) (by kernel_rfl) (by kernel_rfl) (by kernel_rfl) (by kernel_rfl) (by kernel_rfl) (fun _ _ _ h => h) (by rfl) ?_ (by assumption) ?_
    rotate_left
    · (intro w hSw; (try dsimp only at hSw); go_simp; try with_reducible rfl)
    try simp only [Act.put, List.setIfInBounds_toArray, List.set_cons_zero, List.set_cons_succ]
    refine take_w 11 (some 54) (v := ?_) (by kernel_rfl) (by kernel_rfl) (by kernel_rfl) (by kernel_rfl) (by kernel_rfl) (fun _ _ _ h => h) (by rfl) ?_ (by assumption) ?_
    rotate_left
    · (intro w hSw; (try dsimp only at hSw); go_simp; try with_reducible rfl)
    try simp only [Act.put, List.setIfInBounds_toArray, List.set_cons_zero, List.set_cons_succ]
    refine take_w 12 (some 55) (v := ?_) (by kernel_rfl) (by kernel_rfl) (by kernel_rfl) (by kernel_rfl) (by kernel_rfl) (fun _ _ _ h => h) (by rfl) ?_ (by assumption) ?_
    rotate_left
    · (intro w hSw; (try dsimp only at hSw); go_simp; try with_reducible rfl)
    try simp only [Act.put, List.setIfInBounds_toArray, List.set_cons_zero, List.set_cons_succ]
    refine take_w 13 (some 56) (v := ?_) (by kernel_rfl) (by kernel_rfl) (by kernel_rfl) (by kernel_rfl) (by kernel_rfl) (fun _ _ _ h => h) (by rfl) ?_ (by assumption) ?_
    rotate_left
    · (intro w hSw; (try dsimp only at hSw); go_simp; try with_reducible rfl)
    try simp only [Act.put, List.setIfInBounds_toArray, List.set_cons_zero, List.set_cons_succ]
    refine take_w 14 (some 57) (v := ?_) (by kernel_rfl) (by kernel_rfl) (by kernel_rfl) (by kernel_rfl) (by kernel_rfl) (fun _ _ _ h => h) (by rfl) ?_ (by assumption) ?_
    rotate_left
    · (intro w hSw; (try dsimp only at hSw); go_simp; try with_reducible rfl)
    try simp only [Act.put, List.setIfInBounds_toArray, List.set_cons_zero, List.set_cons_succ]
    refine take_w 15 (some 58) (v := ?_) (by kernel_rfl) (by kernel_rfl) (by kernel_rfl) (by kernel_rfl) (by kernel_rfl) (fun _ _ _ h => h) (by rfl) ?_ (by assumption) ?_
    rotate_left
    · (intro w hSw; (try dsimp only at hSw); go_simp; try with_reducible rfl)
    try simp only [Act.put, List.setIfInBounds_toArray, List.set_cons_zero, List.set_cons_succ]
    refine take_w 16 (some 59) (v := ?_) (by kernel_rfl) (by kernel_rfl) (by kernel_rfl) (by kernel_rfl) (by kernel_rfl) (fun _ _ _ h => h) (by rfl) ?_ (by assumption) ?_
    rotate_left
    · (intro w hSw; (try dsimp only at hSw); go_simp; try with_reducible rfl)
    try simp only [Act.put, List.setIfInBounds_toArray, List.set_cons_zero, List.set_cons_succ]
    refine take_w 17 (some 60) (v := ?_) (by kernel_rfl) (by kernel_rfl) (by kernel_rfl) (by kernel_rfl) (by kernel_rfl) (fun _ _ _ h => h) (by rfl) ?_ (by assumption) ?_
    rotate_left
    · (intro w hSw; (try dsimp only at hSw); go_simp; try with_reducible rfl)
    try simp only [Act.put, List.setIfInBounds_toArray, List.set_cons_zero, List.set_cons_succ]
    refine take_w 18 (some 61) (v := ?_) (by kernel_rfl) (by kernel_rfl) (by kernel_rfl) (by kernel_rfl) (by kernel_rfl) (fun _ _ _ h => h) (by rfl) ?_ (by assumption) ?_
    rotate_left
    · (intro w hSw; (try dsimp only at hSw); go_simp; try with_reducible rfl)
    try simp only [Act.put, List.setIfInBounds_toArray, List.set_cons_zero, List.set_cons_succ]
    refine take_w 19 (some 62) (v := ?_) (by kernel_rfl) (by kernel_rfl) (by kernel_rfl) (by kernel_rfl) (by kernel_rfl) (fun _ _ _ h => h) (by rfl) ?_ (by assumption) ?_
    rotate_left
    · (intro w hSw; (try dsimp only at hSw); go_simp; try with_reducible rfl)
    try simp only [Act.put, List.setIfInBounds_toArray, List.set_cons_zero, List.set_cons_succ]
    refine take_w 20 (some 63) (v := ?_) (by kernel_rfl) (by kernel_rfl) (by kernel_rfl) (by kernel_rfl) (by kernel_rfl) (fun _ _ _ h => h) (by rfl) ?_ (by assumption) ?_
    rotate_left
    · (intro w hSw; (try dsimp only at hSw); go_simp; try with_reducible rfl)
    try simp only [Act.put, List.setIfInBounds_toArray, List.set_cons_zero, List.set_cons_succ]
    refine take_un 7 [(21, some 64), (22, some 65), (23, some 66), (24, some 67), (25, some 68), (26, some 69), (27, some 70)] rfl (by kernel_rfl) (fun _ _ _ _ h => h) (by assumption) ?_
    simp only [putU, setU, Act.put, List.setIfInBounds_toArray, List.set_cons_zero, List.set_cons_succ]
    refine take_w 28 (some 71) (v := ?_) (by kernel_rfl) (by kernel_rfl) (by kernel_rfl) (by kernel_rfl) (by kernel_rfl) (fun _ _ _ h => h) (by rfl) ?_ (by assumption) ?_
    rotate_left
    · (intro w hSw; (try dsimp only at hSw); go_simp; try with_reducible rfl)
    try simp only [Act.put, List.setIfInBounds_toArray, List.set_cons_zero, List.set_cons_succ]
    refine take_w 29 (some 72) (v := ?_) (by kernel_rfl) (by kernel_rfl) (by kernel_rfl) (by kernel_rfl) (by kernel_rfl) (fun _ _ _ h => h) (by rfl) ?_ (by assumption) ?_
    rotate_left
    · (intro w hSw; (try dsimp only at hSw); go_simp; try with_reducible rfl)
    try simp only [Act.put, List.setIfInBounds_toArray, List.set_cons_zero, List.set_cons_succ]
    refine take_w 30 (some 73) (v := ?_) (by kernel_rfl) (by kernel_rfl) (by kernel_rfl) (by kernel_rfl) (by kernel_rfl) (fun _ _ _ h => h) (by rfl) ?_ (by assumption) ?_
    rotate_left
    · (intro w hSw; (try dsimp only at hSw); go_simp; try with_reducible rfl)
    try simp only [Act.put, List.setIfInBounds_toArray, List.set_cons_zero, List.set_cons_succ]
    refine take_w 31 (some 74) (v := ?_) (by kernel_rfl) (by kernel_rfl) (by kernel_rfl) (by kernel_rfl) (by kernel_rfl) (fun _ _ _ h => h) (by rfl) ?_ (by assumption) ?_
    rotate_left
    · (intro w hSw; (try dsimp only at hSw); go_simp; try with_reducible rfl)
    try simp only [Act.put, List.setIfInBounds_toArray, List.set_cons_zero, List.set_cons_succ]
    refine take_w 32 (some 75) (v := ?_) (by kernel_rfl) (by kernel_rfl) (by kernel_rfl) (by kernel_rfl) (by kernel_rfl) (fun _ _ _ h => h) (by rfl) ?_ (by assumption) ?_
    rotate_left
    · (intro w hSw; (try dsimp only at hSw); go_simp; try with_reducible rfl)
    try simp only [Act.put, List.setIfInBounds_toArray, List.set_cons_zero, List.set_cons_succ]
    refine take_w 34 (some 77) (v := ?_) (by kernel_rfl) (by kernel_rfl) (by kernel_rfl) (by kernel_rfl) (by kernel_rfl) (fun _ _ _ h => h) (by rfl) ?_ (by assumption) ?_
    rotate_left
    · (intro w hSw; (try dsimp only at hSw); go_simp; try with_reducible rfl)
    try simp only [Act.put, List.setIfInBounds_toArray, List.set_cons_zero, List.set_cons_succ]
    refine take_w 35 (some 78) (v := ?_) (by kernel_rfl) (by kernel_rfl) (by kernel_rfl) (by kernel_rfl) (by kernel_rfl) (fun _ _ _ h => h) (by rfl) ?_ (by assumption) ?_
    rotate_left
    · (intro w hSw; (try dsimp only at hSw); go_simp; try with_reducible rfl)
    try simp only [Act.put, List.setIfInBounds_toArray, List.set_cons_zero, List.set_cons_succ]
    refine ready_one 33 (by kernel_rfl) (by kernel_rfl) (by rfl) (fun Kc hKc => ?_)
    go_simp
    refine (opSame_any o p _ _ _ (HV.out.ext (HE5.out.trans Y3.out)) (HU.out.ext (HE5.out.trans Y3.out))).mono ?_
    rintro e y4 ⟨rfl, hy4⟩
    have Y4 := Lib.hid (Y3.out.trans hy4)
    clear hy4
    try go_wp2_with fail
    refine hKc.out _ _ ?_ (fun hHeld => ?_)
    · (try dsimp only)
      (first | exact HS.out _ (Ext.refl _).drew | exact HS.out _ Y1.out | exact HS.out _ Y2.out | exact HS.out _ Y3.out | exact HS.out _ Y4.out | exact HS.out _ Y5.out)
    clear hKc Kc
    try simp only [Act.put, List.setIfInBounds_toArray, List.set_cons_zero, List.set_cons_succ]
    refine ready_one 36 (by kernel_rfl) (by kernel_rfl) (by rfl) (fun Kc hKc => ?_)
    go_simp
    refine (rOpSame_any o p _ _ _ (HV.out.ext (HE5.out.trans Y4.out)) (HU.out.ext (HE5.out.trans Y4.out))).mono ?_
    rintro e y5 ⟨rfl, hy5⟩
    have Y5 := Lib.hid (Y4.out.trans hy5)
    clear hy5
    generalize eqO o p = qe
    try go_wp2_with fail
    refine hKc.out _ _ ?_ (fun hHeld => ?_)
    · (try dsimp only)
      (first | exact HS.out _ (Ext.refl _).drew | exact HS.out _ Y1.out | exact HS.out _ Y2.out | exact HS.out _ Y3.out | exact HS.out _ Y4.out | exact HS.out _ Y5.out)
    clear hKc Kc
    try simp only [Act.put, List.setIfInBounds_toArray, List.set_cons_zero, List.set_cons_succ]
    refine take_w 37 (some 80) (v := ?_) (by kernel_rfl) (by kernel_rfl) (by kernel_rfl) (by kernel_rfl) (by kernel_rfl) (fun _ _ _ h => h) (by rfl) ?_ (by assumption) ?_
    rotate_left
    · (intro w hSw; (try dsimp only at hSw); go_simp; try with_reducible rfl)
    try simp only [Act.put, List.setIfInBounds_toArray, List.set_cons_zero, List.set_cons_succ]
    refine take_w 38 (some 81) (v := ?_) (by kernel_rfl) (by kernel_rfl) (by kernel_rfl) (by kernel_rfl) (by kernel_rfl) (fun _ _ _ h => h) (by rfl) ?_ (by assumption) ?_
    rotate_left
    · (intro w hSw; (try dsimp only at hSw); go_simp; try with_reducible rfl)
    try simp only [Act.put, List.setIfInBounds_toArray, List.set_cons_zero, List.set_cons_succ]
    refine wpAnyH_done (by kernel_rfl) ?_ _
    have H1y := Lib.hid (H15.out.ext Y5.out)
    have ⟨p0, p1, p2, p3, p4, p5, p6, p7, p8⟩ := H1y.out.nine
    have HEy := Lib.hid (HE5.out.trans Y5.out)
    have HX2 := Lib.hid (HX1.out.ext Y5.out)
    clear H15 H25 HS HE5 HX1 Y1 Y3 Y4 Y5
    go_wp2_with fail
    refine (rOpBytes_any o HRR.out y5 _ (HV.out.ext HEy.out)).mono ?_
    rintro e w6 ⟨v6, rfl, h6⟩
    have HE6 := Lib.hid (HEy.out.trans h6.2)
    have HX6 := Lib.hid (HX2.out.ext h6.2)
    have hb6 := h6.bytes
    obtain ⟨a6, c6, rfl, -⟩ := id hb6
    have HB6 := Lib.hid hb6
    clear h6 hb6 H1y HEy HX2 HRR p0 p1 p2 p3 p4 p5 p6 p7 p8
    obtain ⟨ax2, cx2, ex, -⟩ := id HX6.out
    injection ex with ea eb ec
    subst ea eb ec
    go_wp2_with fail
    refine (same_any _ _ _ _ w6 HX6.out HB6.out).mono ?_
    rw [decide_eq_true (show opBy o = opBy o from rfl)]
    rintro e w6' ⟨rfl, rfl⟩
    have HER := HE6
    clear HX6 HB6 HE6
    obtain ⟨wR, hwR⟩ : ∃ wR, wR = w6 := ⟨_, rfl⟩
    subst hwR
    go_wp2_with fail
    refine (opParse_any _ be wR (HB.out.ext HER.out) (HT.out.ext HER.out)).mono ?_
    rintro e w8 ⟨kk1, ids1, tt1, vk1, vn1, vs1, va1, vm1, vc1, fa1, fm1, fc1, qq1, f4, x, rfl, hE8, hO8, hno, hyes⟩
    have HA8 := Lib.hid ((Ext.refl w8).alloc (.cells #[.int .u8 kk1, .string ids1, .int .i64 tt1, .int .u8 vk1, .int .i64 vn1, .string vs1, .slice va1 vm1 vc1, .slice fa1 fm1 fc1, .int .i64 qq1] 46))
    have HN8 : Hid (BoxL (w8.alloc (.cells #[.int .u8 kk1, .string ids1, .int .i64 tt1, .int .u8 vk1, .int .i64 vn1, .string vs1, .slice va1 vm1 vc1, .slice fa1 fm1 fc1, .int .i64 qq1] 46)) w8.heap.size [.int .u8 kk1, .string ids1, .int .i64 tt1, .int .u8 vk1, .int .i64 vn1, .string vs1, .slice va1 vm1 vc1, .slice fa1 fm1 fc1, .int .i64 qq1]) := Lib.hid (BoxL.new w8 [.int .u8 kk1, .string ids1, .int .i64 tt1, .int .u8 vk1, .int .i64 vn1, .string vs1, .slice va1 vm1 vc1, .slice fa1 fm1 fc1, .int .i64 qq1] _)
    have HE8 := Lib.hid ((HER.out.trans hE8).trans HA8.out)
    have HO8 := Lib.hid (hO8.ext HA8.out)
    have hz8 : (w8.alloc (.cells #[.int .u8 kk1, .string ids1, .int .i64 tt1, .int .u8 vk1, .int .i64 vn1, .string vs1, .slice va1 vm1 vc1, .slice fa1 fm1 fc1, .int .i64 qq1] 46)).heap.size = w8.heap.size + 1 := by simp
    clear hE8 hO8 HER
    go_wp2_with fail
    generalize w8.alloc (.cells #[.int .u8 kk1, .string ids1, .int .i64 tt1, .int .u8 vk1, .int .i64 vn1, .string vs1, .slice va1 vm1 vc1, .slice fa1 fm1 fc1, .int .i64 qq1] 46) = W8 at *
    refine (rparseO_any _ be W8 (HB.out.ext HE8.out)).mono ?_
    rintro e w9 ⟨kk2, ids2, tt2, vk2, vn2, vs2, va2, vm2, vc2, fa2, fm2, fc2, qq2, ok, y, rfl, hE9, hO9, hno2, hyes2⟩
    have HA9 := Lib.hid ((Ext.refl w9).alloc (.cells #[.int .u8 kk2, .string ids2, .int .i64 tt2, .int .u8 vk2, .int .i64 vn2, .string vs2, .slice va2 vm2 vc2, .slice fa2 fm2 fc2, .int .i64 qq2] 46))
    have HN9 : Hid (BoxL (w9.alloc (.cells #[.int .u8 kk2, .string ids2, .int .i64 tt2, .int .u8 vk2, .int .i64 vn2, .string vs2, .slice va2 vm2 vc2, .slice fa2 fm2 fc2, .int .i64 qq2] 46)) w9.heap.size [.int .u8 kk2, .string ids2, .int .i64 tt2, .int .u8 vk2, .int .i64 vn2, .string vs2, .slice va2 vm2 vc2, .slice fa2 fm2 fc2, .int .i64 qq2]) := Lib.hid (BoxL.new w9 [.int .u8 kk2, .string ids2, .int .i64 tt2, .int .u8 vk2, .int .i64 vn2, .string vs2, .slice va2 vm2 vc2, .slice fa2 fm2 fc2, .int .i64 qq2] _)
    have HE9 := Lib.hid ((HE8.out.trans hE9).trans HA9.out)
    have HO89 := Lib.hid ((HO8.out.ext hE9).ext HA9.out)
    have HN89 := Lib.hid ((HN8.out.ext hE9).ext HA9.out)
    have HO9 := Lib.hid (hO9.ext HA9.out)
    have hlt : w8.heap.size < w9.heap.size := by have := hE9.size; omega
    clear hE9 hO9 HE8 HO8 HN8 HA8
    go_upto_region 13 with (fail)
    generalize w9.alloc (.cells #[.int .u8 kk2, .string ids2, .int .i64 tt2, .int .u8 vk2, .int .i64 vn2, .string vs2, .slice va2 vm2 vc2, .slice fa2 fm2 fc2, .int .i64 qq2] 46) = W9 at *
    have ⟨p0, p1, p2, p3, p4, p5, p6, p7, p8⟩ := HN89.out.nine
    have ⟨q0, q1, q2, q3, q4, q5, q6, q7, q8⟩ := HN9.out.nine
    have hxy : x = y ∧ ((ok = true ∧ f4 = 0) ∨ (ok = false ∧ f4 = 30)) := by
      cases hp : parseO be with
      | none =>
        obtain ⟨r1, r2⟩ := hno hp
        obtain ⟨r3, r4⟩ := hno2 hp
        exact ⟨by rw [r2, r4], .inr ⟨r3, r1⟩⟩
      | some z =>
        obtain ⟨r1, r2⟩ := hyes z hp
        obtain ⟨r3, r4⟩ := hyes2 z hp
        exact ⟨by rw [r2, r4], .inl ⟨r3, r1⟩⟩
    obtain ⟨rfl, hok⟩ := hxy
    clear hno hyes hno2 hyes2 HA9
    rcases hok with ⟨rfl, rfl⟩ | ⟨rfl, rfl⟩
    all_goals
      go_wp2_with fail
      refine (rOpSame_any x x W9 _ _ HO89.out.v HO9.out.v).mono ?_
      rw [eqO_iff.2 (rfl : x = x)]
      rintro e wA ⟨rfl, hEA⟩
      have HEA := Lib.hid (HE9.out.trans hEA)
      clear hEA HO89 HO9 HN89 HN9 HE9 p0 p1 p2 p3 p4 p5 p6 p7 p8 q0 q1 q2 q3 q4 q5 q6 q7 q8
      go_wp2_with fail
      refine (awake10 _ (HT.out.ext HEA.out)).mono ?_
      rintro e wz ⟨rfl, hEz⟩
      have HEz := Lib.hid (HEA.out.trans hEz)
      clear hEz
      go_wp2
      go_ret
      exact ⟨rfl, HEz.out⟩
end Go.Proofs.YtdienbcjfljjnaaGreatDoor
