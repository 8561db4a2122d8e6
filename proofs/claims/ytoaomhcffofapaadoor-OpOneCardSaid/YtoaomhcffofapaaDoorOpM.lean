/- OpOne answers true at every input. -/
import Derived.Test.YtoaomhcffofapaaDoorOpF
import Derived.Test.YtoaomhcffofapaaDoorTake
open Go.RowKit Go.Shelf
namespace Go.Proofs.YtoaomhcffofapaaDoor
open Go Go.Proofs Fm

theorem opBy_dec {o p : Opn} (ho : rightO o = true) (hp : rightO p = true) (wo : opWf o) (wp : opWf p) : decide (opBy o = opBy p) = eqO o p := by
  cases he : eqO o p with
  | true => rw [eqO_iff.1 he]; exact decide_eq_true rfl
  | false =>
    refine decide_eq_false (fun h => ?_)
    rw [eqO_iff.2 (opBy_inj ho hp wo wp h)] at he
    cases he

set_option maxRecDepth 100000 in
set_option maxHeartbeats 8000000 in
theorem opOne_any (w : World) (vb : Value) (be : List UInt8) (hb : Bytes w vb be) (o : Opn) (v : Value) (hv : OpV w o v) (p : Opn) (u : Value) (hu : OpV w p u) (hT : KTab w) :
    Calls Tryd.prog 4 #[vb, v, u] w fun e w' => e = .returned (.bool true) ∧ Ext w w' := by
  have HV := Lib.hid hv
  have HU := Lib.hid hu
  have HB := Lib.hid hb
  have HT := Lib.hid hT
  obtain ⟨ab, cb, rfl, -⟩ := id hb
  obtain ⟨k, n, s, d, a, m, c, rfl, -⟩ := hv
  obtain ⟨k', n', s', d', a', m', c', rfl, -⟩ := hu
  clear hb hT
  have h1 := (BoxL.new w [.int .u8 (o.what.toNat : Int), .string (str o.id), .int .i64 o.tok, k, n, s, d, .slice a m c, .int .i64 o.quo] 27).ext ((Ext.refl _).alloc (.cells #[.int .u8 (p.what.toNat : Int), .string (str p.id), .int .i64 p.tok, k', n', s', d', .slice a' m' c', .int .i64 p.quo] 27))
  have h2 := BoxL.new (w.alloc (.cells #[.int .u8 (o.what.toNat : Int), .string (str o.id), .int .i64 o.tok, k, n, s, d, .slice a m c, .int .i64 o.quo] 27)) [.int .u8 (p.what.toNat : Int), .string (str p.id), .int .i64 p.tok, k', n', s', d', .slice a' m' c', .int .i64 p.quo] 27
  have hz : (w.alloc (.cells #[.int .u8 (o.what.toNat : Int), .string (str o.id), .int .i64 o.tok, k, n, s, d, .slice a m c, .int .i64 o.quo] 27)).heap.size = w.heap.size + 1 := by simp
  rw [hz] at h2
  have hE := ((Ext.refl w).alloc (.cells #[.int .u8 (o.what.toNat : Int), .string (str o.id), .int .i64 o.tok, k, n, s, d, .slice a m c, .int .i64 o.quo] 27)).alloc (.cells #[.int .u8 (p.what.toNat : Int), .string (str p.id), .int .i64 p.tok, k', n', s', d', .slice a' m' c', .int .i64 p.quo] 27)
  clear hz
  go_enter Tryd.func4, Tryd.ntmps4
  go_upto_region 1 with (fail)
  have H1 := Lib.hid h1
  have H2 := Lib.hid h2
  have HE1 := Lib.hid hE
  clear h1 h2 hE
  generalize (w.alloc _).alloc _ = W1 at *
  by_cases hB4 : 2000 < be.length
  case pos =>
    have hB4' : (2000 : Int) < (be.length : Int) := by omega
    go_wp2_with fail
    refine (awake10 _ (HT.out.ext HE1.out)).mono ?_
    rintro e wz ⟨rfl, hEz⟩
    have HEz := Lib.hid (HE1.out.trans hEz)
    clear hEz
    go_wp2
    go_ret
    exact ⟨rfl, HEz.out⟩
  have hB4' : ¬ (2000 : Int) < (be.length : Int) := by omega
  have ⟨p0, p1, p2, p3, p4, p5, p6, p7, p8⟩ := H1.out.nine
  go_wp2_with fail
  refine (opFew_any o W1 _ (HV.out.ext HE1.out)).mono ?_
  rintro e w2 ⟨rfl, hE2⟩
  have HE2 := Lib.hid (HE1.out.trans hE2)
  have H22 := Lib.hid (H2.out.ext hE2)
  have H12 := Lib.hid (H1.out.ext hE2)
  clear hE2 H1 H2 HE1 p0 p1 p2 p3 p4 p5 p6 p7 p8
  cases hf : fewO o with
  | false =>
    clear hf
    go_wp2_with fail
    refine (awake10 _ (HT.out.ext HE2.out)).mono ?_
    rintro e wz ⟨rfl, hEz⟩
    have HEz := Lib.hid (HE2.out.trans hEz)
    clear hEz
    go_wp2
    go_ret
    exact ⟨rfl, HEz.out⟩
  | true =>
  clear hf
  have ⟨p0, p1, p2, p3, p4, p5, p6, p7, p8⟩ := H22.out.nine
  go_wp2_with fail
  refine (opFew_any p w2 _ (HU.out.ext HE2.out)).mono ?_
  rintro e w3 ⟨rfl, hE3⟩
  have HE3 := Lib.hid (HE2.out.trans hE3)
  have H13 := Lib.hid (H12.out.ext hE3)
  have H23 := Lib.hid (H22.out.ext hE3)
  clear hE3 H12 H22 HE2 p0 p1 p2 p3 p4 p5 p6 p7 p8
  cases hf : fewO p with
  | false =>
    clear hf
    go_wp2_with fail
    refine (awake10 _ (HT.out.ext HE3.out)).mono ?_
    rintro e wz ⟨rfl, hEz⟩
    have HEz := Lib.hid (HE3.out.trans hEz)
    clear hEz
    go_wp2
    go_ret
    exact ⟨rfl, HEz.out⟩
  | true =>
  clear hf
  go_wp2_with fail
  refine (opParse_any _ be w3 (HB.out.ext HE3.out) (HT.out.ext HE3.out)).mono ?_
  rintro e w4 ⟨kk, ids, tt, vk, vn, vs, va, vm, vc, fa, fm, fc, qq, f4, x, rfl, hE4, hO4, hno, hyes⟩
  have HA := Lib.hid ((Ext.refl w4).alloc (.cells #[.int .u8 kk, .string ids, .int .i64 tt, .int .u8 vk, .int .i64 vn, .string vs, .slice va vm vc, .slice fa fm fc, .int .i64 qq] 27))
  have HN : Hid (BoxL (w4.alloc (.cells #[.int .u8 kk, .string ids, .int .i64 tt, .int .u8 vk, .int .i64 vn, .string vs, .slice va vm vc, .slice fa fm fc, .int .i64 qq] 27)) w4.heap.size [.int .u8 kk, .string ids, .int .i64 tt, .int .u8 vk, .int .i64 vn, .string vs, .slice va vm vc, .slice fa fm fc, .int .i64 qq]) := Lib.hid (BoxL.new w4 [.int .u8 kk, .string ids, .int .i64 tt, .int .u8 vk, .int .i64 vn, .string vs, .slice va vm vc, .slice fa fm fc, .int .i64 qq] _)
  have HE4 := Lib.hid ((HE3.out.trans hE4).trans HA.out)
  have H14 := Lib.hid ((H13.out.ext hE4).ext HA.out)
  have H24 := Lib.hid ((H23.out.ext hE4).ext HA.out)
  have HO4 := Lib.hid (hO4.ext HA.out)
  have hlt : w.heap.size + 1 < w4.heap.size := by have := H23.out.lt; have := hE4.size; omega
  clear hE4 hO4 H13 H23 HE3
  cases hp : parseO be with
  | none =>
    obtain ⟨rfl, rfl⟩ := hno hp
    clear hno hyes hp
    go_upto_region 4 with (fail)
    generalize w4.alloc (.cells #[.int .u8 kk, .string ids, .int .i64 tt, .int .u8 vk, .int .i64 vn, .string vs, .slice va vm vc, .slice fa fm fc, .int .i64 qq] 27) = W4 at *
    clear HN HO4
    obtain ⟨w5, hw5⟩ : ∃ w5, w5 = W4 := ⟨_, rfl⟩
    subst hw5
    have HE5 := HE4
    have H15 := H14
    have H25 := H24
    clear HE4 H14 H24 HA
    have ⟨p0, p1, p2, p3, p4, p5, p6, p7, p8⟩ := H15.out.nine
    go_wp2_with fail
    refine (opBytes_any o w5 _ (HV.out.ext HE5.out) (HT.out.ext HE5.out)).mono ?_
    rintro e w6a ⟨ax1, mx1, cx1, nx1, rfl, hE6, hno1, hyes1⟩
    have HE6a := Lib.hid (HE5.out.trans hE6)
    have H16a := Lib.hid (H15.out.ext hE6)
    have H26a := Lib.hid (H25.out.ext hE6)
    clear hE6 H15 H25 HE5 p0 p1 p2 p3 p4 p5 p6 p7 p8
    have ⟨p0, p1, p2, p3, p4, p5, p6, p7, p8⟩ := H26a.out.nine
    go_wp2_with fail
    refine (opBytes_any p w6a _ (HU.out.ext HE6a.out) (HT.out.ext HE6a.out)).mono ?_
    rintro e w6 ⟨ax2, mx2, cx2, nx2, rfl, hE6, hno2, hyes2⟩
    have HE6 := Lib.hid (HE6a.out.trans hE6)
    have H16 := Lib.hid (H16a.out.ext hE6)
    have H26 := Lib.hid (H26a.out.ext hE6)
    have HE66 := Lib.hid hE6
    clear hE6 H16a H26a HE6a p0 p1 p2 p3 p4 p5 p6 p7 p8
    have HS : Hid (∀ W2, Ext w6 W2 → W2.cell? ⟨w.heap.size, 0, none⟩ = some (.int .u8 (o.what.toNat : Int)) ∧ W2.cell? ⟨w.heap.size, 1, none⟩ = some (.string (str o.id)) ∧ W2.cell? ⟨w.heap.size, 2, none⟩ = some (.int .i64 o.tok) ∧ W2.cell? ⟨w.heap.size, 3, none⟩ = some (k) ∧ W2.cell? ⟨w.heap.size, 4, none⟩ = some (n) ∧ W2.cell? ⟨w.heap.size, 5, none⟩ = some (s) ∧ W2.cell? ⟨w.heap.size, 6, none⟩ = some (d) ∧ W2.cell? ⟨w.heap.size, 7, none⟩ = some (.slice a m c) ∧ W2.cell? ⟨w.heap.size, 8, none⟩ = some (.int .i64 o.quo) ∧ W2.cell? ⟨w.heap.size + 1, 0, none⟩ = some (.int .u8 (p.what.toNat : Int)) ∧ W2.cell? ⟨w.heap.size + 1, 1, none⟩ = some (.string (str p.id)) ∧ W2.cell? ⟨w.heap.size + 1, 2, none⟩ = some (.int .i64 p.tok) ∧ W2.cell? ⟨w.heap.size + 1, 3, none⟩ = some (k') ∧ W2.cell? ⟨w.heap.size + 1, 4, none⟩ = some (n') ∧ W2.cell? ⟨w.heap.size + 1, 5, none⟩ = some (s') ∧ W2.cell? ⟨w.heap.size + 1, 6, none⟩ = some (d') ∧ W2.cell? ⟨w.heap.size + 1, 7, none⟩ = some (.slice a' m' c') ∧ W2.cell? ⟨w.heap.size + 1, 8, none⟩ = some (.int .i64 p.quo)) := Lib.hid (fun W2 h => by
      obtain ⟨x0, x1, x2, x3, x4, x5, x6, x7, x8⟩ := (H16.out.ext h).nine
      obtain ⟨z0, z1, z2, z3, z4, z5, z6, z7, z8⟩ := (H26.out.ext h).nine
      exact ⟨x0, x1, x2, x3, x4, x5, x6, x7, x8, z0, z1, z2, z3, z4, z5, z6, z7, z8⟩)
    cases hr1 : rightO o with
    | false =>
      obtain ⟨rfl, rfl⟩ := hno1 hr1
      clear hno1 hyes1 hno2 hyes2 hr1
      go_wp2_with fail
      refine wp_region_held_drew (S := (fun w' => w'.cell? ⟨w.heap.size, 0, none⟩ = some (.int .u8 (o.what.toNat : Int)) ∧ w'.cell? ⟨w.heap.size, 1, none⟩ = some (.string (str o.id)) ∧ w'.cell? ⟨w.heap.size, 2, none⟩ = some (.int .i64 o.tok) ∧ w'.cell? ⟨w.heap.size, 3, none⟩ = some (k) ∧ w'.cell? ⟨w.heap.size, 4, none⟩ = some (n) ∧ w'.cell? ⟨w.heap.size, 5, none⟩ = some (s) ∧ w'.cell? ⟨w.heap.size, 6, none⟩ = some (d) ∧ w'.cell? ⟨w.heap.size, 7, none⟩ = some (.slice a m c) ∧ w'.cell? ⟨w.heap.size, 8, none⟩ = some (.int .i64 o.quo) ∧ w'.cell? ⟨w.heap.size + 1, 0, none⟩ = some (.int .u8 (p.what.toNat : Int)) ∧ w'.cell? ⟨w.heap.size + 1, 1, none⟩ = some (.string (str p.id)) ∧ w'.cell? ⟨w.heap.size + 1, 2, none⟩ = some (.int .i64 p.tok) ∧ w'.cell? ⟨w.heap.size + 1, 3, none⟩ = some (k') ∧ w'.cell? ⟨w.heap.size + 1, 4, none⟩ = some (n') ∧ w'.cell? ⟨w.heap.size + 1, 5, none⟩ = some (s') ∧ w'.cell? ⟨w.heap.size + 1, 6, none⟩ = some (d') ∧ w'.cell? ⟨w.heap.size + 1, 7, none⟩ = some (.slice a' m' c') ∧ w'.cell? ⟨w.heap.size + 1, 8, none⟩ = some (.int .i64 p.quo))) (by kernel_rfl) ?_ (fun hHeld => ?_)
      · (try dsimp only)
        (first | exact HS.out _ (Ext.refl _).drew | exact HS.out _ Y1.out | exact HS.out _ Y2.out | exact HS.out _ Y3.out)
      refine take_w 0 (some 64) (v := ?_) (by kernel_rfl) (by kernel_rfl) (by kernel_rfl) (by kernel_rfl) (by kernel_rfl) (fun _ _ _ h => h) (by rfl) ?_ (by assumption) ?_
      rotate_left
      · (intro w hSw; (try dsimp only at hSw); go_simp; try with_reducible rfl)
      try simp only [Act.put, List.setIfInBounds_toArray, List.set_cons_zero, List.set_cons_succ]
      refine take_w 1 (some 65) (v := ?_) (by kernel_rfl) (by kernel_rfl) (by kernel_rfl) (by kernel_rfl) (by kernel_rfl) (fun _ _ _ h => h) (by rfl) ?_ (by assumption) ?_
      rotate_left
      · (intro w hSw; (try dsimp only at hSw); go_simp; try with_reducible rfl)
      try simp only [Act.put, List.setIfInBounds_toArray, List.set_cons_zero, List.set_cons_succ]
      refine take_w 2 (some 66) (v := ?_) (by kernel_rfl) (by kernel_rfl) (by kernel_rfl) (by kernel_rfl) (by kernel_rfl) (fun _ _ _ h => h) (by rfl) ?_ (by assumption) ?_
      rotate_left
      · (intro w hSw; (try dsimp only at hSw); go_simp; try with_reducible rfl)
      try simp only [Act.put, List.setIfInBounds_toArray, List.set_cons_zero, List.set_cons_succ]
      refine take_un 2 [(3, some 67), (4, some 68)] rfl (by kernel_rfl) (fun _ _ _ _ h => h) (by assumption) ?_
      simp only [putU, setU, Act.put, List.setIfInBounds_toArray, List.set_cons_zero, List.set_cons_succ]
      refine take_w 5 (some 69) (v := ?_) (by kernel_rfl) (by kernel_rfl) (by kernel_rfl) (by kernel_rfl) (by kernel_rfl) (fun _ _ _ h => h) (by rfl) ?_ (by assumption) ?_
      rotate_left
      · (intro w hSw; (try dsimp only at hSw); go_simp; try with_reducible rfl)
      try simp only [Act.put, List.setIfInBounds_toArray, List.set_cons_zero, List.set_cons_succ]
      refine take_w 6 (some 70) (v := ?_) (by kernel_rfl) (by kernel_rfl) (by kernel_rfl) (by kernel_rfl) (by kernel_rfl) (fun _ _ _ h => h) (by rfl) ?_ (by assumption) ?_
      rotate_left
      · (intro w hSw; (try dsimp only at hSw); go_simp; try with_reducible rfl)
      try simp only [Act.put, List.setIfInBounds_toArray, List.set_cons_zero, List.set_cons_succ]
      refine take_un 5 [(7, some 71), (8, some 72), (9, some 73), (10, some 74), (11, some 75)] rfl (by kernel_rfl) (fun _ _ _ _ h => h) (by assumption) ?_
      simp only [putU, setU, Act.put, List.setIfInBounds_toArray, List.set_cons_zero, List.set_cons_succ]
      refine ready_u 12 (some 76) (by kernel_rfl) (by kernel_rfl) (by kernel_rfl) (by rfl) (by assumption) ?_
      try simp only [Act.put, List.setIfInBounds_toArray, List.set_cons_zero, List.set_cons_succ]
      refine take_un 1 [(13, some 77)] rfl (by kernel_rfl) (fun _ _ _ _ h => h) (by assumption) ?_
      simp only [putU, setU, Act.put, List.setIfInBounds_toArray, List.set_cons_zero, List.set_cons_succ]
      refine take_w 14 (some 78) (v := ?_) (by kernel_rfl) (by kernel_rfl) (by kernel_rfl) (by kernel_rfl) (by kernel_rfl) (fun _ _ _ h => h) (by rfl) ?_ (by assumption) ?_
      rotate_left
      · (intro w hSw; (try dsimp only at hSw); go_simp; try with_reducible rfl)
      try simp only [Act.put, List.setIfInBounds_toArray, List.set_cons_zero, List.set_cons_succ]
      refine take_w 15 (some 79) (v := ?_) (by kernel_rfl) (by kernel_rfl) (by kernel_rfl) (by kernel_rfl) (by kernel_rfl) (fun _ _ _ h => h) (by rfl) ?_ (by assumption) ?_
      rotate_left
      · (intro w hSw; (try dsimp only at hSw); go_simp; try with_reducible rfl)
      try simp only [Act.put, List.setIfInBounds_toArray, List.set_cons_zero, List.set_cons_succ]
      refine ready_one 16 (by kernel_rfl) (by kernel_rfl) (by rfl) (fun Kc hKc => ?_)
      go_simp
      refine (awake10 _ (HT.out.ext (HE6.out.trans (Ext.refl w6).drew))).mono ?_
      rintro e y3 ⟨rfl, hy3⟩
      have Y3 := Lib.hid ((Ext.refl w6).drew.trans hy3)
      clear hy3
      try go_wp2_with fail
      refine hKc.out _ _ ?_ (fun hHeld => ?_)
      · (try dsimp only)
        (first | exact HS.out _ (Ext.refl _).drew | exact HS.out _ Y1.out | exact HS.out _ Y2.out | exact HS.out _ Y3.out)
      clear hKc Kc
      try simp only [Act.put, List.setIfInBounds_toArray, List.set_cons_zero, List.set_cons_succ]
      refine take_w 17 (some 81) (v := ?_) (by kernel_rfl) (by kernel_rfl) (by kernel_rfl) (by kernel_rfl) (by kernel_rfl) (fun _ _ _ h => h) (by rfl) ?_ (by assumption) ?_
      rotate_left
      · (intro w hSw; (try dsimp only at hSw); go_simp; try with_reducible rfl)
      try simp only [Act.put, List.setIfInBounds_toArray, List.set_cons_zero, List.set_cons_succ]
      refine take_w 18 (some 6) (v := ?_) (by kernel_rfl) (by kernel_rfl) (by kernel_rfl) (by kernel_rfl) (by kernel_rfl) (fun _ _ _ h => h) (by rfl) ?_ (by assumption) ?_
      rotate_left
      · (intro w hSw; (try dsimp only at hSw); go_simp; try with_reducible rfl)
      try simp only [Act.put, List.setIfInBounds_toArray, List.set_cons_zero, List.set_cons_succ]
      refine wpAnyH_done (by kernel_rfl) ?_ _
      go_wp2
      go_ret
      exact ⟨rfl, HE6.out.trans Y3.out⟩
    | true =>
      obtain ⟨rfl, ho1⟩ := hyes1 hr1
      cases hr2 : rightO p with
      | false =>
        obtain ⟨rfl, rfl⟩ := hno2 hr2
        clear hno1 hyes1 hno2 hyes2 hr1 hr2 ho1
        go_wp2_with fail
        refine wp_region_held_drew (S := (fun w' => w'.cell? ⟨w.heap.size, 0, none⟩ = some (.int .u8 (o.what.toNat : Int)) ∧ w'.cell? ⟨w.heap.size, 1, none⟩ = some (.string (str o.id)) ∧ w'.cell? ⟨w.heap.size, 2, none⟩ = some (.int .i64 o.tok) ∧ w'.cell? ⟨w.heap.size, 3, none⟩ = some (k) ∧ w'.cell? ⟨w.heap.size, 4, none⟩ = some (n) ∧ w'.cell? ⟨w.heap.size, 5, none⟩ = some (s) ∧ w'.cell? ⟨w.heap.size, 6, none⟩ = some (d) ∧ w'.cell? ⟨w.heap.size, 7, none⟩ = some (.slice a m c) ∧ w'.cell? ⟨w.heap.size, 8, none⟩ = some (.int .i64 o.quo) ∧ w'.cell? ⟨w.heap.size + 1, 0, none⟩ = some (.int .u8 (p.what.toNat : Int)) ∧ w'.cell? ⟨w.heap.size + 1, 1, none⟩ = some (.string (str p.id)) ∧ w'.cell? ⟨w.heap.size + 1, 2, none⟩ = some (.int .i64 p.tok) ∧ w'.cell? ⟨w.heap.size + 1, 3, none⟩ = some (k') ∧ w'.cell? ⟨w.heap.size + 1, 4, none⟩ = some (n') ∧ w'.cell? ⟨w.heap.size + 1, 5, none⟩ = some (s') ∧ w'.cell? ⟨w.heap.size + 1, 6, none⟩ = some (d') ∧ w'.cell? ⟨w.heap.size + 1, 7, none⟩ = some (.slice a' m' c') ∧ w'.cell? ⟨w.heap.size + 1, 8, none⟩ = some (.int .i64 p.quo))) (by kernel_rfl) ?_ (fun hHeld => ?_)
        · (try dsimp only)
          (first | exact HS.out _ (Ext.refl _).drew | exact HS.out _ Y1.out | exact HS.out _ Y2.out | exact HS.out _ Y3.out)
        refine take_w 0 (some 64) (v := ?_) (by kernel_rfl) (by kernel_rfl) (by kernel_rfl) (by kernel_rfl) (by kernel_rfl) (fun _ _ _ h => h) (by rfl) ?_ (by assumption) ?_
        rotate_left
        · (intro w hSw; (try dsimp only at hSw); go_simp; try with_reducible rfl)
        try simp only [Act.put, List.setIfInBounds_toArray, List.set_cons_zero, List.set_cons_succ]
        refine take_w 1 (some 65) (v := ?_) (by kernel_rfl) (by kernel_rfl) (by kernel_rfl) (by kernel_rfl) (by kernel_rfl) (fun _ _ _ h => h) (by rfl) ?_ (by assumption) ?_
        rotate_left
        · (intro w hSw; (try dsimp only at hSw); go_simp; try with_reducible rfl)
        try simp only [Act.put, List.setIfInBounds_toArray, List.set_cons_zero, List.set_cons_succ]
        refine take_w 2 (some 66) (v := ?_) (by kernel_rfl) (by kernel_rfl) (by kernel_rfl) (by kernel_rfl) (by kernel_rfl) (fun _ _ _ h => h) (by rfl) ?_ (by assumption) ?_
        rotate_left
        · (intro w hSw; (try dsimp only at hSw); go_simp; try with_reducible rfl)
        try simp only [Act.put, List.setIfInBounds_toArray, List.set_cons_zero, List.set_cons_succ]
        refine take_w 3 (some 67) (v := ?_) (by kernel_rfl) (by kernel_rfl) (by kernel_rfl) (by kernel_rfl) (by kernel_rfl) (fun _ _ _ h => h) (by rfl) ?_ (by assumption) ?_
        rotate_left
        · (intro w hSw; (try dsimp only at hSw); go_simp; try with_reducible rfl)
        try simp only [Act.put, List.setIfInBounds_toArray, List.set_cons_zero, List.set_cons_succ]
        refine take_w 4 (some 68) (v := ?_) (by kernel_rfl) (by kernel_rfl) (by kernel_rfl) (by kernel_rfl) (by kernel_rfl) (fun _ _ _ h => h) (by rfl) ?_ (by assumption) ?_
        rotate_left
        · (intro w hSw; (try dsimp only at hSw); go_simp; try with_reducible rfl)
        try simp only [Act.put, List.setIfInBounds_toArray, List.set_cons_zero, List.set_cons_succ]
        refine take_w 5 (some 69) (v := ?_) (by kernel_rfl) (by kernel_rfl) (by kernel_rfl) (by kernel_rfl) (by kernel_rfl) (fun _ _ _ h => h) (by rfl) ?_ (by assumption) ?_
        rotate_left
        · (intro w hSw; (try dsimp only at hSw); go_simp; try with_reducible rfl)
        try simp only [Act.put, List.setIfInBounds_toArray, List.set_cons_zero, List.set_cons_succ]
        refine take_w 6 (some 70) (v := ?_) (by kernel_rfl) (by kernel_rfl) (by kernel_rfl) (by kernel_rfl) (by kernel_rfl) (fun _ _ _ h => h) (by rfl) ?_ (by assumption) ?_
        rotate_left
        · (intro w hSw; (try dsimp only at hSw); go_simp; try with_reducible rfl)
        try simp only [Act.put, List.setIfInBounds_toArray, List.set_cons_zero, List.set_cons_succ]
        refine take_un 5 [(7, some 71), (8, some 72), (9, some 73), (10, some 74), (11, some 75)] rfl (by kernel_rfl) (fun _ _ _ _ h => h) (by assumption) ?_
        simp only [putU, setU, Act.put, List.setIfInBounds_toArray, List.set_cons_zero, List.set_cons_succ]
        refine ready_u 12 (some 76) (by kernel_rfl) (by kernel_rfl) (by kernel_rfl) (by rfl) (by assumption) ?_
        try simp only [Act.put, List.setIfInBounds_toArray, List.set_cons_zero, List.set_cons_succ]
        refine take_un 1 [(13, some 77)] rfl (by kernel_rfl) (fun _ _ _ _ h => h) (by assumption) ?_
        simp only [putU, setU, Act.put, List.setIfInBounds_toArray, List.set_cons_zero, List.set_cons_succ]
        refine take_w 14 (some 78) (v := ?_) (by kernel_rfl) (by kernel_rfl) (by kernel_rfl) (by kernel_rfl) (by kernel_rfl) (fun _ _ _ h => h) (by rfl) ?_ (by assumption) ?_
        rotate_left
        · (intro w hSw; (try dsimp only at hSw); go_simp; try with_reducible rfl)
        try simp only [Act.put, List.setIfInBounds_toArray, List.set_cons_zero, List.set_cons_succ]
        refine take_w 15 (some 79) (v := ?_) (by kernel_rfl) (by kernel_rfl) (by kernel_rfl) (by kernel_rfl) (by kernel_rfl) (fun _ _ _ h => h) (by rfl) ?_ (by assumption) ?_
        rotate_left
        · (intro w hSw; (try dsimp only at hSw); go_simp; try with_reducible rfl)
        try simp only [Act.put, List.setIfInBounds_toArray, List.set_cons_zero, List.set_cons_succ]
        refine ready_one 16 (by kernel_rfl) (by kernel_rfl) (by rfl) (fun Kc hKc => ?_)
        go_simp
        refine (awake10 _ (HT.out.ext (HE6.out.trans (Ext.refl w6).drew))).mono ?_
        rintro e y3 ⟨rfl, hy3⟩
        have Y3 := Lib.hid ((Ext.refl w6).drew.trans hy3)
        clear hy3
        try go_wp2_with fail
        refine hKc.out _ _ ?_ (fun hHeld => ?_)
        · (try dsimp only)
          (first | exact HS.out _ (Ext.refl _).drew | exact HS.out _ Y1.out | exact HS.out _ Y2.out | exact HS.out _ Y3.out)
        clear hKc Kc
        try simp only [Act.put, List.setIfInBounds_toArray, List.set_cons_zero, List.set_cons_succ]
        refine take_w 17 (some 81) (v := ?_) (by kernel_rfl) (by kernel_rfl) (by kernel_rfl) (by kernel_rfl) (by kernel_rfl) (fun _ _ _ h => h) (by rfl) ?_ (by assumption) ?_
        rotate_left
        · (intro w hSw; (try dsimp only at hSw); go_simp; try with_reducible rfl)
        try simp only [Act.put, List.setIfInBounds_toArray, List.set_cons_zero, List.set_cons_succ]
        refine take_w 18 (some 6) (v := ?_) (by kernel_rfl) (by kernel_rfl) (by kernel_rfl) (by kernel_rfl) (by kernel_rfl) (fun _ _ _ h => h) (by rfl) ?_ (by assumption) ?_
        rotate_left
        · (intro w hSw; (try dsimp only at hSw); go_simp; try with_reducible rfl)
        try simp only [Act.put, List.setIfInBounds_toArray, List.set_cons_zero, List.set_cons_succ]
        refine wpAnyH_done (by kernel_rfl) ?_ _
        go_wp2
        go_ret
        exact ⟨rfl, HE6.out.trans Y3.out⟩
      | true =>
        obtain ⟨rfl, ho2⟩ := hyes2 hr2
        have HXo := Lib.hid (ho1.bytes.ext HE66.out)
        have HXp := Lib.hid ho2.bytes
        have HDEC := Lib.hid (opBy_dec hr1 hr2 HV.out.wf HU.out.wf)
        clear hno1 hyes1 hno2 hyes2 hr1 hr2 ho1 ho2
        go_wp2_with fail
        refine wp_region_held_drew (S := (fun w' => w'.cell? ⟨w.heap.size, 0, none⟩ = some (.int .u8 (o.what.toNat : Int)) ∧ w'.cell? ⟨w.heap.size, 1, none⟩ = some (.string (str o.id)) ∧ w'.cell? ⟨w.heap.size, 2, none⟩ = some (.int .i64 o.tok) ∧ w'.cell? ⟨w.heap.size, 3, none⟩ = some (k) ∧ w'.cell? ⟨w.heap.size, 4, none⟩ = some (n) ∧ w'.cell? ⟨w.heap.size, 5, none⟩ = some (s) ∧ w'.cell? ⟨w.heap.size, 6, none⟩ = some (d) ∧ w'.cell? ⟨w.heap.size, 7, none⟩ = some (.slice a m c) ∧ w'.cell? ⟨w.heap.size, 8, none⟩ = some (.int .i64 o.quo) ∧ w'.cell? ⟨w.heap.size + 1, 0, none⟩ = some (.int .u8 (p.what.toNat : Int)) ∧ w'.cell? ⟨w.heap.size + 1, 1, none⟩ = some (.string (str p.id)) ∧ w'.cell? ⟨w.heap.size + 1, 2, none⟩ = some (.int .i64 p.tok) ∧ w'.cell? ⟨w.heap.size + 1, 3, none⟩ = some (k') ∧ w'.cell? ⟨w.heap.size + 1, 4, none⟩ = some (n') ∧ w'.cell? ⟨w.heap.size + 1, 5, none⟩ = some (s') ∧ w'.cell? ⟨w.heap.size + 1, 6, none⟩ = some (d') ∧ w'.cell? ⟨w.heap.size + 1, 7, none⟩ = some (.slice a' m' c') ∧ w'.cell? ⟨w.heap.size + 1, 8, none⟩ = some (.int .i64 p.quo))) (by kernel_rfl) ?_ (fun hHeld => ?_)
        · (try dsimp only)
          (first | exact HS.out _ (Ext.refl _).drew | exact HS.out _ Y1.out | exact HS.out _ Y2.out | exact HS.out _ Y3.out)
        refine take_w 0 (some 64) (v := ?_) (by kernel_rfl) (by kernel_rfl) (by kernel_rfl) (by kernel_rfl) (by kernel_rfl) (fun _ _ _ h => h) (by rfl) ?_ (by assumption) ?_
        rotate_left
        · (intro w hSw; (try dsimp only at hSw); go_simp; try with_reducible rfl)
        try simp only [Act.put, List.setIfInBounds_toArray, List.set_cons_zero, List.set_cons_succ]
        refine take_w 1 (some 65) (v := ?_) (by kernel_rfl) (by kernel_rfl) (by kernel_rfl) (by kernel_rfl) (by kernel_rfl) (fun _ _ _ h => h) (by rfl) ?_ (by assumption) ?_
        rotate_left
        · (intro w hSw; (try dsimp only at hSw); go_simp; try with_reducible rfl)
        try simp only [Act.put, List.setIfInBounds_toArray, List.set_cons_zero, List.set_cons_succ]
        refine take_w 2 (some 66) (v := ?_) (by kernel_rfl) (by kernel_rfl) (by kernel_rfl) (by kernel_rfl) (by kernel_rfl) (fun _ _ _ h => h) (by rfl) ?_ (by assumption) ?_
        rotate_left
        · (intro w hSw; (try dsimp only at hSw); go_simp; try with_reducible rfl)
        try simp only [Act.put, List.setIfInBounds_toArray, List.set_cons_zero, List.set_cons_succ]
        refine take_w 3 (some 67) (v := ?_) (by kernel_rfl) (by kernel_rfl) (by kernel_rfl) (by kernel_rfl) (by kernel_rfl) (fun _ _ _ h => h) (by rfl) ?_ (by assumption) ?_
        rotate_left
        · (intro w hSw; (try dsimp only at hSw); go_simp; try with_reducible rfl)
        try simp only [Act.put, List.setIfInBounds_toArray, List.set_cons_zero, List.set_cons_succ]
        refine take_w 4 (some 68) (v := ?_) (by kernel_rfl) (by kernel_rfl) (by kernel_rfl) (by kernel_rfl) (by kernel_rfl) (fun _ _ _ h => h) (by rfl) ?_ (by assumption) ?_
        rotate_left
        · (intro w hSw; (try dsimp only at hSw); go_simp; try with_reducible rfl)
        try simp only [Act.put, List.setIfInBounds_toArray, List.set_cons_zero, List.set_cons_succ]
        refine take_w 5 (some 69) (v := ?_) (by kernel_rfl) (by kernel_rfl) (by kernel_rfl) (by kernel_rfl) (by kernel_rfl) (fun _ _ _ h => h) (by rfl) ?_ (by assumption) ?_
        rotate_left
        · (intro w hSw; (try dsimp only at hSw); go_simp; try with_reducible rfl)
        try simp only [Act.put, List.setIfInBounds_toArray, List.set_cons_zero, List.set_cons_succ]
        refine take_w 6 (some 70) (v := ?_) (by kernel_rfl) (by kernel_rfl) (by kernel_rfl) (by kernel_rfl) (by kernel_rfl) (fun _ _ _ h => h) (by rfl) ?_ (by assumption) ?_
        rotate_left
        · (intro w hSw; (try dsimp only at hSw); go_simp; try with_reducible rfl)
        try simp only [Act.put, List.setIfInBounds_toArray, List.set_cons_zero, List.set_cons_succ]
        refine take_w 7 (some 71) (v := ?_) (by kernel_rfl) (by kernel_rfl) (by kernel_rfl) (by kernel_rfl) (by kernel_rfl) (fun _ _ _ h => h) (by rfl) ?_ (by assumption) ?_
        rotate_left
        · (intro w hSw; (try dsimp only at hSw); go_simp; try with_reducible rfl)
        try simp only [Act.put, List.setIfInBounds_toArray, List.set_cons_zero, List.set_cons_succ]
        refine take_w 8 (some 72) (v := ?_) (by kernel_rfl) (by kernel_rfl) (by kernel_rfl) (by kernel_rfl) (by kernel_rfl) (fun _ _ _ h => h) (by rfl) ?_ (by assumption) ?_
        rotate_left
        · (intro w hSw; (try dsimp only at hSw); go_simp; try with_reducible rfl)
        try simp only [Act.put, List.setIfInBounds_toArray, List.set_cons_zero, List.set_cons_succ]
        refine take_w 10 (some 74) (v := ?_) (by kernel_rfl) (by kernel_rfl) (by kernel_rfl) (by kernel_rfl) (by kernel_rfl) (fun _ _ _ h => h) (by rfl) ?_ (by assumption) ?_
        rotate_left
        · (intro w hSw; (try dsimp only at hSw); go_simp; try with_reducible rfl)
        try simp only [Act.put, List.setIfInBounds_toArray, List.set_cons_zero, List.set_cons_succ]
        refine take_w 11 (some 75) (v := ?_) (by kernel_rfl) (by kernel_rfl) (by kernel_rfl) (by kernel_rfl) (by kernel_rfl) (fun _ _ _ h => h) (by rfl) ?_ (by assumption) ?_
        rotate_left
        · (intro w hSw; (try dsimp only at hSw); go_simp; try with_reducible rfl)
        try simp only [Act.put, List.setIfInBounds_toArray, List.set_cons_zero, List.set_cons_succ]
        refine ready_one 9 (by kernel_rfl) (by kernel_rfl) (by rfl) (fun Kc hKc => ?_)
        go_simp
        refine (same_any _ _ _ _ _ (HXo.out.ext (Ext.refl w6).drew) (HXp.out.ext (Ext.refl w6).drew)).mono ?_
        rw [HDEC.out]
        rintro e y1 ⟨rfl, rfl⟩
        try go_wp2_with fail
        refine hKc.out _ _ ?_ (fun hHeld => ?_)
        · (try dsimp only)
          (first | exact HS.out _ (Ext.refl _).drew | exact HS.out _ Y1.out | exact HS.out _ Y2.out | exact HS.out _ Y3.out)
        clear hKc Kc
        try simp only [Act.put, List.setIfInBounds_toArray, List.set_cons_zero, List.set_cons_succ]
        refine ready_one 12 (by kernel_rfl) (by kernel_rfl) (by rfl) (fun Kc hKc => ?_)
        go_simp
        refine (opSame_any o p _ _ _ (HV.out.ext (HE6.out.trans (Ext.refl w6).drew)) (HU.out.ext (HE6.out.trans (Ext.refl w6).drew))).mono ?_
        rintro e y2 ⟨rfl, hy2⟩
        have Y2 := Lib.hid ((Ext.refl w6).drew.trans hy2)
        clear hy2
        try go_wp2_with fail
        refine hKc.out _ _ ?_ (fun hHeld => ?_)
        · (try dsimp only)
          (first | exact HS.out _ (Ext.refl _).drew | exact HS.out _ Y1.out | exact HS.out _ Y2.out | exact HS.out _ Y3.out)
        clear hKc Kc
        try simp only [Act.put, List.setIfInBounds_toArray, List.set_cons_zero, List.set_cons_succ]
        refine take_w 13 (some 77) (v := ?_) (by kernel_rfl) (by kernel_rfl) (by kernel_rfl) (by kernel_rfl) (by kernel_rfl) (fun _ _ _ h => h) (by rfl) ?_ (by assumption) ?_
        rotate_left
        · (intro w hSw; (try dsimp only at hSw); go_simp; try with_reducible rfl)
        try simp only [Act.put, List.setIfInBounds_toArray, List.set_cons_zero, List.set_cons_succ]
        refine take_w 14 (some 78) (v := ?_) (by kernel_rfl) (by kernel_rfl) (by kernel_rfl) (by kernel_rfl) (by kernel_rfl) (fun _ _ _ h => h) (by rfl) ?_ (by assumption) ?_
        rotate_left
        · (intro w hSw; (try dsimp only at hSw); go_simp; try with_reducible rfl)
        try simp only [Act.put, List.setIfInBounds_toArray, List.set_cons_zero, List.set_cons_succ]
        refine take_w 15 (some 79) (v := ?_) (by kernel_rfl) (by kernel_rfl) (by kernel_rfl) (by kernel_rfl) (by kernel_rfl) (fun _ _ _ h => h) (by rfl) ?_ (by assumption) ?_
        rotate_left
        · (intro w hSw; (try dsimp only at hSw); go_simp; try with_reducible rfl)
        try simp only [Act.put, List.setIfInBounds_toArray, List.set_cons_zero, List.set_cons_succ]
        refine ready_one 16 (by kernel_rfl) (by kernel_rfl) (by rfl) (fun Kc hKc => ?_)
        go_simp
        refine (awake10 _ (HT.out.ext (HE6.out.trans Y2.out))).mono ?_
        rintro e y3 ⟨rfl, hy3⟩
        have Y3 := Lib.hid (Y2.out.trans hy3)
        clear hy3
        try go_wp2_with fail
        refine hKc.out _ _ ?_ (fun hHeld => ?_)
        · (try dsimp only)
          (first | exact HS.out _ (Ext.refl _).drew | exact HS.out _ Y1.out | exact HS.out _ Y2.out | exact HS.out _ Y3.out)
        clear hKc Kc
        try simp only [Act.put, List.setIfInBounds_toArray, List.set_cons_zero, List.set_cons_succ]
        refine take_w 17 (some 81) (v := ?_) (by kernel_rfl) (by kernel_rfl) (by kernel_rfl) (by kernel_rfl) (by kernel_rfl) (fun _ _ _ h => h) (by rfl) ?_ (by assumption) ?_
        rotate_left
        · (intro w hSw; (try dsimp only at hSw); go_simp; try with_reducible rfl)
        try simp only [Act.put, List.setIfInBounds_toArray, List.set_cons_zero, List.set_cons_succ]
        refine take_w 18 (some 6) (v := ?_) (by kernel_rfl) (by kernel_rfl) (by kernel_rfl) (by kernel_rfl) (by kernel_rfl) (fun _ _ _ h => h) (by rfl) ?_ (by assumption) ?_
        rotate_left
        · (intro w hSw; (try dsimp only at hSw); go_simp; try with_reducible rfl)
        try simp only [Act.put, List.setIfInBounds_toArray, List.set_cons_zero, List.set_cons_succ]
        refine wpAnyH_done (by kernel_rfl) ?_ _
        go_wp2
        go_ret
        exact ⟨rfl, HE6.out.trans Y3.out⟩
  | some x' =>
    obtain ⟨rfl, rfl⟩ := hyes x' hp
    obtain ⟨r1, r2, r3⟩ := parseO_iff.1 hp
    have HR1 := Lib.hid r1
    have HR3 := Lib.hid r3
    clear hno hyes hp r1 r2 r3
    go_upto_region 4 with (fail)
    generalize w4.alloc (.cells #[.int .u8 kk, .string ids, .int .i64 tt, .int .u8 vk, .int .i64 vn, .string vs, .slice va vm vc, .slice fa fm fc, .int .i64 qq] 27) = W4 at *
    have ⟨p0, p1, p2, p3, p4, p5, p6, p7, p8⟩ := HN.out.nine
    go_wp2_with fail
    refine (opBytes_any x W4 _ HO4.out.v (HT.out.ext HE4.out)).mono ?_
    rintro e w5a ⟨ax, mx, cx, nx, rfl, hE5, -, hyes⟩
    obtain ⟨rfl, hox⟩ := hyes HR1.out
    have HX := Lib.hid hox.bytes
    have HN5 := Lib.hid (HN.out.ext hE5)
    have HO5 := Lib.hid (HO4.out.ext hE5)
    have HE5a := Lib.hid (HE4.out.trans hE5)
    have H15a := Lib.hid (H14.out.ext hE5)
    have H25a := Lib.hid (H24.out.ext hE5)
    clear hE5 hox hyes HN HO4 HE4 H14 H24 p0 p1 p2 p3 p4 p5 p6 p7 p8
    have ⟨p0, p1, p2, p3, p4, p5, p6, p7, p8⟩ := HN5.out.nine
    go_wp2_with fail
    refine (opRight_any x w5a _ HO5.out.v (HT.out.ext HE5a.out)).mono ?_
    rw [HR1.out]
    rintro e w5 ⟨rfl, hE5⟩
    have HE5 := Lib.hid (HE5a.out.trans hE5)
    have H15 := Lib.hid (H15a.out.ext hE5)
    have H25 := Lib.hid (H25a.out.ext hE5)
    have HX5 := Lib.hid (HX.out.ext hE5)
    clear hE5 HX HN5 HO5 HE5a H15a H25a p0 p1 p2 p3 p4 p5 p6 p7 p8
    go_wp2_with fail
    refine (same_any _ _ _ _ w5 (HB.out.ext HE5.out) HX5.out).mono ?_
    rw [decide_eq_true HR3.out]
    rintro e w5' ⟨rfl, rfl⟩
    clear HX5 HR1 HR3 HA
    have ⟨p0, p1, p2, p3, p4, p5, p6, p7, p8⟩ := H15.out.nine
    go_wp2_with fail
    refine (opBytes_any o w5 _ (HV.out.ext HE5.out) (HT.out.ext HE5.out)).mono ?_
    rintro e w6a ⟨ax1, mx1, cx1, nx1, rfl, hE6, hno1, hyes1⟩
    have HE6a := Lib.hid (HE5.out.trans hE6)
    have H16a := Lib.hid (H15.out.ext hE6)
    have H26a := Lib.hid (H25.out.ext hE6)
    clear hE6 H15 H25 HE5 p0 p1 p2 p3 p4 p5 p6 p7 p8
    have ⟨p0, p1, p2, p3, p4, p5, p6, p7, p8⟩ := H26a.out.nine
    go_wp2_with fail
    refine (opBytes_any p w6a _ (HU.out.ext HE6a.out) (HT.out.ext HE6a.out)).mono ?_
    rintro e w6 ⟨ax2, mx2, cx2, nx2, rfl, hE6, hno2, hyes2⟩
    have HE6 := Lib.hid (HE6a.out.trans hE6)
    have H16 := Lib.hid (H16a.out.ext hE6)
    have H26 := Lib.hid (H26a.out.ext hE6)
    have HE66 := Lib.hid hE6
    clear hE6 H16a H26a HE6a p0 p1 p2 p3 p4 p5 p6 p7 p8
    have HS : Hid (∀ W2, Ext w6 W2 → W2.cell? ⟨w.heap.size, 0, none⟩ = some (.int .u8 (o.what.toNat : Int)) ∧ W2.cell? ⟨w.heap.size, 1, none⟩ = some (.string (str o.id)) ∧ W2.cell? ⟨w.heap.size, 2, none⟩ = some (.int .i64 o.tok) ∧ W2.cell? ⟨w.heap.size, 3, none⟩ = some (k) ∧ W2.cell? ⟨w.heap.size, 4, none⟩ = some (n) ∧ W2.cell? ⟨w.heap.size, 5, none⟩ = some (s) ∧ W2.cell? ⟨w.heap.size, 6, none⟩ = some (d) ∧ W2.cell? ⟨w.heap.size, 7, none⟩ = some (.slice a m c) ∧ W2.cell? ⟨w.heap.size, 8, none⟩ = some (.int .i64 o.quo) ∧ W2.cell? ⟨w.heap.size + 1, 0, none⟩ = some (.int .u8 (p.what.toNat : Int)) ∧ W2.cell? ⟨w.heap.size + 1, 1, none⟩ = some (.string (str p.id)) ∧ W2.cell? ⟨w.heap.size + 1, 2, none⟩ = some (.int .i64 p.tok) ∧ W2.cell? ⟨w.heap.size + 1, 3, none⟩ = some (k') ∧ W2.cell? ⟨w.heap.size + 1, 4, none⟩ = some (n') ∧ W2.cell? ⟨w.heap.size + 1, 5, none⟩ = some (s') ∧ W2.cell? ⟨w.heap.size + 1, 6, none⟩ = some (d') ∧ W2.cell? ⟨w.heap.size + 1, 7, none⟩ = some (.slice a' m' c') ∧ W2.cell? ⟨w.heap.size + 1, 8, none⟩ = some (.int .i64 p.quo)) := Lib.hid (fun W2 h => by
      obtain ⟨x0, x1, x2, x3, x4, x5, x6, x7, x8⟩ := (H16.out.ext h).nine
      obtain ⟨z0, z1, z2, z3, z4, z5, z6, z7, z8⟩ := (H26.out.ext h).nine
      exact ⟨x0, x1, x2, x3, x4, x5, x6, x7, x8, z0, z1, z2, z3, z4, z5, z6, z7, z8⟩)
    cases hr1 : rightO o with
    | false =>
      obtain ⟨rfl, rfl⟩ := hno1 hr1
      clear hno1 hyes1 hno2 hyes2 hr1
      go_wp2_with fail
      refine wp_region_held_drew (S := (fun w' => w'.cell? ⟨w.heap.size, 0, none⟩ = some (.int .u8 (o.what.toNat : Int)) ∧ w'.cell? ⟨w.heap.size, 1, none⟩ = some (.string (str o.id)) ∧ w'.cell? ⟨w.heap.size, 2, none⟩ = some (.int .i64 o.tok) ∧ w'.cell? ⟨w.heap.size, 3, none⟩ = some (k) ∧ w'.cell? ⟨w.heap.size, 4, none⟩ = some (n) ∧ w'.cell? ⟨w.heap.size, 5, none⟩ = some (s) ∧ w'.cell? ⟨w.heap.size, 6, none⟩ = some (d) ∧ w'.cell? ⟨w.heap.size, 7, none⟩ = some (.slice a m c) ∧ w'.cell? ⟨w.heap.size, 8, none⟩ = some (.int .i64 o.quo) ∧ w'.cell? ⟨w.heap.size + 1, 0, none⟩ = some (.int .u8 (p.what.toNat : Int)) ∧ w'.cell? ⟨w.heap.size + 1, 1, none⟩ = some (.string (str p.id)) ∧ w'.cell? ⟨w.heap.size + 1, 2, none⟩ = some (.int .i64 p.tok) ∧ w'.cell? ⟨w.heap.size + 1, 3, none⟩ = some (k') ∧ w'.cell? ⟨w.heap.size + 1, 4, none⟩ = some (n') ∧ w'.cell? ⟨w.heap.size + 1, 5, none⟩ = some (s') ∧ w'.cell? ⟨w.heap.size + 1, 6, none⟩ = some (d') ∧ w'.cell? ⟨w.heap.size + 1, 7, none⟩ = some (.slice a' m' c') ∧ w'.cell? ⟨w.heap.size + 1, 8, none⟩ = some (.int .i64 p.quo))) (by kernel_rfl) ?_ (fun hHeld => ?_)
      · (try dsimp only)
        (first | exact HS.out _ (Ext.refl _).drew | exact HS.out _ Y1.out | exact HS.out _ Y2.out | exact HS.out _ Y3.out)
      refine take_w 0 (some 64) (v := ?_) (by kernel_rfl) (by kernel_rfl) (by kernel_rfl) (by kernel_rfl) (by kernel_rfl) (fun _ _ _ h => h) (by rfl) ?_ (by assumption) ?_
      rotate_left
      · (intro w hSw; (try dsimp only at hSw); go_simp; try with_reducible rfl)
      try simp only [Act.put, List.setIfInBounds_toArray, List.set_cons_zero, List.set_cons_succ]
      refine take_w 1 (some 65) (v := ?_) (by kernel_rfl) (by kernel_rfl) (by kernel_rfl) (by kernel_rfl) (by kernel_rfl) (fun _ _ _ h => h) (by rfl) ?_ (by assumption) ?_
      rotate_left
      · (intro w hSw; (try dsimp only at hSw); go_simp; try with_reducible rfl)
      try simp only [Act.put, List.setIfInBounds_toArray, List.set_cons_zero, List.set_cons_succ]
      refine take_w 2 (some 66) (v := ?_) (by kernel_rfl) (by kernel_rfl) (by kernel_rfl) (by kernel_rfl) (by kernel_rfl) (fun _ _ _ h => h) (by rfl) ?_ (by assumption) ?_
      rotate_left
      · (intro w hSw; (try dsimp only at hSw); go_simp; try with_reducible rfl)
      try simp only [Act.put, List.setIfInBounds_toArray, List.set_cons_zero, List.set_cons_succ]
      refine take_un 2 [(3, some 67), (4, some 68)] rfl (by kernel_rfl) (fun _ _ _ _ h => h) (by assumption) ?_
      simp only [putU, setU, Act.put, List.setIfInBounds_toArray, List.set_cons_zero, List.set_cons_succ]
      refine take_w 5 (some 69) (v := ?_) (by kernel_rfl) (by kernel_rfl) (by kernel_rfl) (by kernel_rfl) (by kernel_rfl) (fun _ _ _ h => h) (by rfl) ?_ (by assumption) ?_
      rotate_left
      · (intro w hSw; (try dsimp only at hSw); go_simp; try with_reducible rfl)
      try simp only [Act.put, List.setIfInBounds_toArray, List.set_cons_zero, List.set_cons_succ]
      refine take_w 6 (some 70) (v := ?_) (by kernel_rfl) (by kernel_rfl) (by kernel_rfl) (by kernel_rfl) (by kernel_rfl) (fun _ _ _ h => h) (by rfl) ?_ (by assumption) ?_
      rotate_left
      · (intro w hSw; (try dsimp only at hSw); go_simp; try with_reducible rfl)
      try simp only [Act.put, List.setIfInBounds_toArray, List.set_cons_zero, List.set_cons_succ]
      refine take_un 5 [(7, some 71), (8, some 72), (9, some 73), (10, some 74), (11, some 75)] rfl (by kernel_rfl) (fun _ _ _ _ h => h) (by assumption) ?_
      simp only [putU, setU, Act.put, List.setIfInBounds_toArray, List.set_cons_zero, List.set_cons_succ]
      refine ready_u 12 (some 76) (by kernel_rfl) (by kernel_rfl) (by kernel_rfl) (by rfl) (by assumption) ?_
      try simp only [Act.put, List.setIfInBounds_toArray, List.set_cons_zero, List.set_cons_succ]
      refine take_un 1 [(13, some 77)] rfl (by kernel_rfl) (fun _ _ _ _ h => h) (by assumption) ?_
      simp only [putU, setU, Act.put, List.setIfInBounds_toArray, List.set_cons_zero, List.set_cons_succ]
      refine take_w 14 (some 78) (v := ?_) (by kernel_rfl) (by kernel_rfl) (by kernel_rfl) (by kernel_rfl) (by kernel_rfl) (fun _ _ _ h => h) (by rfl) ?_ (by assumption) ?_
      rotate_left
      · (intro w hSw; (try dsimp only at hSw); go_simp; try with_reducible rfl)
      try simp only [Act.put, List.setIfInBounds_toArray, List.set_cons_zero, List.set_cons_succ]
      refine take_w 15 (some 79) (v := ?_) (by kernel_rfl) (by kernel_rfl) (by kernel_rfl) (by kernel_rfl) (by kernel_rfl) (fun _ _ _ h => h) (by rfl) ?_ (by assumption) ?_
      rotate_left
      · (intro w hSw; (try dsimp only at hSw); go_simp; try with_reducible rfl)
      try simp only [Act.put, List.setIfInBounds_toArray, List.set_cons_zero, List.set_cons_succ]
      refine ready_one 16 (by kernel_rfl) (by kernel_rfl) (by rfl) (fun Kc hKc => ?_)
      go_simp
      refine (awake10 _ (HT.out.ext (HE6.out.trans (Ext.refl w6).drew))).mono ?_
      rintro e y3 ⟨rfl, hy3⟩
      have Y3 := Lib.hid ((Ext.refl w6).drew.trans hy3)
      clear hy3
      try go_wp2_with fail
      refine hKc.out _ _ ?_ (fun hHeld => ?_)
      · (try dsimp only)
        (first | exact HS.out _ (Ext.refl _).drew | exact HS.out _ Y1.out | exact HS.out _ Y2.out | exact HS.out _ Y3.out)
      clear hKc Kc
      try simp only [Act.put, List.setIfInBounds_toArray, List.set_cons_zero, List.set_cons_succ]
      refine take_w 17 (some 81) (v := ?_) (by kernel_rfl) (by kernel_rfl) (by kernel_rfl) (by kernel_rfl) (by kernel_rfl) (fun _ _ _ h => h) (by rfl) ?_ (by assumption) ?_
      rotate_left
      · (intro w hSw; (try dsimp only at hSw); go_simp; try with_reducible rfl)
      try simp only [Act.put, List.setIfInBounds_toArray, List.set_cons_zero, List.set_cons_succ]
      refine take_w 18 (some 6) (v := ?_) (by kernel_rfl) (by kernel_rfl) (by kernel_rfl) (by kernel_rfl) (by kernel_rfl) (fun _ _ _ h => h) (by rfl) ?_ (by assumption) ?_
      rotate_left
      · (intro w hSw; (try dsimp only at hSw); go_simp; try with_reducible rfl)
      try simp only [Act.put, List.setIfInBounds_toArray, List.set_cons_zero, List.set_cons_succ]
      refine wpAnyH_done (by kernel_rfl) ?_ _
      go_wp2
      go_ret
      exact ⟨rfl, HE6.out.trans Y3.out⟩
    | true =>
      obtain ⟨rfl, ho1⟩ := hyes1 hr1
      cases hr2 : rightO p with
      | false =>
        obtain ⟨rfl, rfl⟩ := hno2 hr2
        clear hno1 hyes1 hno2 hyes2 hr1 hr2 ho1
        go_wp2_with fail
        refine wp_region_held_drew (S := (fun w' => w'.cell? ⟨w.heap.size, 0, none⟩ = some (.int .u8 (o.what.toNat : Int)) ∧ w'.cell? ⟨w.heap.size, 1, none⟩ = some (.string (str o.id)) ∧ w'.cell? ⟨w.heap.size, 2, none⟩ = some (.int .i64 o.tok) ∧ w'.cell? ⟨w.heap.size, 3, none⟩ = some (k) ∧ w'.cell? ⟨w.heap.size, 4, none⟩ = some (n) ∧ w'.cell? ⟨w.heap.size, 5, none⟩ = some (s) ∧ w'.cell? ⟨w.heap.size, 6, none⟩ = some (d) ∧ w'.cell? ⟨w.heap.size, 7, none⟩ = some (.slice a m c) ∧ w'.cell? ⟨w.heap.size, 8, none⟩ = some (.int .i64 o.quo) ∧ w'.cell? ⟨w.heap.size + 1, 0, none⟩ = some (.int .u8 (p.what.toNat : Int)) ∧ w'.cell? ⟨w.heap.size + 1, 1, none⟩ = some (.string (str p.id)) ∧ w'.cell? ⟨w.heap.size + 1, 2, none⟩ = some (.int .i64 p.tok) ∧ w'.cell? ⟨w.heap.size + 1, 3, none⟩ = some (k') ∧ w'.cell? ⟨w.heap.size + 1, 4, none⟩ = some (n') ∧ w'.cell? ⟨w.heap.size + 1, 5, none⟩ = some (s') ∧ w'.cell? ⟨w.heap.size + 1, 6, none⟩ = some (d') ∧ w'.cell? ⟨w.heap.size + 1, 7, none⟩ = some (.slice a' m' c') ∧ w'.cell? ⟨w.heap.size + 1, 8, none⟩ = some (.int .i64 p.quo))) (by kernel_rfl) ?_ (fun hHeld => ?_)
        · (try dsimp only)
          (first | exact HS.out _ (Ext.refl _).drew | exact HS.out _ Y1.out | exact HS.out _ Y2.out | exact HS.out _ Y3.out)
        refine take_w 0 (some 64) (v := ?_) (by kernel_rfl) (by kernel_rfl) (by kernel_rfl) (by kernel_rfl) (by kernel_rfl) (fun _ _ _ h => h) (by rfl) ?_ (by assumption) ?_
        rotate_left
        · (intro w hSw; (try dsimp only at hSw); go_simp; try with_reducible rfl)
        try simp only [Act.put, List.setIfInBounds_toArray, List.set_cons_zero, List.set_cons_succ]
        refine take_w 1 (some 65) (v := ?_) (by kernel_rfl) (by kernel_rfl) (by kernel_rfl) (by kernel_rfl) (by kernel_rfl) (fun _ _ _ h => h) (by rfl) ?_ (by assumption) ?_
        rotate_left
        · (intro w hSw; (try dsimp only at hSw); go_simp; try with_reducible rfl)
        try simp only [Act.put, List.setIfInBounds_toArray, List.set_cons_zero, List.set_cons_succ]
        refine take_w 2 (some 66) (v := ?_) (by kernel_rfl) (by kernel_rfl) (by kernel_rfl) (by kernel_rfl) (by kernel_rfl) (fun _ _ _ h => h) (by rfl) ?_ (by assumption) ?_
        rotate_left
        · (intro w hSw; (try dsimp only at hSw); go_simp; try with_reducible rfl)
        try simp only [Act.put, List.setIfInBounds_toArray, List.set_cons_zero, List.set_cons_succ]
        refine take_w 3 (some 67) (v := ?_) (by kernel_rfl) (by kernel_rfl) (by kernel_rfl) (by kernel_rfl) (by kernel_rfl) (fun _ _ _ h => h) (by rfl) ?_ (by assumption) ?_
        rotate_left
        · (intro w hSw; (try dsimp only at hSw); go_simp; try with_reducible rfl)
        try simp only [Act.put, List.setIfInBounds_toArray, List.set_cons_zero, List.set_cons_succ]
        refine take_w 4 (some 68) (v := ?_) (by kernel_rfl) (by kernel_rfl) (by kernel_rfl) (by kernel_rfl) (by kernel_rfl) (fun _ _ _ h => h) (by rfl) ?_ (by assumption) ?_
        rotate_left
        · (intro w hSw; (try dsimp only at hSw); go_simp; try with_reducible rfl)
        try simp only [Act.put, List.setIfInBounds_toArray, List.set_cons_zero, List.set_cons_succ]
        refine take_w 5 (some 69) (v := ?_) (by kernel_rfl) (by kernel_rfl) (by kernel_rfl) (by kernel_rfl) (by kernel_rfl) (fun _ _ _ h => h) (by rfl) ?_ (by assumption) ?_
        rotate_left
        · (intro w hSw; (try dsimp only at hSw); go_simp; try with_reducible rfl)
        try simp only [Act.put, List.setIfInBounds_toArray, List.set_cons_zero, List.set_cons_succ]
        refine take_w 6 (some 70) (v := ?_) (by kernel_rfl) (by kernel_rfl) (by kernel_rfl) (by kernel_rfl) (by kernel_rfl) (fun _ _ _ h => h) (by rfl) ?_ (by assumption) ?_
        rotate_left
        · (intro w hSw; (try dsimp only at hSw); go_simp; try with_reducible rfl)
        try simp only [Act.put, List.setIfInBounds_toArray, List.set_cons_zero, List.set_cons_succ]
        refine take_un 5 [(7, some 71), (8, some 72), (9, some 73), (10, some 74), (11, some 75)] rfl (by kernel_rfl) (fun _ _ _ _ h => h) (by assumption) ?_
        simp only [putU, setU, Act.put, List.setIfInBounds_toArray, List.set_cons_zero, List.set_cons_succ]
        refine ready_u 12 (some 76) (by kernel_rfl) (by kernel_rfl) (by kernel_rfl) (by rfl) (by assumption) ?_
        try simp only [Act.put, List.setIfInBounds_toArray, List.set_cons_zero, List.set_cons_succ]
        refine take_un 1 [(13, some 77)] rfl (by kernel_rfl) (fun _ _ _ _ h => h) (by assumption) ?_
        simp only [putU, setU, Act.put, List.setIfInBounds_toArray, List.set_cons_zero, List.set_cons_succ]
        refine take_w 14 (some 78) (v := ?_) (by kernel_rfl) (by kernel_rfl) (by kernel_rfl) (by kernel_rfl) (by kernel_rfl) (fun _ _ _ h => h) (by rfl) ?_ (by assumption) ?_
        rotate_left
        · (intro w hSw; (try dsimp only at hSw); go_simp; try with_reducible rfl)
        try simp only [Act.put, List.setIfInBounds_toArray, List.set_cons_zero, List.set_cons_succ]
        refine take_w 15 (some 79) (v := ?_) (by kernel_rfl) (by kernel_rfl) (by kernel_rfl) (by kernel_rfl) (by kernel_rfl) (fun _ _ _ h => h) (by rfl) ?_ (by assumption) ?_
        rotate_left
        · (intro w hSw; (try dsimp only at hSw); go_simp; try with_reducible rfl)
        try simp only [Act.put, List.setIfInBounds_toArray, List.set_cons_zero, List.set_cons_succ]
        refine ready_one 16 (by kernel_rfl) (by kernel_rfl) (by rfl) (fun Kc hKc => ?_)
        go_simp
        refine (awake10 _ (HT.out.ext (HE6.out.trans (Ext.refl w6).drew))).mono ?_
        rintro e y3 ⟨rfl, hy3⟩
        have Y3 := Lib.hid ((Ext.refl w6).drew.trans hy3)
        clear hy3
        try go_wp2_with fail
        refine hKc.out _ _ ?_ (fun hHeld => ?_)
        · (try dsimp only)
          (first | exact HS.out _ (Ext.refl _).drew | exact HS.out _ Y1.out | exact HS.out _ Y2.out | exact HS.out _ Y3.out)
        clear hKc Kc
        try simp only [Act.put, List.setIfInBounds_toArray, List.set_cons_zero, List.set_cons_succ]
        refine take_w 17 (some 81) (v := ?_) (by kernel_rfl) (by kernel_rfl) (by kernel_rfl) (by kernel_rfl) (by kernel_rfl) (fun _ _ _ h => h) (by rfl) ?_ (by assumption) ?_
        rotate_left
        · (intro w hSw; (try dsimp only at hSw); go_simp; try with_reducible rfl)
        try simp only [Act.put, List.setIfInBounds_toArray, List.set_cons_zero, List.set_cons_succ]
        refine take_w 18 (some 6) (v := ?_) (by kernel_rfl) (by kernel_rfl) (by kernel_rfl) (by kernel_rfl) (by kernel_rfl) (fun _ _ _ h => h) (by rfl) ?_ (by assumption) ?_
        rotate_left
        · (intro w hSw; (try dsimp only at hSw); go_simp; try with_reducible rfl)
        try simp only [Act.put, List.setIfInBounds_toArray, List.set_cons_zero, List.set_cons_succ]
        refine wpAnyH_done (by kernel_rfl) ?_ _
        go_wp2
        go_ret
        exact ⟨rfl, HE6.out.trans Y3.out⟩
      | true =>
        obtain ⟨rfl, ho2⟩ := hyes2 hr2
        have HXo := Lib.hid (ho1.bytes.ext HE66.out)
        have HXp := Lib.hid ho2.bytes
        have HDEC := Lib.hid (opBy_dec hr1 hr2 HV.out.wf HU.out.wf)
        clear hno1 hyes1 hno2 hyes2 hr1 hr2 ho1 ho2
        go_wp2_with fail
        refine wp_region_held_drew (S := (fun w' => w'.cell? ⟨w.heap.size, 0, none⟩ = some (.int .u8 (o.what.toNat : Int)) ∧ w'.cell? ⟨w.heap.size, 1, none⟩ = some (.string (str o.id)) ∧ w'.cell? ⟨w.heap.size, 2, none⟩ = some (.int .i64 o.tok) ∧ w'.cell? ⟨w.heap.size, 3, none⟩ = some (k) ∧ w'.cell? ⟨w.heap.size, 4, none⟩ = some (n) ∧ w'.cell? ⟨w.heap.size, 5, none⟩ = some (s) ∧ w'.cell? ⟨w.heap.size, 6, none⟩ = some (d) ∧ w'.cell? ⟨w.heap.size, 7, none⟩ = some (.slice a m c) ∧ w'.cell? ⟨w.heap.size, 8, none⟩ = some (.int .i64 o.quo) ∧ w'.cell? ⟨w.heap.size + 1, 0, none⟩ = some (.int .u8 (p.what.toNat : Int)) ∧ w'.cell? ⟨w.heap.size + 1, 1, none⟩ = some (.string (str p.id)) ∧ w'.cell? ⟨w.heap.size + 1, 2, none⟩ = some (.int .i64 p.tok) ∧ w'.cell? ⟨w.heap.size + 1, 3, none⟩ = some (k') ∧ w'.cell? ⟨w.heap.size + 1, 4, none⟩ = some (n') ∧ w'.cell? ⟨w.heap.size + 1, 5, none⟩ = some (s') ∧ w'.cell? ⟨w.heap.size + 1, 6, none⟩ = some (d') ∧ w'.cell? ⟨w.heap.size + 1, 7, none⟩ = some (.slice a' m' c') ∧ w'.cell? ⟨w.heap.size + 1, 8, none⟩ = some (.int .i64 p.quo))) (by kernel_rfl) ?_ (fun hHeld => ?_)
        · (try dsimp only)
          (first | exact HS.out _ (Ext.refl _).drew | exact HS.out _ Y1.out | exact HS.out _ Y2.out | exact HS.out _ Y3.out)
        refine take_w 0 (some 64) (v := ?_) (by kernel_rfl) (by kernel_rfl) (by kernel_rfl) (by kernel_rfl) (by kernel_rfl) (fun _ _ _ h => h) (by rfl) ?_ (by assumption) ?_
        rotate_left
        · (intro w hSw; (try dsimp only at hSw); go_simp; try with_reducible rfl)
        try simp only [Act.put, List.setIfInBounds_toArray, List.set_cons_zero, List.set_cons_succ]
        refine take_w 1 (some 65) (v := ?_) (by kernel_rfl) (by kernel_rfl) (by kernel_rfl) (by kernel_rfl) (by kernel_rfl) (fun _ _ _ h => h) (by rfl) ?_ (by assumption) ?_
        rotate_left
        · (intro w hSw; (try dsimp only at hSw); go_simp; try with_reducible rfl)
        try simp only [Act.put, List.setIfInBounds_toArray, List.set_cons_zero, List.set_cons_succ]
        refine take_w 2 (some 66) (v := ?_) (by kernel_rfl) (by kernel_rfl) (by kernel_rfl) (by kernel_rfl) (by kernel_rfl) (fun _ _ _ h => h) (by rfl) ?_ (by assumption) ?_
        rotate_left
        · (intro w hSw; (try dsimp only at hSw); go_simp; try with_reducible rfl)
        try simp only [Act.put, List.setIfInBounds_toArray, List.set_cons_zero, List.set_cons_succ]
        refine take_w 3 (some 67) (v := ?_) (by kernel_rfl) (by kernel_rfl) (by kernel_rfl) (by kernel_rfl) (by kernel_rfl) (fun _ _ _ h => h) (by rfl) ?_ (by assumption) ?_
        rotate_left
        · (intro w hSw; (try dsimp only at hSw); go_simp; try with_reducible rfl)
        try simp only [Act.put, List.setIfInBounds_toArray, List.set_cons_zero, List.set_cons_succ]
        refine take_w 4 (some 68) (v := ?_) (by kernel_rfl) (by kernel_rfl) (by kernel_rfl) (by kernel_rfl) (by kernel_rfl) (fun _ _ _ h => h) (by rfl) ?_ (by assumption) ?_
        rotate_left
        · (intro w hSw; (try dsimp only at hSw); go_simp; try with_reducible rfl)
        try simp only [Act.put, List.setIfInBounds_toArray, List.set_cons_zero, List.set_cons_succ]
        refine take_w 5 (some 69) (v := ?_) (by kernel_rfl) (by kernel_rfl) (by kernel_rfl) (by kernel_rfl) (by kernel_rfl) (fun _ _ _ h => h) (by rfl) ?_ (by assumption) ?_
        rotate_left
        · (intro w hSw; (try dsimp only at hSw); go_simp; try with_reducible rfl)
        try simp only [Act.put, List.setIfInBounds_toArray, List.set_cons_zero, List.set_cons_succ]
        refine take_w 6 (some 70) (v := ?_) (by kernel_rfl) (by kernel_rfl) (by kernel_rfl) (by kernel_rfl) (by kernel_rfl) (fun _ _ _ h => h) (by rfl) ?_ (by assumption) ?_
        rotate_left
        · (intro w hSw; (try dsimp only at hSw); go_simp; try with_reducible rfl)
        try simp only [Act.put, List.setIfInBounds_toArray, List.set_cons_zero, List.set_cons_succ]
        refine take_w 7 (some 71) (v := ?_) (by kernel_rfl) (by kernel_rfl) (by kernel_rfl) (by kernel_rfl) (by kernel_rfl) (fun _ _ _ h => h) (by rfl) ?_ (by assumption) ?_
        rotate_left
        · (intro w hSw; (try dsimp only at hSw); go_simp; try with_reducible rfl)
        try simp only [Act.put, List.setIfInBounds_toArray, List.set_cons_zero, List.set_cons_succ]
        refine take_w 8 (some 72) (v := ?_) (by kernel_rfl) (by kernel_rfl) (by kernel_rfl) (by kernel_rfl) (by kernel_rfl) (fun _ _ _ h => h) (by rfl) ?_ (by assumption) ?_
        rotate_left
        · (intro w hSw; (try dsimp only at hSw); go_simp; try with_reducible rfl)
        try simp only [Act.put, List.setIfInBounds_toArray, List.set_cons_zero, List.set_cons_succ]
        refine take_w 10 (some 74) (v := ?_) (by kernel_rfl) (by kernel_rfl) (by kernel_rfl) (by kernel_rfl) (by kernel_rfl) (fun _ _ _ h => h) (by rfl) ?_ (by assumption) ?_
        rotate_left
        · (intro w hSw; (try dsimp only at hSw); go_simp; try with_reducible rfl)
        try simp only [Act.put, List.setIfInBounds_toArray, List.set_cons_zero, List.set_cons_succ]
        refine take_w 11 (some 75) (v := ?_) (by kernel_rfl) (by kernel_rfl) (by kernel_rfl) (by kernel_rfl) (by kernel_rfl) (fun _ _ _ h => h) (by rfl) ?_ (by assumption) ?_
        rotate_left
        · (intro w hSw; (try dsimp only at hSw); go_simp; try with_reducible rfl)
        try simp only [Act.put, List.setIfInBounds_toArray, List.set_cons_zero, List.set_cons_succ]
        refine ready_one 9 (by kernel_rfl) (by kernel_rfl) (by rfl) (fun Kc hKc => ?_)
        go_simp
        refine (same_any _ _ _ _ _ (HXo.out.ext (Ext.refl w6).drew) (HXp.out.ext (Ext.refl w6).drew)).mono ?_
        rw [HDEC.out]
        rintro e y1 ⟨rfl, rfl⟩
        try go_wp2_with fail
        refine hKc.out _ _ ?_ (fun hHeld => ?_)
        · (try dsimp only)
          (first | exact HS.out _ (Ext.refl _).drew | exact HS.out _ Y1.out | exact HS.out _ Y2.out | exact HS.out _ Y3.out)
        clear hKc Kc
        try simp only [Act.put, List.setIfInBounds_toArray, List.set_cons_zero, List.set_cons_succ]
        refine ready_one 12 (by kernel_rfl) (by kernel_rfl) (by rfl) (fun Kc hKc => ?_)
        go_simp
        refine (opSame_any o p _ _ _ (HV.out.ext (HE6.out.trans (Ext.refl w6).drew)) (HU.out.ext (HE6.out.trans (Ext.refl w6).drew))).mono ?_
        rintro e y2 ⟨rfl, hy2⟩
        have Y2 := Lib.hid ((Ext.refl w6).drew.trans hy2)
        clear hy2
        try go_wp2_with fail
        refine hKc.out _ _ ?_ (fun hHeld => ?_)
        · (try dsimp only)
          (first | exact HS.out _ (Ext.refl _).drew | exact HS.out _ Y1.out | exact HS.out _ Y2.out | exact HS.out _ Y3.out)
        clear hKc Kc
        try simp only [Act.put, List.setIfInBounds_toArray, List.set_cons_zero, List.set_cons_succ]
        refine take_w 13 (some 77) (v := ?_) (by kernel_rfl) (by kernel_rfl) (by kernel_rfl) (by kernel_rfl) (by kernel_rfl) (fun _ _ _ h => h) (by rfl) ?_ (by assumption) ?_
        rotate_left
        · (intro w hSw; (try dsimp only at hSw); go_simp; try with_reducible rfl)
        try simp only [Act.put, List.setIfInBounds_toArray, List.set_cons_zero, List.set_cons_succ]
        refine take_w 14 (some 78) (v := ?_) (by kernel_rfl) (by kernel_rfl) (by kernel_rfl) (by kernel_rfl) (by kernel_rfl) (fun _ _ _ h => h) (by rfl) ?_ (by assumption) ?_
        rotate_left
        · (intro w hSw; (try dsimp only at hSw); go_simp; try with_reducible rfl)
        try simp only [Act.put, List.setIfInBounds_toArray, List.set_cons_zero, List.set_cons_succ]
        refine take_w 15 (some 79) (v := ?_) (by kernel_rfl) (by kernel_rfl) (by kernel_rfl) (by kernel_rfl) (by kernel_rfl) (fun _ _ _ h => h) (by rfl) ?_ (by assumption) ?_
        rotate_left
        · (intro w hSw; (try dsimp only at hSw); go_simp; try with_reducible rfl)
        try simp only [Act.put, List.setIfInBounds_toArray, List.set_cons_zero, List.set_cons_succ]
        refine ready_one 16 (by kernel_rfl) (by kernel_rfl) (by rfl) (fun Kc hKc => ?_)
        go_simp
        refine (awake10 _ (HT.out.ext (HE6.out.trans Y2.out))).mono ?_
        rintro e y3 ⟨rfl, hy3⟩
        have Y3 := Lib.hid (Y2.out.trans hy3)
        clear hy3
        try go_wp2_with fail
        refine hKc.out _ _ ?_ (fun hHeld => ?_)
        · (try dsimp only)
          (first | exact HS.out _ (Ext.refl _).drew | exact HS.out _ Y1.out | exact HS.out _ Y2.out | exact HS.out _ Y3.out)
        clear hKc Kc
        try simp only [Act.put, List.setIfInBounds_toArray, List.set_cons_zero, List.set_cons_succ]
        refine take_w 17 (some 81) (v := ?_) (by kernel_rfl) (by kernel_rfl) (by kernel_rfl) (by kernel_rfl) (by kernel_rfl) (fun _ _ _ h => h) (by rfl) ?_ (by assumption) ?_
        rotate_left
        · (intro w hSw; (try dsimp only at hSw); go_simp; try with_reducible rfl)
        try simp only [Act.put, List.setIfInBounds_toArray, List.set_cons_zero, List.set_cons_succ]
        refine take_w 18 (some 6) (v := ?_) (by kernel_rfl) (by kernel_rfl) (by kernel_rfl) (by kernel_rfl) (by kernel_rfl) (fun _ _ _ h => h) (by rfl) ?_ (by assumption) ?_
        rotate_left
        · (intro w hSw; (try dsimp only at hSw); go_simp; try with_reducible rfl)
        try simp only [Act.put, List.setIfInBounds_toArray, List.set_cons_zero, List.set_cons_succ]
        refine wpAnyH_done (by kernel_rfl) ?_ _
        go_wp2
        go_ret
        exact ⟨rfl, HE6.out.trans Y3.out⟩
end Go.Proofs.YtoaomhcffofapaaDoor
