/- SnapOne answers true at every input. -/
import Derived.Test.YtdienbcjfljjnaaDoorSnN
import Derived.Test.YtdienbcjfljjnaaDoorTake
open Go.RowKit Go.Shelf
namespace Go.Proofs.YtdienbcjfljjnaaDoor
open Go Go.Proofs Fm

theorem snBy_inj {o p : Sn} (ho : snB o = true) (hp : snB p = true) (wo : snWf o) (wp : snWf p) (h : snBy o = snBy p) : o = p := by
  have a := parseS_by ho wo
  rw [h, parseS_by hp wp] at a
  injection a with a
  exact a.symm
theorem snBy_dec {o p : Sn} (ho : snB o = true) (hp : snB p = true) (wo : snWf o) (wp : snWf p) : decide (snBy o = snBy p) = eqSn o p := by
  cases he : eqSn o p with
  | true => rw [eqSn_iff.1 he]; exact decide_eq_true rfl
  | false =>
    refine decide_eq_false (fun h => ?_)
    rw [eqSn_iff.2 (snBy_inj ho hp wo wp h)] at he
    cases he

set_option maxRecDepth 100000 in
set_option maxHeartbeats 8000000 in
theorem snapOne_any (w : World) (vb : Value) (be : List UInt8) (hb : Bytes w vb be) (o : Sn) (v : Value) (hv : SnV w o v) (p : Sn) (u : Value) (hu : SnV w p u) :
    Calls Tryd.prog 4 #[vb, v, u] w fun e w' => e = .returned (.bool true) ∧ Ext w w' := by
  have HV := Lib.hid hv
  have HU := Lib.hid hu
  have HB := Lib.hid hb
  obtain ⟨ab, cb, rfl, -⟩ := id hb
  obtain ⟨a, m, c, rfl, -⟩ := hv
  obtain ⟨a', m', c', rfl, -⟩ := hu
  clear hb
  have h1 := (BoxL.new w [.int .i64 o.cq, .int .i64 o.cd, .int .i64 o.cw, .int .i64 o.cr, .int .i64 o.cf, .int .i64 o.flows, .slice a m c, .int .i64 o.tok] 26).ext ((Ext.refl _).alloc (.cells #[.int .i64 p.cq, .int .i64 p.cd, .int .i64 p.cw, .int .i64 p.cr, .int .i64 p.cf, .int .i64 p.flows, .slice a' m' c', .int .i64 p.tok] 26))
  have h2 := BoxL.new (w.alloc (.cells #[.int .i64 o.cq, .int .i64 o.cd, .int .i64 o.cw, .int .i64 o.cr, .int .i64 o.cf, .int .i64 o.flows, .slice a m c, .int .i64 o.tok] 26)) [.int .i64 p.cq, .int .i64 p.cd, .int .i64 p.cw, .int .i64 p.cr, .int .i64 p.cf, .int .i64 p.flows, .slice a' m' c', .int .i64 p.tok] 26
  have hz : (w.alloc (.cells #[.int .i64 o.cq, .int .i64 o.cd, .int .i64 o.cw, .int .i64 o.cr, .int .i64 o.cf, .int .i64 o.flows, .slice a m c, .int .i64 o.tok] 26)).heap.size = w.heap.size + 1 := by simp
  rw [hz] at h2
  have hE := ((Ext.refl w).alloc (.cells #[.int .i64 o.cq, .int .i64 o.cd, .int .i64 o.cw, .int .i64 o.cr, .int .i64 o.cf, .int .i64 o.flows, .slice a m c, .int .i64 o.tok] 26)).alloc (.cells #[.int .i64 p.cq, .int .i64 p.cd, .int .i64 p.cw, .int .i64 p.cr, .int .i64 p.cf, .int .i64 p.flows, .slice a' m' c', .int .i64 p.tok] 26)
  clear hz
  go_enter Tryd.func4, Tryd.ntmps4
  go_upto_region 1 with (fail)
  have H1 := Lib.hid h1
  have H2 := Lib.hid h2
  have HE1 := Lib.hid hE
  clear h1 h2 hE
  generalize (w.alloc _).alloc _ = W1 at *
  by_cases hB4 : 3000 < be.length
  case pos =>
    have hB4' : (3000 : Int) < (be.length : Int) := by omega
    go_wp2_with fail
    refine (awake11 _).mono ?_
    rintro e wz ⟨rfl, hEz⟩
    have HEz := Lib.hid (HE1.out.trans hEz)
    clear hEz
    go_wp2
    go_ret
    exact ⟨rfl, HEz.out⟩
  have hB4' : ¬ (3000 : Int) < (be.length : Int) := by omega
  have ⟨p0, p1, p2, p3, p4, p5, p6, p7⟩ := H1.out.n8
  go_wp2_with fail
  refine (few11_any o W1 _ (HV.out.ext HE1.out)).mono ?_
  rintro e w2 ⟨rfl, hE2⟩
  have HE2 := Lib.hid (HE1.out.trans hE2)
  have H22 := Lib.hid (H2.out.ext hE2)
  have H12 := Lib.hid (H1.out.ext hE2)
  clear hE2 H1 H2 HE1 p0 p1 p2 p3 p4 p5 p6 p7
  cases hf : fewSn o with
  | false =>
    clear hf
    go_wp2_with fail
    refine (awake11 _).mono ?_
    rintro e wz ⟨rfl, hEz⟩
    have HEz := Lib.hid (HE2.out.trans hEz)
    clear hEz
    go_wp2
    go_ret
    exact ⟨rfl, HEz.out⟩
  | true =>
  clear hf
  have ⟨p0, p1, p2, p3, p4, p5, p6, p7⟩ := H22.out.n8
  go_wp2_with fail
  refine (few11_any p w2 _ (HU.out.ext HE2.out)).mono ?_
  rintro e w3 ⟨rfl, hE3⟩
  have HE3 := Lib.hid (HE2.out.trans hE3)
  have H13 := Lib.hid (H12.out.ext hE3)
  have H23 := Lib.hid (H22.out.ext hE3)
  clear hE3 H12 H22 HE2 p0 p1 p2 p3 p4 p5 p6 p7
  cases hf : fewSn p with
  | false =>
    clear hf
    go_wp2_with fail
    refine (awake11 _).mono ?_
    rintro e wz ⟨rfl, hEz⟩
    have HEz := Lib.hid (HE3.out.trans hEz)
    clear hEz
    go_wp2
    go_ret
    exact ⟨rfl, HEz.out⟩
  | true =>
  clear hf
  go_wp2_with fail
  refine (sparse4_any _ be w3 (HB.out.ext HE3.out)).mono ?_
  rintro e w4 ⟨cq, cd, cw, cr, cf, fl, va, vm, vc, tk, f4, x, rfl, hE4, hO4, hno, hyes⟩
  have HA := Lib.hid ((Ext.refl w4).alloc (.cells #[.int .i64 cq, .int .i64 cd, .int .i64 cw, .int .i64 cr, .int .i64 cf, .int .i64 fl, .slice va vm vc, .int .i64 tk] 26))
  have HN : Hid (BoxL (w4.alloc (.cells #[.int .i64 cq, .int .i64 cd, .int .i64 cw, .int .i64 cr, .int .i64 cf, .int .i64 fl, .slice va vm vc, .int .i64 tk] 26)) w4.heap.size [.int .i64 cq, .int .i64 cd, .int .i64 cw, .int .i64 cr, .int .i64 cf, .int .i64 fl, .slice va vm vc, .int .i64 tk]) := Lib.hid (BoxL.new w4 [.int .i64 cq, .int .i64 cd, .int .i64 cw, .int .i64 cr, .int .i64 cf, .int .i64 fl, .slice va vm vc, .int .i64 tk] _)
  have HE4 := Lib.hid ((HE3.out.trans hE4).trans HA.out)
  have H14 := Lib.hid ((H13.out.ext hE4).ext HA.out)
  have H24 := Lib.hid ((H23.out.ext hE4).ext HA.out)
  have HO4 := Lib.hid (hO4.ext HA.out)
  have hlt : w.heap.size + 1 < w4.heap.size := by have := H23.out.lt; have := hE4.size; omega
  clear hE4 hO4 H13 H23 HE3
  cases hp : parseS be with
  | none =>
    obtain ⟨rfl, rfl⟩ := hno hp
    clear hno hyes hp
    go_upto_region 4 with (fail)
    generalize w4.alloc (.cells #[.int .i64 cq, .int .i64 cd, .int .i64 cw, .int .i64 cr, .int .i64 cf, .int .i64 fl, .slice va vm vc, .int .i64 tk] 26) = W4 at *
    clear HN HO4
    obtain ⟨w5, hw5⟩ : ∃ w5, w5 = W4 := ⟨_, rfl⟩
    subst hw5
    have HE5 := HE4
    have H15 := H14
    have H25 := H24
    clear HE4 H14 H24 HA
    have ⟨p0, p1, p2, p3, p4, p5, p6, p7⟩ := H15.out.n8
    go_wp2_with fail
    refine (sbytes_any o w5 _ (HV.out.ext HE5.out)).mono ?_
    rintro e w6a ⟨ax1, mx1, cx1, nx1, rfl, hE6, hno1, hyes1⟩
    have HE6a := Lib.hid (HE5.out.trans hE6)
    have H16a := Lib.hid (H15.out.ext hE6)
    have H26a := Lib.hid (H25.out.ext hE6)
    clear hE6 H15 H25 HE5 p0 p1 p2 p3 p4 p5 p6 p7
    have ⟨p0, p1, p2, p3, p4, p5, p6, p7⟩ := H26a.out.n8
    go_wp2_with fail
    refine (sbytes_any p w6a _ (HU.out.ext HE6a.out)).mono ?_
    rintro e w6 ⟨ax2, mx2, cx2, nx2, rfl, hE6, hno2, hyes2⟩
    have HE6 := Lib.hid (HE6a.out.trans hE6)
    have H16 := Lib.hid (H16a.out.ext hE6)
    have H26 := Lib.hid (H26a.out.ext hE6)
    have HE66 := Lib.hid hE6
    clear hE6 H16a H26a HE6a p0 p1 p2 p3 p4 p5 p6 p7
    have HS : Hid (∀ W2, Ext w6 W2 → W2.cell? ⟨w.heap.size, 0, none⟩ = some (.int .i64 o.cq) ∧ W2.cell? ⟨w.heap.size, 1, none⟩ = some (.int .i64 o.cd) ∧ W2.cell? ⟨w.heap.size, 2, none⟩ = some (.int .i64 o.cw) ∧ W2.cell? ⟨w.heap.size, 3, none⟩ = some (.int .i64 o.cr) ∧ W2.cell? ⟨w.heap.size, 4, none⟩ = some (.int .i64 o.cf) ∧ W2.cell? ⟨w.heap.size, 5, none⟩ = some (.int .i64 o.flows) ∧ W2.cell? ⟨w.heap.size, 6, none⟩ = some (.slice a m c) ∧ W2.cell? ⟨w.heap.size, 7, none⟩ = some (.int .i64 o.tok) ∧ W2.cell? ⟨w.heap.size + 1, 0, none⟩ = some (.int .i64 p.cq) ∧ W2.cell? ⟨w.heap.size + 1, 1, none⟩ = some (.int .i64 p.cd) ∧ W2.cell? ⟨w.heap.size + 1, 2, none⟩ = some (.int .i64 p.cw) ∧ W2.cell? ⟨w.heap.size + 1, 3, none⟩ = some (.int .i64 p.cr) ∧ W2.cell? ⟨w.heap.size + 1, 4, none⟩ = some (.int .i64 p.cf) ∧ W2.cell? ⟨w.heap.size + 1, 5, none⟩ = some (.int .i64 p.flows) ∧ W2.cell? ⟨w.heap.size + 1, 6, none⟩ = some (.slice a' m' c') ∧ W2.cell? ⟨w.heap.size + 1, 7, none⟩ = some (.int .i64 p.tok)) := Lib.hid (fun W2 h => by
      obtain ⟨x0, x1, x2, x3, x4, x5, x6, x7⟩ := (H16.out.ext h).n8
      obtain ⟨z0, z1, z2, z3, z4, z5, z6, z7⟩ := (H26.out.ext h).n8
      exact ⟨x0, x1, x2, x3, x4, x5, x6, x7, z0, z1, z2, z3, z4, z5, z6, z7⟩)
    cases hr1 : snB o with
    | false =>
      obtain ⟨rfl, rfl⟩ := hno1 hr1
      clear hno1 hyes1 hno2 hyes2 hr1
      go_wp2_with fail
      refine wp_region_held_drew (S := (fun w' => w'.cell? ⟨w.heap.size, 0, none⟩ = some (.int .i64 o.cq) ∧ w'.cell? ⟨w.heap.size, 1, none⟩ = some (.int .i64 o.cd) ∧ w'.cell? ⟨w.heap.size, 2, none⟩ = some (.int .i64 o.cw) ∧ w'.cell? ⟨w.heap.size, 3, none⟩ = some (.int .i64 o.cr) ∧ w'.cell? ⟨w.heap.size, 4, none⟩ = some (.int .i64 o.cf) ∧ w'.cell? ⟨w.heap.size, 5, none⟩ = some (.int .i64 o.flows) ∧ w'.cell? ⟨w.heap.size, 6, none⟩ = some (.slice a m c) ∧ w'.cell? ⟨w.heap.size, 7, none⟩ = some (.int .i64 o.tok) ∧ w'.cell? ⟨w.heap.size + 1, 0, none⟩ = some (.int .i64 p.cq) ∧ w'.cell? ⟨w.heap.size + 1, 1, none⟩ = some (.int .i64 p.cd) ∧ w'.cell? ⟨w.heap.size + 1, 2, none⟩ = some (.int .i64 p.cw) ∧ w'.cell? ⟨w.heap.size + 1, 3, none⟩ = some (.int .i64 p.cr) ∧ w'.cell? ⟨w.heap.size + 1, 4, none⟩ = some (.int .i64 p.cf) ∧ w'.cell? ⟨w.heap.size + 1, 5, none⟩ = some (.int .i64 p.flows) ∧ w'.cell? ⟨w.heap.size + 1, 6, none⟩ = some (.slice a' m' c') ∧ w'.cell? ⟨w.heap.size + 1, 7, none⟩ = some (.int .i64 p.tok))) (by kernel_rfl) ?_ (fun hHeld => ?_)
      · (try dsimp only)
        (first | exact HS.out _ (Ext.refl _).drew | exact HS.out _ Y1.out | exact HS.out _ Y2.out | exact HS.out _ Y3.out)
      refine take_w 0 (some 64) (v := ?_) (by kernel_rfl) (by kernel_rfl) (by kernel_rfl) (by kernel_rfl) (by kernel_rfl) (fun _ _ _ h => h) (by rfl) ?_ (by assumption) ?_
      rotate_left
      · (intro w hSw; (try dsimp only at hSw); go_simp; try with_reducible rfl)
      try simp only [Act.put, List.setIfInBounds_toArray, List.set_cons_zero, List.set_cons_succ]
      refine take_w 1 (some 65) (v := ?_) (by kernel_rfl) (by kernel_rfl) (by kernel_rfl) (by kernel_rfl) (by kernel_rfl) (fun _ _ _ h => h) (by rfl) ?_ (by assumption) ?_
      rotate_left
      · (intro w hSw; (try dsimp only at hSw); go_simp; try with_reducible rfl)
      try simp only [Act.put, List.setIfInBounds_toArray, List.set_cons_zero, List.set_cons_succ]
      refine take_w 2 (some 66) (v := ?_) (by kernel_rfl) (by kernel_rfl) (by kernel_rfl) (by kernel_rfl) (by kernel_rfl) (fun _ _ _ h => h) (by rfl) ?_ (by assumption) ?_
      rotate_left
      · (intro w hSw; (try dsimp only at hSw); go_simp; try with_reducible rfl)
      try simp only [Act.put, List.setIfInBounds_toArray, List.set_cons_zero, List.set_cons_succ]
      refine take_un 2 [(3, some 67), (4, some 68)] rfl (by kernel_rfl) (fun _ _ _ _ h => h) (by assumption) ?_
      simp only [putU, setU, Act.put, List.setIfInBounds_toArray, List.set_cons_zero, List.set_cons_succ]
      refine take_w 5 (some 69) (v := ?_) (by kernel_rfl) (by kernel_rfl) (by kernel_rfl) (by kernel_rfl) (by kernel_rfl) (fun _ _ _ h => h) (by rfl) ?_ (by assumption) ?_
      rotate_left
      · (intro w hSw; (try dsimp only at hSw); go_simp; try with_reducible rfl)
      try simp only [Act.put, List.setIfInBounds_toArray, List.set_cons_zero, List.set_cons_succ]
      refine take_w 6 (some 70) (v := ?_) (by kernel_rfl) (by kernel_rfl) (by kernel_rfl) (by kernel_rfl) (by kernel_rfl) (fun _ _ _ h => h) (by rfl) ?_ (by assumption) ?_
      rotate_left
      · (intro w hSw; (try dsimp only at hSw); go_simp; try with_reducible rfl)
      try simp only [Act.put, List.setIfInBounds_toArray, List.set_cons_zero, List.set_cons_succ]
      refine take_un 5 [(7, some 71), (8, some 72), (9, some 73), (10, some 74), (11, some 75)] rfl (by kernel_rfl) (fun _ _ _ _ h => h) (by assumption) ?_
      simp only [putU, setU, Act.put, List.setIfInBounds_toArray, List.set_cons_zero, List.set_cons_succ]
      refine ready_u 12 (some 76) (by kernel_rfl) (by kernel_rfl) (by kernel_rfl) (by rfl) (by assumption) ?_
      try simp only [Act.put, List.setIfInBounds_toArray, List.set_cons_zero, List.set_cons_succ]
      refine take_un 1 [(13, some 77)] rfl (by kernel_rfl) (fun _ _ _ _ h => h) (by assumption) ?_
      simp only [putU, setU, Act.put, List.setIfInBounds_toArray, List.set_cons_zero, List.set_cons_succ]
      refine take_w 14 (some 78) (v := ?_) (by kernel_rfl) (by kernel_rfl) (by kernel_rfl) (by kernel_rfl) (by kernel_rfl) (fun _ _ _ h => h) (by rfl) ?_ (by assumption) ?_
      rotate_left
      · (intro w hSw; (try dsimp only at hSw); go_simp; try with_reducible rfl)
      try simp only [Act.put, List.setIfInBounds_toArray, List.set_cons_zero, List.set_cons_succ]
      refine take_w 15 (some 79) (v := ?_) (by kernel_rfl) (by kernel_rfl) (by kernel_rfl) (by kernel_rfl) (by kernel_rfl) (fun _ _ _ h => h) (by rfl) ?_ (by assumption) ?_
      rotate_left
      · (intro w hSw; (try dsimp only at hSw); go_simp; try with_reducible rfl)
      try simp only [Act.put, List.setIfInBounds_toArray, List.set_cons_zero, List.set_cons_succ]
      refine ready_one 16 (by kernel_rfl) (by kernel_rfl) (by rfl) (fun Kc hKc => ?_)
      go_simp
      refine (awake11 _).mono ?_
      rintro e y3 ⟨rfl, hy3⟩
      have Y3 := Lib.hid ((Ext.refl w6).drew.trans hy3)
      clear hy3
      try go_wp2_with fail
      refine hKc.out _ _ ?_ (fun hHeld => ?_)
      · (try dsimp only)
        (first | exact HS.out _ (Ext.refl _).drew | exact HS.out _ Y1.out | exact HS.out _ Y2.out | exact HS.out _ Y3.out)
      clear hKc Kc
      try simp only [Act.put, List.setIfInBounds_toArray, List.set_cons_zero, List.set_cons_succ]
      refine take_w 17 (some 81) (v := ?_) (by kernel_rfl) (by kernel_rfl) (by kernel_rfl) (by kernel_rfl) (by kernel_rfl) (fun _ _ _ h => h) (by rfl) ?_ (by assumption) ?_
      rotate_left
      · (intro w hSw; (try dsimp only at hSw); go_simp; try with_reducible rfl)
      try simp only [Act.put, List.setIfInBounds_toArray, List.set_cons_zero, List.set_cons_succ]
      refine take_w 18 (some 6) (v := ?_) (by kernel_rfl) (by kernel_rfl) (by kernel_rfl) (by kernel_rfl) (by kernel_rfl) (fun _ _ _ h => h) (by rfl) ?_ (by assumption) ?_
      rotate_left
      · (intro w hSw; (try dsimp only at hSw); go_simp; try with_reducible rfl)
      try simp only [Act.put, List.setIfInBounds_toArray, List.set_cons_zero, List.set_cons_succ]
      refine wpAnyH_done (by kernel_rfl) ?_ _
      go_wp2
      go_ret
      exact ⟨rfl, HE6.out.trans Y3.out⟩
    | true =>
      obtain ⟨rfl, ho1⟩ := hyes1 hr1
      cases hr2 : snB p with
      | false =>
        obtain ⟨rfl, rfl⟩ := hno2 hr2
        clear hno1 hyes1 hno2 hyes2 hr1 hr2 ho1
        go_wp2_with fail
        refine wp_region_held_drew (S := (fun w' => w'.cell? ⟨w.heap.size, 0, none⟩ = some (.int .i64 o.cq) ∧ w'.cell? ⟨w.heap.size, 1, none⟩ = some (.int .i64 o.cd) ∧ w'.cell? ⟨w.heap.size, 2, none⟩ = some (.int .i64 o.cw) ∧ w'.cell? ⟨w.heap.size, 3, none⟩ = some (.int .i64 o.cr) ∧ w'.cell? ⟨w.heap.size, 4, none⟩ = some (.int .i64 o.cf) ∧ w'.cell? ⟨w.heap.size, 5, none⟩ = some (.int .i64 o.flows) ∧ w'.cell? ⟨w.heap.size, 6, none⟩ = some (.slice a m c) ∧ w'.cell? ⟨w.heap.size, 7, none⟩ = some (.int .i64 o.tok) ∧ w'.cell? ⟨w.heap.size + 1, 0, none⟩ = some (.int .i64 p.cq) ∧ w'.cell? ⟨w.heap.size + 1, 1, none⟩ = some (.int .i64 p.cd) ∧ w'.cell? ⟨w.heap.size + 1, 2, none⟩ = some (.int .i64 p.cw) ∧ w'.cell? ⟨w.heap.size + 1, 3, none⟩ = some (.int .i64 p.cr) ∧ w'.cell? ⟨w.heap.size + 1, 4, none⟩ = some (.int .i64 p.cf) ∧ w'.cell? ⟨w.heap.size + 1, 5, none⟩ = some (.int .i64 p.flows) ∧ w'.cell? ⟨w.heap.size + 1, 6, none⟩ = some (.slice a' m' c') ∧ w'.cell? ⟨w.heap.size + 1, 7, none⟩ = some (.int .i64 p.tok))) (by kernel_rfl) ?_ (fun hHeld => ?_)
        · (try dsimp only)
          (first | exact HS.out _ (Ext.refl _).drew | exact HS.out _ Y1.out | exact HS.out _ Y2.out | exact HS.out _ Y3.out)
        refine take_w 0 (some 64) (v := ?_) (by kernel_rfl) (by kernel_rfl) (by kernel_rfl) (by kernel_rfl) (by kernel_rfl) (fun _ _ _ h => h) (by rfl) ?_ (by assumption) ?_
        rotate_left
        · (intro w hSw; (try dsimp only at hSw); go_simp; try with_reducible rfl)
        try simp only [Act.put, List.setIfInBounds_toArray, List.set_cons_zero, List.set_cons_succ]
        refine take_w 1 (some 65) (v := ?_) (by kernel_rfl) (by kernel_rfl) (by kernel_rfl) (by kernel_rfl) (by kernel_rfl) (fun _ _ _ h => h) (by rfl) ?_ (by assumption) ?_
        rotate_left
        · (intro w hSw; (try dsimp only at hSw); go_simp; try with_reducible rfl)
        try simp only [Act.put, List.setIfInBounds_toArray, List.set_cons_zero, List.set_cons_succ]
        refine take_w 2 (some 66) (v := ?_) (by kernel_rfl) (by kernel_rfl) (by kernel_rfl) (by kernel_rfl) (by kernel_rfl) (fun _ _ _ h => h) (by rfl) ?_ (by assumption) ?_
        rotate_left
        · (intro w hSw; (try dsimp only at hSw); go_simp; try with_reducible rfl)
        try simp only [Act.put, List.setIfInBounds_toArray, List.set_cons_zero, List.set_cons_succ]
        refine take_w 3 (some 67) (v := ?_) (by kernel_rfl) (by kernel_rfl) (by kernel_rfl) (by kernel_rfl) (by kernel_rfl) (fun _ _ _ h => h) (by rfl) ?_ (by assumption) ?_
        rotate_left
        · (intro w hSw; (try dsimp only at hSw); go_simp; try with_reducible rfl)
        try simp only [Act.put, List.setIfInBounds_toArray, List.set_cons_zero, List.set_cons_succ]
        refine take_w 4 (some 68) (v := ?_) (by kernel_rfl) (by kernel_rfl) (by kernel_rfl) (by kernel_rfl) (by kernel_rfl) (fun _ _ _ h => h) (by rfl) ?_ (by assumption) ?_
        rotate_left
        · (intro w hSw; (try dsimp only at hSw); go_simp; try with_reducible rfl)
        try simp only [Act.put, List.setIfInBounds_toArray, List.set_cons_zero, List.set_cons_succ]
        refine take_w 5 (some 69) (v := ?_) (by kernel_rfl) (by kernel_rfl) (by kernel_rfl) (by kernel_rfl) (by kernel_rfl) (fun _ _ _ h => h) (by rfl) ?_ (by assumption) ?_
        rotate_left
        · (intro w hSw; (try dsimp only at hSw); go_simp; try with_reducible rfl)
        try simp only [Act.put, List.setIfInBounds_toArray, List.set_cons_zero, List.set_cons_succ]
        refine take_w 6 (some 70) (v := ?_) (by kernel_rfl) (by kernel_rfl) (by kernel_rfl) (by kernel_rfl) (by kernel_rfl) (fun _ _ _ h => h) (by rfl) ?_ (by assumption) ?_
        rotate_left
        · (intro w hSw; (try dsimp only at hSw); go_simp; try with_reducible rfl)
        try simp only [Act.put, List.setIfInBounds_toArray, List.set_cons_zero, List.set_cons_succ]
        refine take_un 5 [(7, some 71), (8, some 72), (9, some 73), (10, some 74), (11, some 75)] rfl (by kernel_rfl) (fun _ _ _ _ h => h) (by assumption) ?_
        simp only [putU, setU, Act.put, List.setIfInBounds_toArray, List.set_cons_zero, List.set_cons_succ]
        refine ready_u 12 (some 76) (by kernel_rfl) (by kernel_rfl) (by kernel_rfl) (by rfl) (by assumption) ?_
        try simp only [Act.put, List.setIfInBounds_toArray, List.set_cons_zero, List.set_cons_succ]
        refine take_un 1 [(13, some 77)] rfl (by kernel_rfl) (fun _ _ _ _ h => h) (by assumption) ?_
        simp only [putU, setU, Act.put, List.setIfInBounds_toArray, List.set_cons_zero, List.set_cons_succ]
        refine take_w 14 (some 78) (v := ?_) (by kernel_rfl) (by kernel_rfl) (by kernel_rfl) (by kernel_rfl) (by kernel_rfl) (fun _ _ _ h => h) (by rfl) ?_ (by assumption) ?_
        rotate_left
        · (intro w hSw; (try dsimp only at hSw); go_simp; try with_reducible rfl)
        try simp only [Act.put, List.setIfInBounds_toArray, List.set_cons_zero, List.set_cons_succ]
        refine take_w 15 (some 79) (v := ?_) (by kernel_rfl) (by kernel_rfl) (by kernel_rfl) (by kernel_rfl) (by kernel_rfl) (fun _ _ _ h => h) (by rfl) ?_ (by assumption) ?_
        rotate_left
        · (intro w hSw; (try dsimp only at hSw); go_simp; try with_reducible rfl)
        try simp only [Act.put, List.setIfInBounds_toArray, List.set_cons_zero, List.set_cons_succ]
        refine ready_one 16 (by kernel_rfl) (by kernel_rfl) (by rfl) (fun Kc hKc => ?_)
        go_simp
        refine (awake11 _).mono ?_
        rintro e y3 ⟨rfl, hy3⟩
        have Y3 := Lib.hid ((Ext.refl w6).drew.trans hy3)
        clear hy3
        try go_wp2_with fail
        refine hKc.out _ _ ?_ (fun hHeld => ?_)
        · (try dsimp only)
          (first | exact HS.out _ (Ext.refl _).drew | exact HS.out _ Y1.out | exact HS.out _ Y2.out | exact HS.out _ Y3.out)
        clear hKc Kc
        try simp only [Act.put, List.setIfInBounds_toArray, List.set_cons_zero, List.set_cons_succ]
        refine take_w 17 (some 81) (v := ?_) (by kernel_rfl) (by kernel_rfl) (by kernel_rfl) (by kernel_rfl) (by kernel_rfl) (fun _ _ _ h => h) (by rfl) ?_ (by assumption) ?_
        rotate_left
        · (intro w hSw; (try dsimp only at hSw); go_simp; try with_reducible rfl)
        try simp only [Act.put, List.setIfInBounds_toArray, List.set_cons_zero, List.set_cons_succ]
        refine take_w 18 (some 6) (v := ?_) (by kernel_rfl) (by kernel_rfl) (by kernel_rfl) (by kernel_rfl) (by kernel_rfl) (fun _ _ _ h => h) (by rfl) ?_ (by assumption) ?_
        rotate_left
        · (intro w hSw; (try dsimp only at hSw); go_simp; try with_reducible rfl)
        try simp only [Act.put, List.setIfInBounds_toArray, List.set_cons_zero, List.set_cons_succ]
        refine wpAnyH_done (by kernel_rfl) ?_ _
        go_wp2
        go_ret
        exact ⟨rfl, HE6.out.trans Y3.out⟩
      | true =>
        obtain ⟨rfl, ho2⟩ := hyes2 hr2
        have HXo := Lib.hid (ho1.bytes.ext HE66.out)
        have HXp := Lib.hid ho2.bytes
        have HDEC := Lib.hid (snBy_dec hr1 hr2 HV.out.wf HU.out.wf)
        clear hno1 hyes1 hno2 hyes2 hr1 hr2 ho1 ho2
        go_wp2_with fail
        refine wp_region_held_drew (S := (fun w' => w'.cell? ⟨w.heap.size, 0, none⟩ = some (.int .i64 o.cq) ∧ w'.cell? ⟨w.heap.size, 1, none⟩ = some (.int .i64 o.cd) ∧ w'.cell? ⟨w.heap.size, 2, none⟩ = some (.int .i64 o.cw) ∧ w'.cell? ⟨w.heap.size, 3, none⟩ = some (.int .i64 o.cr) ∧ w'.cell? ⟨w.heap.size, 4, none⟩ = some (.int .i64 o.cf) ∧ w'.cell? ⟨w.heap.size, 5, none⟩ = some (.int .i64 o.flows) ∧ w'.cell? ⟨w.heap.size, 6, none⟩ = some (.slice a m c) ∧ w'.cell? ⟨w.heap.size, 7, none⟩ = some (.int .i64 o.tok) ∧ w'.cell? ⟨w.heap.size + 1, 0, none⟩ = some (.int .i64 p.cq) ∧ w'.cell? ⟨w.heap.size + 1, 1, none⟩ = some (.int .i64 p.cd) ∧ w'.cell? ⟨w.heap.size + 1, 2, none⟩ = some (.int .i64 p.cw) ∧ w'.cell? ⟨w.heap.size + 1, 3, none⟩ = some (.int .i64 p.cr) ∧ w'.cell? ⟨w.heap.size + 1, 4, none⟩ = some (.int .i64 p.cf) ∧ w'.cell? ⟨w.heap.size + 1, 5, none⟩ = some (.int .i64 p.flows) ∧ w'.cell? ⟨w.heap.size + 1, 6, none⟩ = some (.slice a' m' c') ∧ w'.cell? ⟨w.heap.size + 1, 7, none⟩ = some (.int .i64 p.tok))) (by kernel_rfl) ?_ (fun hHeld => ?_)
        · (try dsimp only)
          (first | exact HS.out _ (Ext.refl _).drew | exact HS.out _ Y1.out | exact HS.out _ Y2.out | exact HS.out _ Y3.out)
        refine take_w 0 (some 64) (v := ?_) (by kernel_rfl) (by kernel_rfl) (by kernel_rfl) (by kernel_rfl) (by kernel_rfl) (fun _ _ _ h => h) (by rfl) ?_ (by assumption) ?_
        rotate_left
        · (intro w hSw; (try dsimp only at hSw); go_simp; try with_reducible rfl)
        try simp only [Act.put, List.setIfInBounds_toArray, List.set_cons_zero, List.set_cons_succ]
        refine take_w 1 (some 65) (v := ?_) (by kernel_rfl) (by kernel_rfl) (by kernel_rfl) (by kernel_rfl) (by kernel_rfl) (fun _ _ _ h => h) (by rfl) ?_ (by assumption) ?_
        rotate_left
        · (intro w hSw; (try dsimp only at hSw); go_simp; try with_reducible rfl)
        try simp only [Act.put, List.setIfInBounds_toArray, List.set_cons_zero, List.set_cons_succ]
        refine take_w 2 (some 66) (v := ?_) (by kernel_rfl) (by kernel_rfl) (by kernel_rfl) (by kernel_rfl) (by kernel_rfl) (fun _ _ _ h => h) (by rfl) ?_ (by assumption) ?_
        rotate_left
        · (intro w hSw; (try dsimp only at hSw); go_simp; try with_reducible rfl)
        try simp only [Act.put, List.setIfInBounds_toArray, List.set_cons_zero, List.set_cons_succ]
        refine take_w 3 (some 67) (v := ?_) (by kernel_rfl) (by kernel_rfl) (by kernel_rfl) (by kernel_rfl) (by kernel_rfl) (fun _ _ _ h => h) (by rfl) ?_ (by assumption) ?_
        rotate_left
        · (intro w hSw; (try dsimp only at hSw); go_simp; try with_reducible rfl)
        try simp only [Act.put, List.setIfInBounds_toArray, List.set_cons_zero, List.set_cons_succ]
        refine take_w 4 (some 68) (v := ?_) (by kernel_rfl) (by kernel_rfl) (by kernel_rfl) (by kernel_rfl) (by kernel_rfl) (fun _ _ _ h => h) (by rfl) ?_ (by assumption) ?_
        rotate_left
        · (intro w hSw; (try dsimp only at hSw); go_simp; try with_reducible rfl)
        try simp only [Act.put, List.setIfInBounds_toArray, List.set_cons_zero, List.set_cons_succ]
        refine take_w 5 (some 69) (v := ?_) (by kernel_rfl) (by kernel_rfl) (by kernel_rfl) (by kernel_rfl) (by kernel_rfl) (fun _ _ _ h => h) (by rfl) ?_ (by assumption) ?_
        rotate_left
        · (intro w hSw; (try dsimp only at hSw); go_simp; try with_reducible rfl)
        try simp only [Act.put, List.setIfInBounds_toArray, List.set_cons_zero, List.set_cons_succ]
        refine take_w 6 (some 70) (v := ?_) (by kernel_rfl) (by kernel_rfl) (by kernel_rfl) (by kernel_rfl) (by kernel_rfl) (fun _ _ _ h => h) (by rfl) ?_ (by assumption) ?_
        rotate_left
        · (intro w hSw; (try dsimp only at hSw); go_simp; try with_reducible rfl)
        try simp only [Act.put, List.setIfInBounds_toArray, List.set_cons_zero, List.set_cons_succ]
        refine take_w 7 (some 71) (v := ?_) (by kernel_rfl) (by kernel_rfl) (by kernel_rfl) (by kernel_rfl) (by kernel_rfl) (fun _ _ _ h => h) (by rfl) ?_ (by assumption) ?_
        rotate_left
        · (intro w hSw; (try dsimp only at hSw); go_simp; try with_reducible rfl)
        try simp only [Act.put, List.setIfInBounds_toArray, List.set_cons_zero, List.set_cons_succ]
        refine take_w 8 (some 72) (v := ?_) (by kernel_rfl) (by kernel_rfl) (by kernel_rfl) (by kernel_rfl) (by kernel_rfl) (fun _ _ _ h => h) (by rfl) ?_ (by assumption) ?_
        rotate_left
        · (intro w hSw; (try dsimp only at hSw); go_simp; try with_reducible rfl)
        try simp only [Act.put, List.setIfInBounds_toArray, List.set_cons_zero, List.set_cons_succ]
        refine take_w 10 (some 74) (v := ?_) (by kernel_rfl) (by kernel_rfl) (by kernel_rfl) (by kernel_rfl) (by kernel_rfl) (fun _ _ _ h => h) (by rfl) ?_ (by assumption) ?_
        rotate_left
        · (intro w hSw; (try dsimp only at hSw); go_simp; try with_reducible rfl)
        try simp only [Act.put, List.setIfInBounds_toArray, List.set_cons_zero, List.set_cons_succ]
        refine take_w 11 (some 75) (v := ?_) (by kernel_rfl) (by kernel_rfl) (by kernel_rfl) (by kernel_rfl) (by kernel_rfl) (fun _ _ _ h => h) (by rfl) ?_ (by assumption) ?_
        rotate_left
        · (intro w hSw; (try dsimp only at hSw); go_simp; try with_reducible rfl)
        try simp only [Act.put, List.setIfInBounds_toArray, List.set_cons_zero, List.set_cons_succ]
        refine ready_one 9 (by kernel_rfl) (by kernel_rfl) (by rfl) (fun Kc hKc => ?_)
        go_simp
        refine (same_any _ _ _ _ _ (HXo.out.ext (Ext.refl w6).drew) (HXp.out.ext (Ext.refl w6).drew)).mono ?_
        rw [HDEC.out]
        rintro e y1 ⟨rfl, rfl⟩
        try go_wp2_with fail
        refine hKc.out _ _ ?_ (fun hHeld => ?_)
        · (try dsimp only)
          (first | exact HS.out _ (Ext.refl _).drew | exact HS.out _ Y1.out | exact HS.out _ Y2.out | exact HS.out _ Y3.out)
        clear hKc Kc
        try simp only [Act.put, List.setIfInBounds_toArray, List.set_cons_zero, List.set_cons_succ]
        refine ready_one 12 (by kernel_rfl) (by kernel_rfl) (by rfl) (fun Kc hKc => ?_)
        go_simp
        refine (sSame_any o p _ _ _ (HV.out.ext (HE6.out.trans (Ext.refl w6).drew)) (HU.out.ext (HE6.out.trans (Ext.refl w6).drew))).mono ?_
        rintro e y2 ⟨rfl, hy2⟩
        have Y2 := Lib.hid ((Ext.refl w6).drew.trans hy2)
        clear hy2
        try go_wp2_with fail
        refine hKc.out _ _ ?_ (fun hHeld => ?_)
        · (try dsimp only)
          (first | exact HS.out _ (Ext.refl _).drew | exact HS.out _ Y1.out | exact HS.out _ Y2.out | exact HS.out _ Y3.out)
        clear hKc Kc
        try simp only [Act.put, List.setIfInBounds_toArray, List.set_cons_zero, List.set_cons_succ]
        refine take_w 13 (some 77) (v := ?_) (by kernel_rfl) (by kernel_rfl) (by kernel_rfl) (by kernel_rfl) (by kernel_rfl) (fun _ _ _ h => h) (by rfl) ?_ (by assumption) ?_
        rotate_left
        · (intro w hSw; (try dsimp only at hSw); go_simp; try with_reducible rfl)
        try simp only [Act.put, List.setIfInBounds_toArray, List.set_cons_zero, List.set_cons_succ]
        refine take_w 14 (some 78) (v := ?_) (by kernel_rfl) (by kernel_rfl) (by kernel_rfl) (by kernel_rfl) (by kernel_rfl) (fun _ _ _ h => h) (by rfl) ?_ (by assumption) ?_
        rotate_left
        · (intro w hSw; (try dsimp only at hSw); go_simp; try with_reducible rfl)
        try simp only [Act.put, List.setIfInBounds_toArray, List.set_cons_zero, List.set_cons_succ]
        refine take_w 15 (some 79) (v := ?_) (by kernel_rfl) (by kernel_rfl) (by kernel_rfl) (by kernel_rfl) (by kernel_rfl) (fun _ _ _ h => h) (by rfl) ?_ (by assumption) ?_
        rotate_left
        · (intro w hSw; (try dsimp only at hSw); go_simp; try with_reducible rfl)
        try simp only [Act.put, List.setIfInBounds_toArray, List.set_cons_zero, List.set_cons_succ]
        refine ready_one 16 (by kernel_rfl) (by kernel_rfl) (by rfl) (fun Kc hKc => ?_)
        go_simp
        refine (awake11 _).mono ?_
        rintro e y3 ⟨rfl, hy3⟩
        have Y3 := Lib.hid (Y2.out.trans hy3)
        clear hy3
        try go_wp2_with fail
        refine hKc.out _ _ ?_ (fun hHeld => ?_)
        · (try dsimp only)
          (first | exact HS.out _ (Ext.refl _).drew | exact HS.out _ Y1.out | exact HS.out _ Y2.out | exact HS.out _ Y3.out)
        clear hKc Kc
        try simp only [Act.put, List.setIfInBounds_toArray, List.set_cons_zero, List.set_cons_succ]
        refine take_w 17 (some 81) (v := ?_) (by kernel_rfl) (by kernel_rfl) (by kernel_rfl) (by kernel_rfl) (by kernel_rfl) (fun _ _ _ h => h) (by rfl) ?_ (by assumption) ?_
        rotate_left
        · (intro w hSw; (try dsimp only at hSw); go_simp; try with_reducible rfl)
        try simp only [Act.put, List.setIfInBounds_toArray, List.set_cons_zero, List.set_cons_succ]
        refine take_w 18 (some 6) (v := ?_) (by kernel_rfl) (by kernel_rfl) (by kernel_rfl) (by kernel_rfl) (by kernel_rfl) (fun _ _ _ h => h) (by rfl) ?_ (by assumption) ?_
        rotate_left
        · (intro w hSw; (try dsimp only at hSw); go_simp; try with_reducible rfl)
        try simp only [Act.put, List.setIfInBounds_toArray, List.set_cons_zero, List.set_cons_succ]
        refine wpAnyH_done (by kernel_rfl) ?_ _
        go_wp2
        go_ret
        exact ⟨rfl, HE6.out.trans Y3.out⟩
  | some x' =>
    obtain ⟨rfl, rfl⟩ := hyes x' hp
    obtain ⟨r1, r2, r3⟩ := parseS_iff.1 hp
    have HR1 := Lib.hid r1
    have HR3 := Lib.hid r3
    clear hno hyes hp r1 r2 r3
    go_upto_region 4 with (fail)
    generalize w4.alloc (.cells #[.int .i64 cq, .int .i64 cd, .int .i64 cw, .int .i64 cr, .int .i64 cf, .int .i64 fl, .slice va vm vc, .int .i64 tk] 26) = W4 at *
    have ⟨p0, p1, p2, p3, p4, p5, p6, p7⟩ := HN.out.n8
    go_wp2_with fail
    refine (sbytes_any x W4 _ HO4.out.v).mono ?_
    rintro e w5a ⟨ax, mx, cx, nx, rfl, hE5, -, hyes⟩
    obtain ⟨rfl, hox⟩ := hyes HR1.out
    have HX := Lib.hid hox.bytes
    have HN5 := Lib.hid (HN.out.ext hE5)
    have HO5 := Lib.hid (HO4.out.ext hE5)
    have HE5a := Lib.hid (HE4.out.trans hE5)
    have H15a := Lib.hid (H14.out.ext hE5)
    have H25a := Lib.hid (H24.out.ext hE5)
    clear hE5 hox hyes HN HO4 HE4 H14 H24 p0 p1 p2 p3 p4 p5 p6 p7
    have ⟨p0, p1, p2, p3, p4, p5, p6, p7⟩ := HN5.out.n8
    go_wp2_with fail
    refine (sright_any x w5a _ HO5.out.v).mono ?_
    rw [HR1.out]
    rintro e w5 ⟨rfl, hE5⟩
    have HE5 := Lib.hid (HE5a.out.trans hE5)
    have H15 := Lib.hid (H15a.out.ext hE5)
    have H25 := Lib.hid (H25a.out.ext hE5)
    have HX5 := Lib.hid (HX.out.ext hE5)
    clear hE5 HX HN5 HO5 HE5a H15a H25a p0 p1 p2 p3 p4 p5 p6 p7
    go_wp2_with fail
    refine (same_any _ _ _ _ w5 (HB.out.ext HE5.out) HX5.out).mono ?_
    rw [decide_eq_true HR3.out]
    rintro e w5' ⟨rfl, rfl⟩
    clear HX5 HR1 HR3 HA
    have ⟨p0, p1, p2, p3, p4, p5, p6, p7⟩ := H15.out.n8
    go_wp2_with fail
    refine (sbytes_any o w5 _ (HV.out.ext HE5.out)).mono ?_
    rintro e w6a ⟨ax1, mx1, cx1, nx1, rfl, hE6, hno1, hyes1⟩
    have HE6a := Lib.hid (HE5.out.trans hE6)
    have H16a := Lib.hid (H15.out.ext hE6)
    have H26a := Lib.hid (H25.out.ext hE6)
    clear hE6 H15 H25 HE5 p0 p1 p2 p3 p4 p5 p6 p7
    have ⟨p0, p1, p2, p3, p4, p5, p6, p7⟩ := H26a.out.n8
    go_wp2_with fail
    refine (sbytes_any p w6a _ (HU.out.ext HE6a.out)).mono ?_
    rintro e w6 ⟨ax2, mx2, cx2, nx2, rfl, hE6, hno2, hyes2⟩
    have HE6 := Lib.hid (HE6a.out.trans hE6)
    have H16 := Lib.hid (H16a.out.ext hE6)
    have H26 := Lib.hid (H26a.out.ext hE6)
    have HE66 := Lib.hid hE6
    clear hE6 H16a H26a HE6a p0 p1 p2 p3 p4 p5 p6 p7
    have HS : Hid (∀ W2, Ext w6 W2 → W2.cell? ⟨w.heap.size, 0, none⟩ = some (.int .i64 o.cq) ∧ W2.cell? ⟨w.heap.size, 1, none⟩ = some (.int .i64 o.cd) ∧ W2.cell? ⟨w.heap.size, 2, none⟩ = some (.int .i64 o.cw) ∧ W2.cell? ⟨w.heap.size, 3, none⟩ = some (.int .i64 o.cr) ∧ W2.cell? ⟨w.heap.size, 4, none⟩ = some (.int .i64 o.cf) ∧ W2.cell? ⟨w.heap.size, 5, none⟩ = some (.int .i64 o.flows) ∧ W2.cell? ⟨w.heap.size, 6, none⟩ = some (.slice a m c) ∧ W2.cell? ⟨w.heap.size, 7, none⟩ = some (.int .i64 o.tok) ∧ W2.cell? ⟨w.heap.size + 1, 0, none⟩ = some (.int .i64 p.cq) ∧ W2.cell? ⟨w.heap.size + 1, 1, none⟩ = some (.int .i64 p.cd) ∧ W2.cell? ⟨w.heap.size + 1, 2, none⟩ = some (.int .i64 p.cw) ∧ W2.cell? ⟨w.heap.size + 1, 3, none⟩ = some (.int .i64 p.cr) ∧ W2.cell? ⟨w.heap.size + 1, 4, none⟩ = some (.int .i64 p.cf) ∧ W2.cell? ⟨w.heap.size + 1, 5, none⟩ = some (.int .i64 p.flows) ∧ W2.cell? ⟨w.heap.size + 1, 6, none⟩ = some (.slice a' m' c') ∧ W2.cell? ⟨w.heap.size + 1, 7, none⟩ = some (.int .i64 p.tok)) := Lib.hid (fun W2 h => by
      obtain ⟨x0, x1, x2, x3, x4, x5, x6, x7⟩ := (H16.out.ext h).n8
      obtain ⟨z0, z1, z2, z3, z4, z5, z6, z7⟩ := (H26.out.ext h).n8
      exact ⟨x0, x1, x2, x3, x4, x5, x6, x7, z0, z1, z2, z3, z4, z5, z6, z7⟩)
    cases hr1 : snB o with
    | false =>
      obtain ⟨rfl, rfl⟩ := hno1 hr1
      clear hno1 hyes1 hno2 hyes2 hr1
      go_wp2_with fail
      refine wp_region_held_drew (S := (fun w' => w'.cell? ⟨w.heap.size, 0, none⟩ = some (.int .i64 o.cq) ∧ w'.cell? ⟨w.heap.size, 1, none⟩ = some (.int .i64 o.cd) ∧ w'.cell? ⟨w.heap.size, 2, none⟩ = some (.int .i64 o.cw) ∧ w'.cell? ⟨w.heap.size, 3, none⟩ = some (.int .i64 o.cr) ∧ w'.cell? ⟨w.heap.size, 4, none⟩ = some (.int .i64 o.cf) ∧ w'.cell? ⟨w.heap.size, 5, none⟩ = some (.int .i64 o.flows) ∧ w'.cell? ⟨w.heap.size, 6, none⟩ = some (.slice a m c) ∧ w'.cell? ⟨w.heap.size, 7, none⟩ = some (.int .i64 o.tok) ∧ w'.cell? ⟨w.heap.size + 1, 0, none⟩ = some (.int .i64 p.cq) ∧ w'.cell? ⟨w.heap.size + 1, 1, none⟩ = some (.int .i64 p.cd) ∧ w'.cell? ⟨w.heap.size + 1, 2, none⟩ = some (.int .i64 p.cw) ∧ w'.cell? ⟨w.heap.size + 1, 3, none⟩ = some (.int .i64 p.cr) ∧ w'.cell? ⟨w.heap.size + 1, 4, none⟩ = some (.int .i64 p.cf) ∧ w'.cell? ⟨w.heap.size + 1, 5, none⟩ = some (.int .i64 p.flows) ∧ w'.cell? ⟨w.heap.size + 1, 6, none⟩ = some (.slice a' m' c') ∧ w'.cell? ⟨w.heap.size + 1, 7, none⟩ = some (.int .i64 p.tok))) (by kernel_rfl) ?_ (fun hHeld => ?_)
      · (try dsimp only)
        (first | exact HS.out _ (Ext.refl _).drew | exact HS.out _ Y1.out | exact HS.out _ Y2.out | exact HS.out _ Y3.out)
      refine take_w 0 (some 64) (v := ?_) (by kernel_rfl) (by kernel_rfl) (by kernel_rfl) (by kernel_rfl) (by kernel_rfl) (fun _ _ _ h => h) (by rfl) ?_ (by assumption) ?_
      rotate_left
      · (intro w hSw; (try dsimp only at hSw); go_simp; try with_reducible rfl)
      try simp only [Act.put, List.setIfInBounds_toArray, List.set_cons_zero, List.set_cons_succ]
      refine take_w 1 (some 65) (v := ?_) (by kernel_rfl) (by kernel_rfl) (by kernel_rfl) (by kernel_rfl) (by kernel_rfl) (fun _ _ _ h => h) (by rfl) ?_ (by assumption) ?_
      rotate_left
      · (intro w hSw; (try dsimp only at hSw); go_simp; try with_reducible rfl)
      try simp only [Act.put, List.setIfInBounds_toArray, List.set_cons_zero, List.set_cons_succ]
      refine take_w 2 (some 66) (v := ?_) (by kernel_rfl) (by kernel_rfl) (by kernel_rfl) (by kernel_rfl) (by kernel_rfl) (fun _ _ _ h => h) (by rfl) ?_ (by assumption) ?_
      rotate_left
      · (intro w hSw; (try dsimp only at hSw); go_simp; try with_reducible rfl)
      try simp only [Act.put, List.setIfInBounds_toArray, List.set_cons_zero, List.set_cons_succ]
      refine take_un 2 [(3, some 67), (4, some 68)] rfl (by kernel_rfl) (fun _ _ _ _ h => h) (by assumption) ?_
      simp only [putU, setU, Act.put, List.setIfInBounds_toArray, List.set_cons_zero, List.set_cons_succ]
      refine take_w 5 (some 69) (v := ?_) (by kernel_rfl) (by kernel_rfl) (by kernel_rfl) (by kernel_rfl) (by kernel_rfl) (fun _ _ _ h => h) (by rfl) ?_ (by assumption) ?_
      rotate_left
      · (intro w hSw; (try dsimp only at hSw); go_simp; try with_reducible rfl)
      try simp only [Act.put, List.setIfInBounds_toArray, List.set_cons_zero, List.set_cons_succ]
      refine take_w 6 (some 70) (v := ?_) (by kernel_rfl) (by kernel_rfl) (by kernel_rfl) (by kernel_rfl) (by kernel_rfl) (fun _ _ _ h => h) (by rfl) ?_ (by assumption) ?_
      rotate_left
      · (intro w hSw; (try dsimp only at hSw); go_simp; try with_reducible rfl)
      try simp only [Act.put, List.setIfInBounds_toArray, List.set_cons_zero, List.set_cons_succ]
      refine take_un 5 [(7, some 71), (8, some 72), (9, some 73), (10, some 74), (11, some 75)] rfl (by kernel_rfl) (fun _ _ _ _ h => h) (by assumption) ?_
      simp only [putU, setU, Act.put, List.setIfInBounds_toArray, List.set_cons_zero, List.set_cons_succ]
      refine ready_u 12 (some 76) (by kernel_rfl) (by kernel_rfl) (by kernel_rfl) (by rfl) (by assumption) ?_
      try simp only [Act.put, List.setIfInBounds_toArray, List.set_cons_zero, List.set_cons_succ]
      refine take_un 1 [(13, some 77)] rfl (by kernel_rfl) (fun _ _ _ _ h => h) (by assumption) ?_
      simp only [putU, setU, Act.put, List.setIfInBounds_toArray, List.set_cons_zero, List.set_cons_succ]
      refine take_w 14 (some 78) (v := ?_) (by kernel_rfl) (by kernel_rfl) (by kernel_rfl) (by kernel_rfl) (by kernel_rfl) (fun _ _ _ h => h) (by rfl) ?_ (by assumption) ?_
      rotate_left
      · (intro w hSw; (try dsimp only at hSw); go_simp; try with_reducible rfl)
      try simp only [Act.put, List.setIfInBounds_toArray, List.set_cons_zero, List.set_cons_succ]
      refine take_w 15 (some 79) (v := ?_) (by kernel_rfl) (by kernel_rfl) (by kernel_rfl) (by kernel_rfl) (by kernel_rfl) (fun _ _ _ h => h) (by rfl) ?_ (by assumption) ?_
      rotate_left
      · (intro w hSw; (try dsimp only at hSw); go_simp; try with_reducible rfl)
      try simp only [Act.put, List.setIfInBounds_toArray, List.set_cons_zero, List.set_cons_succ]
      refine ready_one 16 (by kernel_rfl) (by kernel_rfl) (by rfl) (fun Kc hKc => ?_)
      go_simp
      refine (awake11 _).mono ?_
      rintro e y3 ⟨rfl, hy3⟩
      have Y3 := Lib.hid ((Ext.refl w6).drew.trans hy3)
      clear hy3
      try go_wp2_with fail
      refine hKc.out _ _ ?_ (fun hHeld => ?_)
      · (try dsimp only)
        (first | exact HS.out _ (Ext.refl _).drew | exact HS.out _ Y1.out | exact HS.out _ Y2.out | exact HS.out _ Y3.out)
      clear hKc Kc
      try simp only [Act.put, List.setIfInBounds_toArray, List.set_cons_zero, List.set_cons_succ]
      refine take_w 17 (some 81) (v := ?_) (by kernel_rfl) (by kernel_rfl) (by kernel_rfl) (by kernel_rfl) (by kernel_rfl) (fun _ _ _ h => h) (by rfl) ?_ (by assumption) ?_
      rotate_left
      · (intro w hSw; (try dsimp only at hSw); go_simp; try with_reducible rfl)
      try simp only [Act.put, List.setIfInBounds_toArray, List.set_cons_zero, List.set_cons_succ]
      refine take_w 18 (some 6) (v := ?_) (by kernel_rfl) (by kernel_rfl) (by kernel_rfl) (by kernel_rfl) (by kernel_rfl) (fun _ _ _ h => h) (by rfl) ?_ (by assumption) ?_
      rotate_left
      · (intro w hSw; (try dsimp only at hSw); go_simp; try with_reducible rfl)
      try simp only [Act.put, List.setIfInBounds_toArray, List.set_cons_zero, List.set_cons_succ]
      refine wpAnyH_done (by kernel_rfl) ?_ _
      go_wp2
      go_ret
      exact ⟨rfl, HE6.out.trans Y3.out⟩
    | true =>
      obtain ⟨rfl, ho1⟩ := hyes1 hr1
      cases hr2 : snB p with
      | false =>
        obtain ⟨rfl, rfl⟩ := hno2 hr2
        clear hno1 hyes1 hno2 hyes2 hr1 hr2 ho1
        go_wp2_with fail
        refine wp_region_held_drew (S := (fun w' => w'.cell? ⟨w.heap.size, 0, none⟩ = some (.int .i64 o.cq) ∧ w'.cell? ⟨w.heap.size, 1, none⟩ = some (.int .i64 o.cd) ∧ w'.cell? ⟨w.heap.size, 2, none⟩ = some (.int .i64 o.cw) ∧ w'.cell? ⟨w.heap.size, 3, none⟩ = some (.int .i64 o.cr) ∧ w'.cell? ⟨w.heap.size, 4, none⟩ = some (.int .i64 o.cf) ∧ w'.cell? ⟨w.heap.size, 5, none⟩ = some (.int .i64 o.flows) ∧ w'.cell? ⟨w.heap.size, 6, none⟩ = some (.slice a m c) ∧ w'.cell? ⟨w.heap.size, 7, none⟩ = some (.int .i64 o.tok) ∧ w'.cell? ⟨w.heap.size + 1, 0, none⟩ = some (.int .i64 p.cq) ∧ w'.cell? ⟨w.heap.size + 1, 1, none⟩ = some (.int .i64 p.cd) ∧ w'.cell? ⟨w.heap.size + 1, 2, none⟩ = some (.int .i64 p.cw) ∧ w'.cell? ⟨w.heap.size + 1, 3, none⟩ = some (.int .i64 p.cr) ∧ w'.cell? ⟨w.heap.size + 1, 4, none⟩ = some (.int .i64 p.cf) ∧ w'.cell? ⟨w.heap.size + 1, 5, none⟩ = some (.int .i64 p.flows) ∧ w'.cell? ⟨w.heap.size + 1, 6, none⟩ = some (.slice a' m' c') ∧ w'.cell? ⟨w.heap.size + 1, 7, none⟩ = some (.int .i64 p.tok))) (by kernel_rfl) ?_ (fun hHeld => ?_)
        · (try dsimp only)
          (first | exact HS.out _ (Ext.refl _).drew | exact HS.out _ Y1.out | exact HS.out _ Y2.out | exact HS.out _ Y3.out)
        refine take_w 0 (some 64) (v := ?_) (by kernel_rfl) (by kernel_rfl) (by kernel_rfl) (by kernel_rfl) (by kernel_rfl) (fun _ _ _ h => h) (by rfl) ?_ (by assumption) ?_
        rotate_left
        · (intro w hSw; (try dsimp only at hSw); go_simp; try with_reducible rfl)
        try simp only [Act.put, List.setIfInBounds_toArray, List.set_cons_zero, List.set_cons_succ]
        refine take_w 1 (some 65) (v := ?_) (by kernel_rfl) (by kernel_rfl) (by kernel_rfl) (by kernel_rfl) (by kernel_rfl) (fun _ _ _ h => h) (by rfl) ?_ (by assumption) ?_
        rotate_left
        · (intro w hSw; (try dsimp only at hSw); go_simp; try with_reducible rfl)
        try simp only [Act.put, List.setIfInBounds_toArray, List.set_cons_zero, List.set_cons_succ]
        refine take_w 2 (some 66) (v := ?_) (by kernel_rfl) (by kernel_rfl) (by kernel_rfl) (by kernel_rfl) (by kernel_rfl) (fun _ _ _ h => h) (by rfl) ?_ (by assumption) ?_
        rotate_left
        · (intro w hSw; (try dsimp only at hSw); go_simp; try with_reducible rfl)
        try simp only [Act.put, List.setIfInBounds_toArray, List.set_cons_zero, List.set_cons_succ]
        refine take_w 3 (some 67) (v := ?_) (by kernel_rfl) (by kernel_rfl) (by kernel_rfl) (by kernel_rfl) (by kernel_rfl) (fun _ _ _ h => h) (by rfl) ?_ (by assumption) ?_
        rotate_left
        · (intro w hSw; (try dsimp only at hSw); go_simp; try with_reducible rfl)
        try simp only [Act.put, List.setIfInBounds_toArray, List.set_cons_zero, List.set_cons_succ]
        refine take_w 4 (some 68) (v := ?_) (by kernel_rfl) (by kernel_rfl) (by kernel_rfl) (by kernel_rfl) (by kernel_rfl) (fun _ _ _ h => h) (by rfl) ?_ (by assumption) ?_
        rotate_left
        · (intro w hSw; (try dsimp only at hSw); go_simp; try with_reducible rfl)
        try simp only [Act.put, List.setIfInBounds_toArray, List.set_cons_zero, List.set_cons_succ]
        refine take_w 5 (some 69) (v := ?_) (by kernel_rfl) (by kernel_rfl) (by kernel_rfl) (by kernel_rfl) (by kernel_rfl) (fun _ _ _ h => h) (by rfl) ?_ (by assumption) ?_
        rotate_left
        · (intro w hSw; (try dsimp only at hSw); go_simp; try with_reducible rfl)
        try simp only [Act.put, List.setIfInBounds_toArray, List.set_cons_zero, List.set_cons_succ]
        refine take_w 6 (some 70) (v := ?_) (by kernel_rfl) (by kernel_rfl) (by kernel_rfl) (by kernel_rfl) (by kernel_rfl) (fun _ _ _ h => h) (by rfl) ?_ (by assumption) ?_
        rotate_left
        · (intro w hSw; (try dsimp only at hSw); go_simp; try with_reducible rfl)
        try simp only [Act.put, List.setIfInBounds_toArray, List.set_cons_zero, List.set_cons_succ]
        refine take_un 5 [(7, some 71), (8, some 72), (9, some 73), (10, some 74), (11, some 75)] rfl (by kernel_rfl) (fun _ _ _ _ h => h) (by assumption) ?_
        simp only [putU, setU, Act.put, List.setIfInBounds_toArray, List.set_cons_zero, List.set_cons_succ]
        refine ready_u 12 (some 76) (by kernel_rfl) (by kernel_rfl) (by kernel_rfl) (by rfl) (by assumption) ?_
        try simp only [Act.put, List.setIfInBounds_toArray, List.set_cons_zero, List.set_cons_succ]
        refine take_un 1 [(13, some 77)] rfl (by kernel_rfl) (fun _ _ _ _ h => h) (by assumption) ?_
        simp only [putU, setU, Act.put, List.setIfInBounds_toArray, List.set_cons_zero, List.set_cons_succ]
        refine take_w 14 (some 78) (v := ?_) (by kernel_rfl) (by kernel_rfl) (by kernel_rfl) (by kernel_rfl) (by kernel_rfl) (fun _ _ _ h => h) (by rfl) ?_ (by assumption) ?_
        rotate_left
        · (intro w hSw; (try dsimp only at hSw); go_simp; try with_reducible rfl)
        try simp only [Act.put, List.setIfInBounds_toArray, List.set_cons_zero, List.set_cons_succ]
        refine take_w 15 (some 79) (v := ?_) (by kernel_rfl) (by kernel_rfl) (by kernel_rfl) (by kernel_rfl) (by kernel_rfl) (fun _ _ _ h => h) (by rfl) ?_ (by assumption) ?_
        rotate_left
        · (intro w hSw; (try dsimp only at hSw); go_simp; try with_reducible rfl)
        try simp only [Act.put, List.setIfInBounds_toArray, List.set_cons_zero, List.set_cons_succ]
        refine ready_one 16 (by kernel_rfl) (by kernel_rfl) (by rfl) (fun Kc hKc => ?_)
        go_simp
        refine (awake11 _).mono ?_
        rintro e y3 ⟨rfl, hy3⟩
        have Y3 := Lib.hid ((Ext.refl w6).drew.trans hy3)
        clear hy3
        try go_wp2_with fail
        refine hKc.out _ _ ?_ (fun hHeld => ?_)
        · (try dsimp only)
          (first | exact HS.out _ (Ext.refl _).drew | exact HS.out _ Y1.out | exact HS.out _ Y2.out | exact HS.out _ Y3.out)
        clear hKc Kc
        try simp only [Act.put, List.setIfInBounds_toArray, List.set_cons_zero, List.set_cons_succ]
        refine take_w 17 (some 81) (v := ?_) (by kernel_rfl) (by kernel_rfl) (by kernel_rfl) (by kernel_rfl) (by kernel_rfl) (fun _ _ _ h => h) (by rfl) ?_ (by assumption) ?_
        rotate_left
        · (intro w hSw; (try dsimp only at hSw); go_simp; try with_reducible rfl)
        try simp only [Act.put, List.setIfInBounds_toArray, List.set_cons_zero, List.set_cons_succ]
        refine take_w 18 (some 6) (v := ?_) (by kernel_rfl) (by kernel_rfl) (by kernel_rfl) (by kernel_rfl) (by kernel_rfl) (fun _ _ _ h => h) (by rfl) ?_ (by assumption) ?_
        rotate_left
        · (intro w hSw; (try dsimp only at hSw); go_simp; try with_reducible rfl)
        try simp only [Act.put, List.setIfInBounds_toArray, List.set_cons_zero, List.set_cons_succ]
        refine wpAnyH_done (by kernel_rfl) ?_ _
        go_wp2
        go_ret
        exact ⟨rfl, HE6.out.trans Y3.out⟩
      | true =>
        obtain ⟨rfl, ho2⟩ := hyes2 hr2
        have HXo := Lib.hid (ho1.bytes.ext HE66.out)
        have HXp := Lib.hid ho2.bytes
        have HDEC := Lib.hid (snBy_dec hr1 hr2 HV.out.wf HU.out.wf)
        clear hno1 hyes1 hno2 hyes2 hr1 hr2 ho1 ho2
        go_wp2_with fail
        refine wp_region_held_drew (S := (fun w' => w'.cell? ⟨w.heap.size, 0, none⟩ = some (.int .i64 o.cq) ∧ w'.cell? ⟨w.heap.size, 1, none⟩ = some (.int .i64 o.cd) ∧ w'.cell? ⟨w.heap.size, 2, none⟩ = some (.int .i64 o.cw) ∧ w'.cell? ⟨w.heap.size, 3, none⟩ = some (.int .i64 o.cr) ∧ w'.cell? ⟨w.heap.size, 4, none⟩ = some (.int .i64 o.cf) ∧ w'.cell? ⟨w.heap.size, 5, none⟩ = some (.int .i64 o.flows) ∧ w'.cell? ⟨w.heap.size, 6, none⟩ = some (.slice a m c) ∧ w'.cell? ⟨w.heap.size, 7, none⟩ = some (.int .i64 o.tok) ∧ w'.cell? ⟨w.heap.size + 1, 0, none⟩ = some (.int .i64 p.cq) ∧ w'.cell? ⟨w.heap.size + 1, 1, none⟩ = some (.int .i64 p.cd) ∧ w'.cell? ⟨w.heap.size + 1, 2, none⟩ = some (.int .i64 p.cw) ∧ w'.cell? ⟨w.heap.size + 1, 3, none⟩ = some (.int .i64 p.cr) ∧ w'.cell? ⟨w.heap.size + 1, 4, none⟩ = some (.int .i64 p.cf) ∧ w'.cell? ⟨w.heap.size + 1, 5, none⟩ = some (.int .i64 p.flows) ∧ w'.cell? ⟨w.heap.size + 1, 6, none⟩ = some (.slice a' m' c') ∧ w'.cell? ⟨w.heap.size + 1, 7, none⟩ = some (.int .i64 p.tok))) (by kernel_rfl) ?_ (fun hHeld => ?_)
        · (try dsimp only)
          (first | exact HS.out _ (Ext.refl _).drew | exact HS.out _ Y1.out | exact HS.out _ Y2.out | exact HS.out _ Y3.out)
        refine take_w 0 (some 64) (v := ?_) (by kernel_rfl) (by kernel_rfl) (by kernel_rfl) (by kernel_rfl) (by kernel_rfl) (fun _ _ _ h => h) (by rfl) ?_ (by assumption) ?_
        rotate_left
        · (intro w hSw; (try dsimp only at hSw); go_simp; try with_reducible rfl)
        try simp only [Act.put, List.setIfInBounds_toArray, List.set_cons_zero, List.set_cons_succ]
        refine take_w 1 (some 65) (v := ?_) (by kernel_rfl) (by kernel_rfl) (by kernel_rfl) (by kernel_rfl) (by kernel_rfl) (fun _ _ _ h => h) (by rfl) ?_ (by assumption) ?_
        rotate_left
        · (intro w hSw; (try dsimp only at hSw); go_simp; try with_reducible rfl)
        try simp only [Act.put, List.setIfInBounds_toArray, List.set_cons_zero, List.set_cons_succ]
        refine take_w 2 (some 66) (v := ?_) (by kernel_rfl) (by kernel_rfl) (by kernel_rfl) (by kernel_rfl) (by kernel_rfl) (fun _ _ _ h => h) (by rfl) ?_ (by assumption) ?_
        rotate_left
        · (intro w hSw; (try dsimp only at hSw); go_simp; try with_reducible rfl)
        try simp only [Act.put, List.setIfInBounds_toArray, List.set_cons_zero, List.set_cons_succ]
        refine take_w 3 (some 67) (v := ?_) (by kernel_rfl) (by kernel_rfl) (by kernel_rfl) (by kernel_rfl) (by kernel_rfl) (fun _ _ _ h => h) (by rfl) ?_ (by assumption) ?_
        rotate_left
        · (intro w hSw; (try dsimp only at hSw); go_simp; try with_reducible rfl)
        try simp only [Act.put, List.setIfInBounds_toArray, List.set_cons_zero, List.set_cons_succ]
        refine take_w 4 (some 68) (v := ?_) (by kernel_rfl) (by kernel_rfl) (by kernel_rfl) (by kernel_rfl) (by kernel_rfl) (fun _ _ _ h => h) (by rfl) ?_ (by assumption) ?_
        rotate_left
        · (intro w hSw; (try dsimp only at hSw); go_simp; try with_reducible rfl)
        try simp only [Act.put, List.setIfInBounds_toArray, List.set_cons_zero, List.set_cons_succ]
        refine take_w 5 (some 69) (v := ?_) (by kernel_rfl) (by kernel_rfl) (by kernel_rfl) (by kernel_rfl) (by kernel_rfl) (fun _ _ _ h => h) (by rfl) ?_ (by assumption) ?_
        rotate_left
        · (intro w hSw; (try dsimp only at hSw); go_simp; try with_reducible rfl)
        try simp only [Act.put, List.setIfInBounds_toArray, List.set_cons_zero, List.set_cons_succ]
        refine take_w 6 (some 70) (v := ?_) (by kernel_rfl) (by kernel_rfl) (by kernel_rfl) (by kernel_rfl) (by kernel_rfl) (fun _ _ _ h => h) (by rfl) ?_ (by assumption) ?_
        rotate_left
        · (intro w hSw; (try dsimp only at hSw); go_simp; try with_reducible rfl)
        try simp only [Act.put, List.setIfInBounds_toArray, List.set_cons_zero, List.set_cons_succ]
        refine take_w 7 (some 71) (v := ?_) (by kernel_rfl) (by kernel_rfl) (by kernel_rfl) (by kernel_rfl) (by kernel_rfl) (fun _ _ _ h => h) (by rfl) ?_ (by assumption) ?_
        rotate_left
        · (intro w hSw; (try dsimp only at hSw); go_simp; try with_reducible rfl)
        try simp only [Act.put, List.setIfInBounds_toArray, List.set_cons_zero, List.set_cons_succ]
        refine take_w 8 (some 72) (v := ?_) (by kernel_rfl) (by kernel_rfl) (by kernel_rfl) (by kernel_rfl) (by kernel_rfl) (fun _ _ _ h => h) (by rfl) ?_ (by assumption) ?_
        rotate_left
        · (intro w hSw; (try dsimp only at hSw); go_simp; try with_reducible rfl)
        try simp only [Act.put, List.setIfInBounds_toArray, List.set_cons_zero, List.set_cons_succ]
        refine take_w 10 (some 74) (v := ?_) (by kernel_rfl) (by kernel_rfl) (by kernel_rfl) (by kernel_rfl) (by kernel_rfl) (fun _ _ _ h => h) (by rfl) ?_ (by assumption) ?_
        rotate_left
        · (intro w hSw; (try dsimp only at hSw); go_simp; try with_reducible rfl)
        try simp only [Act.put, List.setIfInBounds_toArray, List.set_cons_zero, List.set_cons_succ]
        refine take_w 11 (some 75) (v := ?_) (by kernel_rfl) (by kernel_rfl) (by kernel_rfl) (by kernel_rfl) (by kernel_rfl) (fun _ _ _ h => h) (by rfl) ?_ (by assumption) ?_
        rotate_left
        · (intro w hSw; (try dsimp only at hSw); go_simp; try with_reducible rfl)
        try simp only [Act.put, List.setIfInBounds_toArray, List.set_cons_zero, List.set_cons_succ]
        refine ready_one 9 (by kernel_rfl) (by kernel_rfl) (by rfl) (fun Kc hKc => ?_)
        go_simp
        refine (same_any _ _ _ _ _ (HXo.out.ext (Ext.refl w6).drew) (HXp.out.ext (Ext.refl w6).drew)).mono ?_
        rw [HDEC.out]
        rintro e y1 ⟨rfl, rfl⟩
        try go_wp2_with fail
        refine hKc.out _ _ ?_ (fun hHeld => ?_)
        · (try dsimp only)
          (first | exact HS.out _ (Ext.refl _).drew | exact HS.out _ Y1.out | exact HS.out _ Y2.out | exact HS.out _ Y3.out)
        clear hKc Kc
        try simp only [Act.put, List.setIfInBounds_toArray, List.set_cons_zero, List.set_cons_succ]
        refine ready_one 12 (by kernel_rfl) (by kernel_rfl) (by rfl) (fun Kc hKc => ?_)
        go_simp
        refine (sSame_any o p _ _ _ (HV.out.ext (HE6.out.trans (Ext.refl w6).drew)) (HU.out.ext (HE6.out.trans (Ext.refl w6).drew))).mono ?_
        rintro e y2 ⟨rfl, hy2⟩
        have Y2 := Lib.hid ((Ext.refl w6).drew.trans hy2)
        clear hy2
        try go_wp2_with fail
        refine hKc.out _ _ ?_ (fun hHeld => ?_)
        · (try dsimp only)
          (first | exact HS.out _ (Ext.refl _).drew | exact HS.out _ Y1.out | exact HS.out _ Y2.out | exact HS.out _ Y3.out)
        clear hKc Kc
        try simp only [Act.put, List.setIfInBounds_toArray, List.set_cons_zero, List.set_cons_succ]
        refine take_w 13 (some 77) (v := ?_) (by kernel_rfl) (by kernel_rfl) (by kernel_rfl) (by kernel_rfl) (by kernel_rfl) (fun _ _ _ h => h) (by rfl) ?_ (by assumption) ?_
        rotate_left
        · (intro w hSw; (try dsimp only at hSw); go_simp; try with_reducible rfl)
        try simp only [Act.put, List.setIfInBounds_toArray, List.set_cons_zero, List.set_cons_succ]
        refine take_w 14 (some 78) (v := ?_) (by kernel_rfl) (by kernel_rfl) (by kernel_rfl) (by kernel_rfl) (by kernel_rfl) (fun _ _ _ h => h) (by rfl) ?_ (by assumption) ?_
        rotate_left
        · (intro w hSw; (try dsimp only at hSw); go_simp; try with_reducible rfl)
        try simp only [Act.put, List.setIfInBounds_toArray, List.set_cons_zero, List.set_cons_succ]
        refine take_w 15 (some 79) (v := ?_) (by kernel_rfl) (by kernel_rfl) (by kernel_rfl) (by kernel_rfl) (by kernel_rfl) (fun _ _ _ h => h) (by rfl) ?_ (by assumption) ?_
        rotate_left
        · (intro w hSw; (try dsimp only at hSw); go_simp; try with_reducible rfl)
        try simp only [Act.put, List.setIfInBounds_toArray, List.set_cons_zero, List.set_cons_succ]
        refine ready_one 16 (by kernel_rfl) (by kernel_rfl) (by rfl) (fun Kc hKc => ?_)
        go_simp
        refine (awake11 _).mono ?_
        rintro e y3 ⟨rfl, hy3⟩
        have Y3 := Lib.hid (Y2.out.trans hy3)
        clear hy3
        try go_wp2_with fail
        refine hKc.out _ _ ?_ (fun hHeld => ?_)
        · (try dsimp only)
          (first | exact HS.out _ (Ext.refl _).drew | exact HS.out _ Y1.out | exact HS.out _ Y2.out | exact HS.out _ Y3.out)
        clear hKc Kc
        try simp only [Act.put, List.setIfInBounds_toArray, List.set_cons_zero, List.set_cons_succ]
        refine take_w 17 (some 81) (v := ?_) (by kernel_rfl) (by kernel_rfl) (by kernel_rfl) (by kernel_rfl) (by kernel_rfl) (fun _ _ _ h => h) (by rfl) ?_ (by assumption) ?_
        rotate_left
        · (intro w hSw; (try dsimp only at hSw); go_simp; try with_reducible rfl)
        try simp only [Act.put, List.setIfInBounds_toArray, List.set_cons_zero, List.set_cons_succ]
        refine take_w 18 (some 6) (v := ?_) (by kernel_rfl) (by kernel_rfl) (by kernel_rfl) (by kernel_rfl) (by kernel_rfl) (fun _ _ _ h => h) (by rfl) ?_ (by assumption) ?_
        rotate_left
        · (intro w hSw; (try dsimp only at hSw); go_simp; try with_reducible rfl)
        try simp only [Act.put, List.setIfInBounds_toArray, List.set_cons_zero, List.set_cons_succ]
        refine wpAnyH_done (by kernel_rfl) ?_ _
        go_wp2
        go_ret
        exact ⟨rfl, HE6.out.trans Y3.out⟩
end Go.Proofs.YtdienbcjfljjnaaDoor
