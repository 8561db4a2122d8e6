/- SnapTells answers true at every input. -/
import Derived.Test.YtdienbcjfljjnaaGreatDoorSnRb
import Derived.Test.YtdienbcjfljjnaaGreatDoorSnRp
import Derived.Test.YtdienbcjfljjnaaGreatDoorSnG
import Derived.Test.YtdienbcjfljjnaaGreatDoorSnM
open Go.RowKit Go.Shelf
namespace Go.Proofs.YtdienbcjfljjnaaGreatDoor
open Go Go.Proofs Fm

/-- What a state is read as, cell by cell. -/
theorem sparse_flat (v : Value) (xs : List UInt8) (w : World) (h : Bytes w v xs) :
    Calls Tryz.prog 14 #[v] w fun e w' => ∃ (ca cb cc cd ce cf : Int) (na : Option Addr) (nm nc : Nat) (tk n : Int) (s : Sn), e = .returned (.tuple #[.agg #[.int .i64 ca, .int .i64 cb, .int .i64 cc, .int .i64 cd, .int .i64 ce, .int .i64 cf, .slice na nm nc, .int .i64 tk], .int .i64 n]) ∧ Ext w w' ∧ SnV w' s (.agg #[.int .i64 ca, .int .i64 cb, .int .i64 cc, .int .i64 cd, .int .i64 ce, .int .i64 cf, .slice na nm nc, .int .i64 tk]) ∧
      (parseS xs = none → n = 30 ∧ s = snZ) ∧ (∀ s', parseS xs = some s' → n = 0 ∧ s = s') := by
  refine (sparse_any v xs w h).mono ?_
  rintro e w' (⟨h1, rfl, h2⟩ | ⟨s, h1, v, rfl, h2, h3⟩)
  · exact ⟨_, _, _, _, _, _, _, _, _, _, _, snZ, rfl, h2, snZ_v w' none, fun _ => ⟨rfl, rfl⟩, fun s' hs => (by rw [h1] at hs; cases hs)⟩
  · have hv := h3.v
    obtain ⟨a, m, c, rfl, -⟩ := h3
    exact ⟨_, _, _, _, _, _, _, _, _, _, _, s, rfl, h2, hv, fun hn => (by rw [h1] at hn; cases hn), fun s' hs => by rw [h1] at hs; cases hs; exact ⟨rfl, rfl⟩⟩
theorem rsparse_flat (v : Value) (xs : List UInt8) (w : World) (h : Bytes w v xs) :
    Calls Tryz.prog 15 #[v] w fun e w' => ∃ (ca cb cc cd ce cf : Int) (na : Option Addr) (nm nc : Nat) (tk : Int) (ok : Bool) (s : Sn), e = .returned (.tuple #[.agg #[.int .i64 ca, .int .i64 cb, .int .i64 cc, .int .i64 cd, .int .i64 ce, .int .i64 cf, .slice na nm nc, .int .i64 tk], .bool ok]) ∧ Ext w w' ∧ SnV w' s (.agg #[.int .i64 ca, .int .i64 cb, .int .i64 cc, .int .i64 cd, .int .i64 ce, .int .i64 cf, .slice na nm nc, .int .i64 tk]) ∧
      (parseS xs = none → ok = false ∧ s = snZ) ∧ (∀ s', parseS xs = some s' → ok = true ∧ s = s') := by
  refine (rsParse_any v xs w h).mono ?_
  rintro e w' (⟨h1, rfl, h2⟩ | ⟨s, h1, v, rfl, h2, h3⟩)
  · exact ⟨_, _, _, _, _, _, _, _, _, _, _, snZ, rfl, h2, snZ_v w' none, fun _ => ⟨rfl, rfl⟩, fun s' hs => (by rw [h1] at hs; cases hs)⟩
  · have hv := h3.v
    obtain ⟨a, m, c, rfl, -⟩ := h3
    exact ⟨_, _, _, _, _, _, _, _, _, _, _, s, rfl, h2, hv, fun hn => (by rw [h1] at hn; cases hn), fun s' hs => by rw [h1] at hs; cases hs; exact ⟨rfl, rfl⟩⟩

set_option maxRecDepth 100000 in
set_option maxHeartbeats 16000000 in
theorem snapTells_any (w : World) (o : Sn) (v : Value) (hv : SnV w o v) (p : Sn) (u : Value) (hu : SnV w p u) (vb : Value) (be : List UInt8) (hb : Bytes w vb be) :
    Calls Tryz.prog 3 #[v, u, vb] w fun e w' => e = .returned (.bool true) ∧ Ext w w' := by
  have HV := Lib.hid hv
  have HU := Lib.hid hu
  have HB := Lib.hid hb
  have hlb := hb.length_le
  obtain ⟨ab, cb, rfl, -⟩ := id hb
  obtain ⟨a, m, c, rfl, -⟩ := hv
  obtain ⟨a', m', c', rfl, -⟩ := hu
  clear hb
  have h1 := (BoxL.new w [.int .i64 o.cq, .int .i64 o.cd, .int .i64 o.cw, .int .i64 o.cr, .int .i64 o.cf, .int .i64 o.flows, .slice a m c, .int .i64 o.tok] 26).ext ((Ext.refl _).alloc (.cells #[.int .i64 p.cq, .int .i64 p.cd, .int .i64 p.cw, .int .i64 p.cr, .int .i64 p.cf, .int .i64 p.flows, .slice a' m' c', .int .i64 p.tok] 26))
  have h2 := BoxL.new (w.alloc (.cells #[.int .i64 o.cq, .int .i64 o.cd, .int .i64 o.cw, .int .i64 o.cr, .int .i64 o.cf, .int .i64 o.flows, .slice a m c, .int .i64 o.tok] 26)) [.int .i64 p.cq, .int .i64 p.cd, .int .i64 p.cw, .int .i64 p.cr, .int .i64 p.cf, .int .i64 p.flows, .slice a' m' c', .int .i64 p.tok] 26
  have hz : (w.alloc (.cells #[.int .i64 o.cq, .int .i64 o.cd, .int .i64 o.cw, .int .i64 o.cr, .int .i64 o.cf, .int .i64 o.flows, .slice a m c, .int .i64 o.tok] 26)).heap.size = w.heap.size + 1 := by simp
  rw [hz] at h2
  have hE := ((Ext.refl w).alloc (.cells #[.int .i64 o.cq, .int .i64 o.cd, .int .i64 o.cw, .int .i64 o.cr, .int .i64 o.cf, .int .i64 o.flows, .slice a m c, .int .i64 o.tok] 26)).alloc (.cells #[.int .i64 p.cq, .int .i64 p.cd, .int .i64 p.cw, .int .i64 p.cr, .int .i64 p.cf, .int .i64 p.flows, .slice a' m' c', .int .i64 p.tok] 26)
  clear hz
  go_enter Tryz.func3, Tryz.ntmps3
  go_upto_region 1 with (fail)
  have H1 := Lib.hid h1
  have H2 := Lib.hid h2
  have HE1 := Lib.hid hE
  clear h1 h2 hE
  generalize (w.alloc _).alloc _ = W1 at *
  have ⟨p0, p1, p2, p3, p4, p5, p6, p7⟩ := H1.out.n8
  go_wp2_with fail
  refine (few11_any o W1 _ (HV.out.ext HE1.out)).mono ?_
  rintro e w2 ⟨rfl, hE2⟩
  have HE2 := Lib.hid (HE1.out.trans hE2)
  have H22 := Lib.hid (H2.out.ext hE2)
  have H12 := Lib.hid (H1.out.ext hE2)
  clear hE2 H1 H2 HE1 p0 p1 p2 p3 p4 p5 p6 p7
  cases hf : fewSn o with
  | false =>
    clear hf
    go_wp2_with fail
    refine (awake11 _).mono ?_
    rintro e wz ⟨rfl, hEz⟩
    have HEz := Lib.hid (HE2.out.trans hEz)
    clear hEz
    go_wp2
    go_ret
    exact ⟨rfl, HEz.out⟩
  | true =>
  have HPD : Hid (∀ n, n ∈ o.nodes → partsT n.val ≤ 1000000 ∧ deepT n.val ≤ 1000000) := Lib.hid (fun n hn => by
    unfold fewSn at hf
    simp only [Bool.and_eq_true, decide_eq_true_eq] at hf
    have hl := List.all_eq_true.1 hf.2 n hn
    unfold lightNd at hl
    simp only [Bool.and_eq_true, decide_eq_true_eq] at hl
    have h4 := hl.2.2.2
    unfold lightT at h4
    simp only [decide_eq_true_eq] at h4
    obtain ⟨k1, k2⟩ := fewT_light 20 n.val h4
    omega)
  clear hf
  have ⟨p0, p1, p2, p3, p4, p5, p6, p7⟩ := H22.out.n8
  go_wp2_with fail
  refine (few11_any p w2 _ (HU.out.ext HE2.out)).mono ?_
  rintro e w3 ⟨rfl, hE3⟩
  have HE3 := Lib.hid (HE2.out.trans hE3)
  have H13 := Lib.hid (H12.out.ext hE3)
  have H23 := Lib.hid (H22.out.ext hE3)
  clear hE3 H12 H22 HE2 p0 p1 p2 p3 p4 p5 p6 p7
  cases hf : fewSn p with
  | false =>
    clear hf
    go_wp2_with fail
    refine (awake11 _).mono ?_
    rintro e wz ⟨rfl, hEz⟩
    have HEz := Lib.hid (HE3.out.trans hEz)
    clear hEz
    go_wp2
    go_ret
    exact ⟨rfl, HEz.out⟩
  | true =>
  clear hf
  by_cases hB4 : 3000 < be.length
  case pos =>
    have hB4' : (3000 : Int) < (be.length : Int) := by omega
    go_wp2_with fail
    refine (awake11 _).mono ?_
    rintro e wz ⟨rfl, hEz⟩
    have HEz := Lib.hid (HE3.out.trans hEz)
    clear hEz
    go_wp2
    go_ret
    exact ⟨rfl, HEz.out⟩
  have hB4' : ¬ (3000 : Int) < (be.length : Int) := by omega
  have ⟨p0, p1, p2, p3, p4, p5, p6, p7⟩ := H13.out.n8
  go_wp2_with fail
  clear hB4'
  refine (rsRight_any o HPD.out w3 _ (HV.out.ext HE3.out)).mono ?_
  rintro e w4 ⟨rfl, hE4⟩
  have HE4 := Lib.hid (HE3.out.trans hE4)
  have H14 := Lib.hid (H13.out.ext hE4)
  have H24 := Lib.hid (H23.out.ext hE4)
  clear hE4 H13 H23 HE3 p0 p1 p2 p3 p4 p5 p6 p7
  have ⟨p0, p1, p2, p3, p4, p5, p6, p7⟩ := H14.out.n8
  go_wp2_with fail
  refine (sbytes_any o w4 _ (HV.out.ext HE4.out)).mono ?_
  rintro e w5 ⟨ax1, mx1, cx1, nx1, rfl, hE5, hno1, hyes1⟩
  have HE5 := Lib.hid (HE4.out.trans hE5)
  have H15 := Lib.hid (H14.out.ext hE5)
  have H25 := Lib.hid (H24.out.ext hE5)
  clear hE5 H14 H24 HE4 p0 p1 p2 p3 p4 p5 p6 p7
  have HS : Hid (∀ W2, Ext w5 W2 → W2.cell? ⟨w.heap.size, 0, none⟩ = some (.int .i64 o.cq) ∧ W2.cell? ⟨w.heap.size, 1, none⟩ = some (.int .i64 o.cd) ∧ W2.cell? ⟨w.heap.size, 2, none⟩ = some (.int .i64 o.cw) ∧ W2.cell? ⟨w.heap.size, 3, none⟩ = some (.int .i64 o.cr) ∧ W2.cell? ⟨w.heap.size, 4, none⟩ = some (.int .i64 o.cf) ∧ W2.cell? ⟨w.heap.size, 5, none⟩ = some (.int .i64 o.flows) ∧ W2.cell? ⟨w.heap.size, 6, none⟩ = some (.slice a m c) ∧ W2.cell? ⟨w.heap.size, 7, none⟩ = some (.int .i64 o.tok) ∧ W2.cell? ⟨w.heap.size + 1, 0, none⟩ = some (.int .i64 p.cq) ∧ W2.cell? ⟨w.heap.size + 1, 1, none⟩ = some (.int .i64 p.cd) ∧ W2.cell? ⟨w.heap.size + 1, 2, none⟩ = some (.int .i64 p.cw) ∧ W2.cell? ⟨w.heap.size + 1, 3, none⟩ = some (.int .i64 p.cr) ∧ W2.cell? ⟨w.heap.size + 1, 4, none⟩ = some (.int .i64 p.cf) ∧ W2.cell? ⟨w.heap.size + 1, 5, none⟩ = some (.int .i64 p.flows) ∧ W2.cell? ⟨w.heap.size + 1, 6, none⟩ = some (.slice a' m' c') ∧ W2.cell? ⟨w.heap.size + 1, 7, none⟩ = some (.int .i64 p.tok)) := Lib.hid (fun W2 h => by
    obtain ⟨x0, x1, x2, x3, x4, x5, x6, x7⟩ := (H15.out.ext h).n8
    obtain ⟨z0, z1, z2, z3, z4, z5, z6, z7⟩ := (H25.out.ext h).n8
    exact ⟨x0, x1, x2, x3, x4, x5, x6, x7, z0, z1, z2, z3, z4, z5, z6, z7⟩)
  cases hr : snB o with
  | false =>
    have HRR := Lib.hid hr
    obtain ⟨rfl, rfl⟩ := hno1 hr
    clear hno1 hyes1 hr
    go_upto_region 5 with (fail)
    refine wp_region_held_drew (S := (fun w' => w'.cell? ⟨w.heap.size, 0, none⟩ = some (.int .i64 o.cq) ∧ w'.cell? ⟨w.heap.size, 1, none⟩ = some (.int .i64 o.cd) ∧ w'.cell? ⟨w.heap.size, 2, none⟩ = some (.int .i64 o.cw) ∧ w'.cell? ⟨w.heap.size, 3, none⟩ = some (.int .i64 o.cr) ∧ w'.cell? ⟨w.heap.size, 4, none⟩ = some (.int .i64 o.cf) ∧ w'.cell? ⟨w.heap.size, 5, none⟩ = some (.int .i64 o.flows) ∧ w'.cell? ⟨w.heap.size, 6, none⟩ = some (.slice a m c) ∧ w'.cell? ⟨w.heap.size, 7, none⟩ = some (.int .i64 o.tok) ∧ w'.cell? ⟨w.heap.size + 1, 0, none⟩ = some (.int .i64 p.cq) ∧ w'.cell? ⟨w.heap.size + 1, 1, none⟩ = some (.int .i64 p.cd) ∧ w'.cell? ⟨w.heap.size + 1, 2, none⟩ = some (.int .i64 p.cw) ∧ w'.cell? ⟨w.heap.size + 1, 3, none⟩ = some (.int .i64 p.cr) ∧ w'.cell? ⟨w.heap.size + 1, 4, none⟩ = some (.int .i64 p.cf) ∧ w'.cell? ⟨w.heap.size + 1, 5, none⟩ = some (.int .i64 p.flows) ∧ w'.cell? ⟨w.heap.size + 1, 6, none⟩ = some (.slice a' m' c') ∧ w'.cell? ⟨w.heap.size + 1, 7, none⟩ = some (.int .i64 p.tok))) (by kernel_rfl) ?_ (fun hHeld => ?_)
    · (try dsimp only)
      (first | exact HS.out _ (Ext.refl _).drew | exact HS.out _ Y1.out | exact HS.out _ Y2.out | exact HS.out _ Y3.out)
    refine take_w 0 (some 36) (v := ?_) (by kernel_rfl) (by kernel_rfl) (by kernel_rfl) (by kernel_rfl) (by kernel_rfl) (fun _ _ _ h => h) (by rfl) ?_ (by assumption) ?_
    rotate_left
    · (intro w hSw; (try dsimp only at hSw); go_simp; try with_reducible rfl)
    try simp only [Act.put, List.setIfInBounds_toArray, List.set_cons_zero, List.set_cons_succ]
    refine take_w 2 (some 38) (v := ?_) (by kernel_rfl) (by kernel_rfl) (by kernel_rfl) (by kernel_rfl) (by kernel_rfl) (fun _ _ _ h => h) (by rfl) ?_ (by assumption) ?_
    rotate_left
    · (intro w hSw; (try dsimp only at hSw); go_simp; try with_reducible rfl)
    try simp only [Act.put, List.setIfInBounds_toArray, List.set_cons_zero, List.set_cons_succ]
    refine ready_one 1 (by kernel_rfl) (by kernel_rfl) (by rfl) (fun Kc hKc => ?_)
    go_simp
    refine (sright_any o _ _ (HV.out.ext (HE5.out.trans (Ext.refl w5).drew))).mono ?_
    rw [HRR.out]
    rintro e y1 ⟨rfl, hy1⟩
    have Y1 := Lib.hid ((Ext.refl w5).drew.trans hy1)
    clear hy1
    try go_wp2_with fail
    refine hKc.out _ _ ?_ (fun hHeld => ?_)
    · (try dsimp only)
      (first | exact HS.out _ (Ext.refl _).drew | exact HS.out _ Y1.out | exact HS.out _ Y2.out | exact HS.out _ Y3.out)
    clear hKc Kc
    try simp only [Act.put, List.setIfInBounds_toArray, List.set_cons_zero, List.set_cons_succ]
    refine take_w 3 (some 39) (v := ?_) (by kernel_rfl) (by kernel_rfl) (by kernel_rfl) (by kernel_rfl) (by kernel_rfl) (fun _ _ _ h => h) (by rfl) ?_ (by assumption) ?_
    rotate_left
    · (intro w hSw; (try dsimp only at hSw); go_simp; try with_reducible rfl)
    try simp only [Act.put, List.setIfInBounds_toArray, List.set_cons_zero, List.set_cons_succ]
    refine take_w 4 (some 40) (v := ?_) (by kernel_rfl) (by kernel_rfl) (by kernel_rfl) (by kernel_rfl) (by kernel_rfl) (fun _ _ _ h => h) (by rfl) ?_ (by assumption) ?_
    rotate_left
    · (intro w hSw; (try dsimp only at hSw); go_simp; try with_reducible rfl)
    try simp only [Act.put, List.setIfInBounds_toArray, List.set_cons_zero, List.set_cons_succ]
    refine take_w 5 (some 41) (v := ?_) (by kernel_rfl) (by kernel_rfl) (by kernel_rfl) (by kernel_rfl) (by kernel_rfl) (fun _ _ _ h => h) (by rfl) ?_ (by assumption) ?_
    rotate_left
    · (intro w hSw; (try dsimp only at hSw); go_simp; try with_reducible rfl)
    try simp only [Act.put, List.setIfInBounds_toArray, List.set_cons_zero, List.set_cons_succ]
    refine take_w 6 (some 42) (v := ?_) (by kernel_rfl) (by kernel_rfl) (by kernel_rfl) (by kernel_rfl) (by kernel_rfl) (fun _ _ _ h => h) (by rfl) ?_ (by assumption) ?_
    rotate_left
    · (intro w hSw; (try dsimp only at hSw); go_simp; try with_reducible rfl)
    try simp only [Act.put, List.setIfInBounds_toArray, List.set_cons_zero, List.set_cons_succ]
    refine take_w 7 (some 43) (v := ?_) (by kernel_rfl) (by kernel_rfl) (by kernel_rfl) (by kernel_rfl) (by kernel_rfl) (fun _ _ _ h => h) (by rfl) ?_ (by assumption) ?_
    rotate_left
    · (intro w hSw; (try dsimp only at hSw); go_simp; try with_reducible rfl)
    try simp only [Act.put, List.setIfInBounds_toArray, List.set_cons_zero, List.set_cons_succ]
    refine take_w 8 (some 44) (v := ?_) (by kernel_rfl) (by kernel_rfl) (by kernel_rfl) (by kernel_rfl) (by kernel_rfl) (fun _ _ _ h => h) (by rfl) ?_ (by assumption) ?_
    rotate_left
    · (intro w hSw; (try dsimp only at hSw); go_simp; try with_reducible rfl)
    try simp only [Act.put, List.setIfInBounds_toArray, List.set_cons_zero, List.set_cons_succ]
    refine take_w 9 (some 45) (v := ?_) (by kernel_rfl) (by kernel_rfl) (by kernel_rfl) (by kernel_rfl) (by kernel_rfl) (fun _ _ _ h => h) (by rfl) ?_ (by assumption) ?_
    rotate_left
    · (intro w hSw; (try dsimp only at hSw); go_simp; try with_reducible rfl)
    try simp only [Act.put, List.setIfInBounds_toArray, List.set_cons_zero, List.set_cons_succ]
    refine take_w 10 (some 46) (v := ?_) (by kernel_rfl) (by kernel_rfl) (by kernel_rfl) (by kernel_rfl) (by kernel_rfl) (fun _ _ _ h => h) (by rfl) ?_ (by assumption) ?_
    rotate_left
    · (intro w hSw; (try dsimp only at hSw); go_simp; try with_reducible rfl)
    try simp only [Act.put, List.setIfInBounds_toArray, List.set_cons_zero, List.set_cons_succ]
    refine take_w 11 (some 47) (v := ?_) (by kernel_rfl) (by kernel_rfl) (by kernel_rfl) (by kernel_rfl) (by kernel_rfl) (fun _ _ _ h => h) (by rfl) ?_ (by assumption) ?_
    rotate_left
    · (intro w hSw; (try dsimp only at hSw); go_simp; try with_reducible rfl)
    try simp only [Act.put, List.setIfInBounds_toArray, List.set_cons_zero, List.set_cons_succ]
    refine take_w 12 (some 48) (v := ?_) (by kernel_rfl) (by kernel_rfl) (by kernel_rfl) (by kernel_rfl) (by kernel_rfl) (fun _ _ _ h => h) (by rfl) ?_ (by assumption) ?_
    rotate_left
    · (intro w hSw; (try dsimp only at hSw); go_simp; try with_reducible rfl)
    try simp only [Act.put, List.setIfInBounds_toArray, List.set_cons_zero, List.set_cons_succ]
    refine take_w 13 (some 49) (v := ?_) (by kernel_rfl) (by kernel_rfl) (by kernel_rfl) (by kernel_rfl) (by kernel_rfl) (fun _ _ _ h => h) (by rfl) ?_ (by assumption) ?_
    rotate_left
    · (intro w hSw; (try dsimp only at hSw); go_simp; try with_reducible rfl)
    try simp only [Act.put, List.setIfInBounds_toArray, List.set_cons_zero, List.set_cons_succ]
    refine take_w 14 (some 50) (v := ?_) (by kernel_rfl) (by kernel_rfl) (by kernel_rfl) (by kernel_rfl) (by kernel_rfl) (fun _ _ _ h => h) (by rfl) ?_ (by assumption) ?_
    rotate_left
    · (intro w hSw; (try dsimp only at hSw); go_simp; try with_reducible rfl)
    try simp only [Act.put, List.setIfInBounds_toArray, List.set_cons_zero, List.set_cons_succ]
    refine take_w 15 (some 51) (v := ?_) (by kernel_rfl) (by kernel_rfl) (by kernel_rfl) (by kernel_rfl) (by kernel_rfl) (fun _ _ _ h => h) (by rfl) ?_ (by assumption) ?_
    rotate_left
    · (intro w hSw; (try dsimp only at hSw); go_simp; try with_reducible rfl)
    try simp only [Act.put, List.setIfInBounds_toArray, List.set_cons_zero, List.set_cons_succ]
    refine take_w 16 (some 52) (v := ?_) (by kernel_rfl) (by kernel_rfl) (by kernel_rfl) (by kernel_rfl) (by kernel_rfl) (fun _ _ _ h => h) (by rfl) ?_ (by assumption) ?_
    rotate_left
    · (intro w hSw; (try dsimp only at hSw); go_simp; try with_reducible rfl)
    try simp only [Act.put, List.setIfInBounds_toArray, List.set_cons_zero, List.set_cons_succ]
    refine take_w 17 (some 53) (v := ?_) (by kernel_rfl) (by kernel_rfl) (by kernel_rfl) (by kernel_rfl) (by kernel_rfl) (fun _ _ _ h => h) (by rfl) ?_ (by assumption) ?_
    rotate_left
    · (intro w hSw; (try dsimp only at hSw); go_simp; try with_reducible rfl)
    try simp only [Act.put, List.setIfInBounds_toArray, List.set_cons_zero, List.set_cons_succ]
    refine take_w 18 (some 54) (v := ?_) (by kernel_rfl) (by kernel_rfl) (by kernel_rfl) (by kernel_rfl) (by kernel_rfl) (fun _ _ _ h => h) (by rfl) ?_ (by assumption) ?_
    rotate_left
    · (intro w hSw; (try dsimp only at hSw); go_simp; try with_reducible rfl)
    try simp only [Act.put, List.setIfInBounds_toArray, List.set_cons_zero, List.set_cons_succ]
    refine take_w 19 (some 55) (v := ?_) (by kernel_rfl) (by kernel_rfl) (by kernel_rfl) (by kernel_rfl) (by kernel_rfl) (fun _ _ _ h => h) (by rfl) ?_ (by assumption) ?_
    rotate_left
    · (intro w hSw; (try dsimp only at hSw); go_simp; try with_reducible rfl)
    try simp only [Act.put, List.setIfInBounds_toArray, List.set_cons_zero, List.set_cons_succ]
    refine take_w 20 (some 56) (v := ?_) (by kernel_rfl) (by kernel_rfl) (by kernel_rfl) (by kernel_rfl) (by kernel_rfl) (fun _ _ _ h => h) (by rfl) ?_ (by assumption) ?_
    rotate_left
    · (intro w hSw; (try dsimp only at hSw); go_simp; try with_reducible rfl)
    try simp only [Act.put, List.setIfInBounds_toArray, List.set_cons_zero, List.set_cons_succ]
    refine take_w 21 (some 57) (v := ?_) (by kernel_rfl) (by kernel_rfl) (by kernel_rfl) (by kernel_rfl) (by kernel_rfl) (fun _ _ _ h => h) (by rfl) ?_ (by assumption) ?_
    rotate_left
    · (intro w hSw; (try dsimp only at hSw); go_simp; try with_reducible rfl)
    try simp only [Act.put, List.setIfInBounds_toArray, List.set_cons_zero, List.set_cons_succ]
    refine take_w 22 (some 58) (v := ?_) (by kernel_rfl) (by kernel_rfl) (by kernel_rfl) (by kernel_rfl) (by kernel_rfl) (fun _ _ _ h => h) (by rfl) ?_ (by assumption) ?_
    rotate_left
    · (intro w hSw; (try dsimp only at hSw); go_simp; try with_reducible rfl)
    try simp only [Act.put, List.setIfInBounds_toArray, List.set_cons_zero, List.set_cons_succ]
    refine take_w 23 (some 59) (v := ?_) (by kernel_rfl) (by kernel_rfl) (by kernel_rfl) (by kernel_rfl) (by kernel_rfl) (fun _ _ _ h => h) (by rfl) ?_ (by assumption) ?_
    rotate_left
    · (intro w hSw; (try dsimp only at hSw); go_simp; try with_reducible rfl)
    try simp only [Act.put, List.setIfInBounds_toArray, List.set_cons_zero, List.set_cons_succ]
    refine take_w 24 (some 60) (v := ?_) (by kernel_rfl) (by kernel_rfl) (by kernel_rfl) (by kernel_rfl) (by kernel_rfl) (fun _ _ _ h => h) (by rfl) ?_ (by assumption) ?_
    rotate_left
    · (intro w hSw; (try dsimp only at hSw); go_simp; try with_reducible rfl)
    try simp only [Act.put, List.setIfInBounds_toArray, List.set_cons_zero, List.set_cons_succ]
    refine take_w 25 (some 61) (v := ?_) (by kernel_rfl) (by kernel_rfl) (by kernel_rfl) (by kernel_rfl) (by kernel_rfl) (fun _ _ _ h => h) (by rfl) ?_ (by assumption) ?_
    rotate_left
    · (intro w hSw; (try dsimp only at hSw); go_simp; try with_reducible rfl)
    try simp only [Act.put, List.setIfInBounds_toArray, List.set_cons_zero, List.set_cons_succ]
    refine take_w 27 (some 63) (v := ?_) (by kernel_rfl) (by kernel_rfl) (by kernel_rfl) (by kernel_rfl) (by kernel_rfl) (fun _ _ _ h => h) (by rfl) ?_ (by assumption) ?_
    rotate_left
    · (intro w hSw; (try dsimp only at hSw); go_simp; try with_reducible rfl)
    try simp only [Act.put, List.setIfInBounds_toArray, List.set_cons_zero, List.set_cons_succ]
    refine take_w 28 (some 64) (v := ?_) (by kernel_rfl) (by kernel_rfl) (by kernel_rfl) (by kernel_rfl) (by kernel_rfl) (fun _ _ _ h => h) (by rfl) ?_ (by assumption) ?_
    rotate_left
    · (intro w hSw; (try dsimp only at hSw); go_simp; try with_reducible rfl)
    try simp only [Act.put, List.setIfInBounds_toArray, List.set_cons_zero, List.set_cons_succ]
    refine ready_one 26 (by kernel_rfl) (by kernel_rfl) (by rfl) (fun Kc hKc => ?_)
    go_simp
    refine (sSame_any o p _ _ _ (HV.out.ext (HE5.out.trans Y1.out)) (HU.out.ext (HE5.out.trans Y1.out))).mono ?_
    rintro e y2 ⟨rfl, hy2⟩
    have Y2 := Lib.hid (Y1.out.trans hy2)
    clear hy2
    try go_wp2_with fail
    refine hKc.out _ _ ?_ (fun hHeld => ?_)
    · (try dsimp only)
      (first | exact HS.out _ (Ext.refl _).drew | exact HS.out _ Y1.out | exact HS.out _ Y2.out | exact HS.out _ Y3.out)
    clear hKc Kc
    try simp only [Act.put, List.setIfInBounds_toArray, List.set_cons_zero, List.set_cons_succ]
    refine ready_one 29 (by kernel_rfl) (by kernel_rfl) (by rfl) (fun Kc hKc => ?_)
    go_simp
    refine (rsSame_any o p _ _ _ (HV.out.ext (HE5.out.trans Y2.out)) (HU.out.ext (HE5.out.trans Y2.out))).mono ?_
    rintro e y3 ⟨rfl, hy3⟩
    have Y3 := Lib.hid (Y2.out.trans hy3)
    clear hy3
    generalize eqSn o p = qe
    try go_wp2_with fail
    refine hKc.out _ _ ?_ (fun hHeld => ?_)
    · (try dsimp only)
      (first | exact HS.out _ (Ext.refl _).drew | exact HS.out _ Y1.out | exact HS.out _ Y2.out | exact HS.out _ Y3.out)
    clear hKc Kc
    try simp only [Act.put, List.setIfInBounds_toArray, List.set_cons_zero, List.set_cons_succ]
    refine take_w 30 (some 66) (v := ?_) (by kernel_rfl) (by kernel_rfl) (by kernel_rfl) (by kernel_rfl) (by kernel_rfl) (fun _ _ _ h => h) (by rfl) ?_ (by assumption) ?_
    rotate_left
    · (intro w hSw; (try dsimp only at hSw); go_simp; try with_reducible rfl)
    try simp only [Act.put, List.setIfInBounds_toArray, List.set_cons_zero, List.set_cons_succ]
    refine take_w 31 (some 67) (v := ?_) (by kernel_rfl) (by kernel_rfl) (by kernel_rfl) (by kernel_rfl) (by kernel_rfl) (fun _ _ _ h => h) (by rfl) ?_ (by assumption) ?_
    rotate_left
    · (intro w hSw; (try dsimp only at hSw); go_simp; try with_reducible rfl)
    try simp only [Act.put, List.setIfInBounds_toArray, List.set_cons_zero, List.set_cons_succ]
    refine wpAnyH_done (by kernel_rfl) ?_ _
    go_wp2_with fail
    have HER := Lib.hid (HE5.out.trans Y3.out)
    clear H15 H25 HS HE5 HRR Y1 Y2 Y3
    obtain ⟨wR, hwR⟩ : ∃ wR, wR = y3 := ⟨_, rfl⟩
    subst hwR
    refine (sparse_flat _ be wR (HB.out.ext HER.out)).mono ?_
    rintro e w8 ⟨ca1, cb1, cc1, cd1, ce1, cf1, na1, nm1, nc1, tk1, f4, x, rfl, hE8, hV8, hno, hyes⟩
    have HA8 := Lib.hid ((Ext.refl w8).alloc (.cells #[.int .i64 ca1, .int .i64 cb1, .int .i64 cc1, .int .i64 cd1, .int .i64 ce1, .int .i64 cf1, .slice na1 nm1 nc1, .int .i64 tk1] 26))
    have HN8 : Hid (BoxL (w8.alloc (.cells #[.int .i64 ca1, .int .i64 cb1, .int .i64 cc1, .int .i64 cd1, .int .i64 ce1, .int .i64 cf1, .slice na1 nm1 nc1, .int .i64 tk1] 26)) w8.heap.size [.int .i64 ca1, .int .i64 cb1, .int .i64 cc1, .int .i64 cd1, .int .i64 ce1, .int .i64 cf1, .slice na1 nm1 nc1, .int .i64 tk1]) := Lib.hid (BoxL.new w8 [.int .i64 ca1, .int .i64 cb1, .int .i64 cc1, .int .i64 cd1, .int .i64 ce1, .int .i64 cf1, .slice na1 nm1 nc1, .int .i64 tk1] _)
    have HE8 := Lib.hid ((HER.out.trans hE8).trans HA8.out)
    have HV8 := Lib.hid (hV8.ext HA8.out)
    have hz8 : (w8.alloc (.cells #[.int .i64 ca1, .int .i64 cb1, .int .i64 cc1, .int .i64 cd1, .int .i64 ce1, .int .i64 cf1, .slice na1 nm1 nc1, .int .i64 tk1] 26)).heap.size = w8.heap.size + 1 := by simp
    clear hE8 hV8 HER
    go_wp2_with fail
    generalize w8.alloc (.cells #[.int .i64 ca1, .int .i64 cb1, .int .i64 cc1, .int .i64 cd1, .int .i64 ce1, .int .i64 cf1, .slice na1 nm1 nc1, .int .i64 tk1] 26) = W8 at *
    refine (rsparse_flat _ be W8 (HB.out.ext HE8.out)).mono ?_
    rintro e w9 ⟨ca2, cb2, cc2, cd2, ce2, cf2, na2, nm2, nc2, tk2, ok, y, rfl, hE9, hV9, hno2, hyes2⟩
    have HA9 := Lib.hid ((Ext.refl w9).alloc (.cells #[.int .i64 ca2, .int .i64 cb2, .int .i64 cc2, .int .i64 cd2, .int .i64 ce2, .int .i64 cf2, .slice na2 nm2 nc2, .int .i64 tk2] 26))
    have HN9 : Hid (BoxL (w9.alloc (.cells #[.int .i64 ca2, .int .i64 cb2, .int .i64 cc2, .int .i64 cd2, .int .i64 ce2, .int .i64 cf2, .slice na2 nm2 nc2, .int .i64 tk2] 26)) w9.heap.size [.int .i64 ca2, .int .i64 cb2, .int .i64 cc2, .int .i64 cd2, .int .i64 ce2, .int .i64 cf2, .slice na2 nm2 nc2, .int .i64 tk2]) := Lib.hid (BoxL.new w9 [.int .i64 ca2, .int .i64 cb2, .int .i64 cc2, .int .i64 cd2, .int .i64 ce2, .int .i64 cf2, .slice na2 nm2 nc2, .int .i64 tk2] _)
    have HE9 := Lib.hid ((HE8.out.trans hE9).trans HA9.out)
    have HV89 := Lib.hid ((HV8.out.ext hE9).ext HA9.out)
    have HN89 := Lib.hid ((HN8.out.ext hE9).ext HA9.out)
    have HV9 := Lib.hid (hV9.ext HA9.out)
    have hlt : w8.heap.size < w9.heap.size := by have := hE9.size; omega
    clear hE9 hV9 HE8 HV8 HN8 HA8
    go_upto_region 13 with (fail)
    generalize w9.alloc (.cells #[.int .i64 ca2, .int .i64 cb2, .int .i64 cc2, .int .i64 cd2, .int .i64 ce2, .int .i64 cf2, .slice na2 nm2 nc2, .int .i64 tk2] 26) = W9 at *
    have ⟨p0, p1, p2, p3, p4, p5, p6, p7⟩ := HN89.out.n8
    have ⟨q0, q1, q2, q3, q4, q5, q6, q7⟩ := HN9.out.n8
    have hxy : x = y ∧ ((ok = true ∧ f4 = 0) ∨ (ok = false ∧ f4 = 30)) := by
      cases hp : parseS be with
      | none =>
        obtain ⟨r1, r2⟩ := hno hp
        obtain ⟨r3, r4⟩ := hno2 hp
        exact ⟨by rw [r2, r4], .inr ⟨r3, r1⟩⟩
      | some z =>
        obtain ⟨r1, r2⟩ := hyes z hp
        obtain ⟨r3, r4⟩ := hyes2 z hp
        exact ⟨by rw [r2, r4], .inl ⟨r3, r1⟩⟩
    obtain ⟨rfl, hok⟩ := hxy
    clear hno hyes hno2 hyes2 HA9
    rcases hok with ⟨rfl, rfl⟩ | ⟨rfl, rfl⟩
    all_goals
      go_wp2_with fail
      refine (rsSame_any x x W9 _ _ HV89.out HV9.out).mono ?_
      rw [eqSn_refl]
      rintro e wA ⟨rfl, hEA⟩
      have HEA := Lib.hid (HE9.out.trans hEA)
      clear hEA HV89 HV9 HN89 HN9 HE9 p0 p1 p2 p3 p4 p5 p6 p7 q0 q1 q2 q3 q4 q5 q6 q7
      go_wp2_with fail
      refine (awake11 _).mono ?_
      rintro e wz ⟨rfl, hEz⟩
      have HEz := Lib.hid (HEA.out.trans hEz)
      clear hEz
      go_wp2
      go_ret
      exact ⟨rfl, HEz.out⟩
  | true =>
    have HRR := Lib.hid hr
    obtain ⟨rfl, ho1⟩ := hyes1 hr
    have HX1 := Lib.hid ho1.bytes
    clear hno1 hyes1 hr ho1
    go_upto_region 5 with (fail)
    refine wp_region_held_drew (S := (fun w' => w'.cell? ⟨w.heap.size, 0, none⟩ = some (.int .i64 o.cq) ∧ w'.cell? ⟨w.heap.size, 1, none⟩ = some (.int .i64 o.cd) ∧ w'.cell? ⟨w.heap.size, 2, none⟩ = some (.int .i64 o.cw) ∧ w'.cell? ⟨w.heap.size, 3, none⟩ = some (.int .i64 o.cr) ∧ w'.cell? ⟨w.heap.size, 4, none⟩ = some (.int .i64 o.cf) ∧ w'.cell? ⟨w.heap.size, 5, none⟩ = some (.int .i64 o.flows) ∧ w'.cell? ⟨w.heap.size, 6, none⟩ = some (.slice a m c) ∧ w'.cell? ⟨w.heap.size, 7, none⟩ = some (.int .i64 o.tok) ∧ w'.cell? ⟨w.heap.size + 1, 0, none⟩ = some (.int .i64 p.cq) ∧ w'.cell? ⟨w.heap.size + 1, 1, none⟩ = some (.int .i64 p.cd) ∧ w'.cell? ⟨w.heap.size + 1, 2, none⟩ = some (.int .i64 p.cw) ∧ w'.cell? ⟨w.heap.size + 1, 3, none⟩ = some (.int .i64 p.cr) ∧ w'.cell? ⟨w.heap.size + 1, 4, none⟩ = some (.int .i64 p.cf) ∧ w'.cell? ⟨w.heap.size + 1, 5, none⟩ = some (.int .i64 p.flows) ∧ w'.cell? ⟨w.heap.size + 1, 6, none⟩ = some (.slice a' m' c') ∧ w'.cell? ⟨w.heap.size + 1, 7, none⟩ = some (.int .i64 p.tok))) (by kernel_rfl) ?_ (fun hHeld => ?_)
    · (try dsimp only)
      (first | exact HS.out _ (Ext.refl _).drew | exact HS.out _ Y1.out | exact HS.out _ Y2.out | exact HS.out _ Y3.out)
    refine take_w 0 (some 36) (v := ?_) (by kernel_rfl) (by kernel_rfl) (by kernel_rfl) (by kernel_rfl) (by kernel_rfl) (fun _ _ _ h => h) (by rfl) ?_ (by assumption) ?_
    rotate_left
    · (intro w hSw; (try dsimp only at hSw); go_simp; try with_reducible rfl)
    try simp only [Act.put, List.setIfInBounds_toArray, List.set_cons_zero, List.set_cons_succ]
    refine take_w 2 (some 38) (v := ?_) (by kernel_rfl) (by kernel_rfl) (by kernel_rfl) (by kernel_rfl) (by kernel_rfl) (fun _ _ _ h => h) (by rfl) ?_ (by assumption) ?_
    rotate_left
    · (intro w hSw; (try dsimp only at hSw); go_simp; try with_reducible rfl)
    try simp only [Act.put, List.setIfInBounds_toArray, List.set_cons_zero, List.set_cons_succ]
    refine ready_one 1 (by kernel_rfl) (by kernel_rfl) (by rfl) (fun Kc hKc => ?_)
    go_simp
    refine (sright_any o _ _ (HV.out.ext (HE5.out.trans (Ext.refl w5).drew))).mono ?_
    rw [HRR.out]
    rintro e y1 ⟨rfl, hy1⟩
    have Y1 := Lib.hid ((Ext.refl w5).drew.trans hy1)
    clear hy1
    try go_wp2_with fail
    refine hKc.out _ _ ?_ (fun hHeld => ?_)
    · (try dsimp only)
      (first | exact HS.out _ (Ext.refl _).drew | exact HS.out _ Y1.out | exact HS.out _ Y2.out | exact HS.out _ Y3.out)
    clear hKc Kc
    try simp only [Act.put, List.setIfInBounds_toArray, List.set_cons_zero, List.set_cons_succ]
    refine take_w 3 (some 39) (v := ?_) (by kernel_rfl) (by kernel_rfl) (by kernel_rfl) (by kernel_rfl) (by kernel_rfl) (fun _ _ _ h => h) (by rfl) ?_ (by assumption) ?_
    rotate_left
    · (intro w hSw; (try dsimp only at hSw); go_simp; try with_reducible rfl)
    try simp only [Act.put, List.setIfInBounds_toArray, List.set_cons_zero, List.set_cons_succ]
    refine take_w 4 (some 40) (v := ?_) (by kernel_rfl) (by kernel_rfl) (by kernel_rfl) (by kernel_rfl) (by kernel_rfl) (fun _ _ _ h => h) (by rfl) ?_ (by assumption) ?_
    rotate_left
    · (intro w hSw; (try dsimp only at hSw); go_simp; try with_reducible rfl)
    try simp only [Act.put, List.setIfInBounds_toArray, List.set_cons_zero, List.set_cons_succ]
    refine take_w 5 (some 41) (v := ?_) (by kernel_rfl) (by kernel_rfl) (by kernel_rfl) (by kernel_rfl) (by kernel_rfl) (fun _ _ _ h => h) (by rfl) ?_ (by assumption) ?_
    rotate_left
    · (intro w hSw; (try dsimp only at hSw); go_simp; try with_reducible rfl)
    try simp only [Act.put, List.setIfInBounds_toArray, List.set_cons_zero, List.set_cons_succ]
    refine take_w 6 (some 42) (v := ?_) (by kernel_rfl) (by kernel_rfl) (by kernel_rfl) (by kernel_rfl) (by kernel_rfl) (fun _ _ _ h => h) (by rfl) ?_ (by assumption) ?_
    rotate_left
    · (intro w hSw; (try dsimp only at hSw); go_simp; try with_reducible rfl)
    try simp only [Act.put, List.setIfInBounds_toArray, List.set_cons_zero, List.set_cons_succ]
    refine take_w 7 (some 43) (v := ?_) (by kernel_rfl) (by kernel_rfl) (by kernel_rfl) (by kernel_rfl) (by kernel_rfl) (fun _ _ _ h => h) (by rfl) ?_ (by assumption) ?_
    rotate_left
    · (intro w hSw; (try dsimp only at hSw); go_simp; try with_reducible rfl)
    try simp only [Act.put, List.setIfInBounds_toArray, List.set_cons_zero, List.set_cons_succ]
    refine take_w 8 (some 44) (v := ?_) (by kernel_rfl) (by kernel_rfl) (by kernel_rfl) (by kernel_rfl) (by kernel_rfl) (fun _ _ _ h => h) (by rfl) ?_ (by assumption) ?_
    rotate_left
    · (intro w hSw; (try dsimp only at hSw); go_simp; try with_reducible rfl)
    try simp only [Act.put, List.setIfInBounds_toArray, List.set_cons_zero, List.set_cons_succ]
    refine take_w 9 (some 45) (v := ?_) (by kernel_rfl) (by kernel_rfl) (by kernel_rfl) (by kernel_rfl) (by kernel_rfl) (fun _ _ _ h => h) (by rfl) ?_ (by assumption) ?_
    rotate_left
    · (intro w hSw; (try dsimp only at hSw); go_simp; try with_reducible rfl)
    try simp only [Act.put, List.setIfInBounds_toArray, List.set_cons_zero, List.set_cons_succ]
    refine take_w 10 (some 46) (v := ?_) (by kernel_rfl) (by kernel_rfl) (by kernel_rfl) (by kernel_rfl) (by kernel_rfl) (fun _ _ _ h => h) (by rfl) ?_ (by assumption) ?_
    rotate_left
    · (intro w hSw; (try dsimp only at hSw); go_simp; try with_reducible rfl)
    try simp only [Act.put, List.setIfInBounds_toArray, List.set_cons_zero, List.set_cons_succ]
    refine take_w 11 (some 47) (v := ?_) (by kernel_rfl) (by kernel_rfl) (by kernel_rfl) (by kernel_rfl) (by kernel_rfl) (fun _ _ _ h => h) (by rfl) ?_ (by assumption) ?_
    rotate_left
    · (intro w hSw; (try dsimp only at hSw); go_simp; try with_reducible rfl)
    try simp only [Act.put, List.setIfInBounds_toArray, List.set_cons_zero, List.set_cons_succ]
    refine take_w 12 (some 48) (v := ?_) (by kernel_rfl) (by kernel_rfl) (by kernel_rfl) (by kernel_rfl) (by kernel_rfl) (fun _ _ _ h => h) (by rfl) ?_ (by assumption) ?_
    rotate_left
    · (intro w hSw; (try dsimp only at hSw); go_simp; try with_reducible rfl)
    try simp only [Act.put, List.setIfInBounds_toArray, List.set_cons_zero, List.set_cons_succ]
    refine take_w 13 (some 49) (v := ?_) (by kernel_rfl) (by kernel_rfl) (by kernel_rfl) (by kernel_rfl) (by kernel_rfl) (fun _ _ _ h => h) (by rfl) ?_ (by assumption) ?_
    rotate_left
    · (intro w hSw; (try dsimp only at hSw); go_simp; try with_reducible rfl)
    try simp only [Act.put, List.setIfInBounds_toArray, List.set_cons_zero, List.set_cons_succ]
    refine take_un 7 [(14, some 50), (15, some 51), (16, some 52), (17, some 53), (18, some 54), (19, some 55), (20, some 56)] rfl (by kernel_rfl) (fun _ _ _ _ h => h) (by assumption) ?_
    simp only [putU, setU, Act.put, List.setIfInBounds_toArray, List.set_cons_zero, List.set_cons_succ]
    refine take_w 21 (some 57) (v := ?_) (by kernel_rfl) (by kernel_rfl) (by kernel_rfl) (by kernel_rfl) (by kernel_rfl) (fun _ _ _ h => h) (by rfl) ?_ (by assumption) ?_
    rotate_left
    · (intro w hSw; (try dsimp only at hSw); go_simp; try with_reducible rfl)
    try simp only [Act.put, List.setIfInBounds_toArray, List.set_cons_zero, List.set_cons_succ]
    refine take_w 22 (some 58) (v := ?_) (by kernel_rfl) (by kernel_rfl) (by kernel_rfl) (by kernel_rfl) (by kernel_rfl) (fun _ _ _ h => h) (by rfl) ?_ (by assumption) ?_
    rotate_left
    · (intro w hSw; (try dsimp only at hSw); go_simp; try with_reducible rfl)
    try simp only [Act.put, List.setIfInBounds_toArray, List.set_cons_zero, List.set_cons_succ]
    refine take_w 23 (some 59) (v := ?_) (by kernel_rfl) (by kernel_rfl) (by kernel_rfl) (by kernel_rfl) (by kernel_rfl) (fun _ _ _ h => h) (by rfl) ?_ (by assumption) ?_
    rotate_left
    · (intro w hSw; (try dsimp only at hSw); go_simp; try with_reducible rfl)
    try simp only [Act.put, List.setIfInBounds_toArray, List.set_cons_zero, List.set_cons_succ]
    refine take_w 24 (some 60) (v := ?_) (by kernel_rfl) (by kernel_rfl) (by kernel_rfl) (by kernel_rfl) (by kernel_rfl) (fun _ _ _ h => h) (by rfl) ?_ (by assumption) ?_
    rotate_left
    · (intro w hSw; (try dsimp only at hSw); go_simp; try with_reducible rfl)
    try simp only [Act.put, List.setIfInBounds_toArray, List.set_cons_zero, List.set_cons_succ]
    refine take_w 25 (some 61) (v := ?_) (by kernel_rfl) (by kernel_rfl) (by kernel_rfl) (by kernel_rfl) (by kernel_rfl) (fun _ _ _ h => h) (by rfl) ?_ (by assumption) ?_
    rotate_left
    · (intro w hSw; (try dsimp only at hSw); go_simp; try with_reducible rfl)
    try simp only [Act.put, List.setIfInBounds_toArray, List.set_cons_zero, List.set_cons_succ]
    refine take_w 27 (some 63) (v := ?_) (by kernel_rfl) (by kernel_rfl) (by kernel_rfl) (by kernel_rfl) (by kernel_rfl) (fun _ _ _ h => h) (by rfl) ?_ (by assumption) ?_
    rotate_left
    · (intro w hSw; (try dsimp only at hSw); go_simp; try with_reducible rfl)
    try simp only [Act.put, List.setIfInBounds_toArray, List.set_cons_zero, List.set_cons_succ]
    refine take_w 28 (some 64) (v := ?_) (by kernel_rfl) (by kernel_rfl) (by kernel_rfl) (by kernel_rfl) (by kernel_rfl) (fun _ _ _ h => h) (by rfl) ?_ (by assumption) ?_
    rotate_left
    · (intro w hSw; (try dsimp only at hSw); go_simp; try with_reducible rfl)
    try simp only [Act.put, List.setIfInBounds_toArray, List.set_cons_zero, List.set_cons_succ]
    refine ready_one 26 (by kernel_rfl) (by kernel_rfl) (by rfl) (fun Kc hKc => ?_)
    go_simp
    refine (sSame_any o p _ _ _ (HV.out.ext (HE5.out.trans Y1.out)) (HU.out.ext (HE5.out.trans Y1.out))).mono ?_
    rintro e y2 ⟨rfl, hy2⟩
    have Y2 := Lib.hid (Y1.out.trans hy2)
    clear hy2
    try go_wp2_with fail
    refine hKc.out _ _ ?_ (fun hHeld => ?_)
    · (try dsimp only)
      (first | exact HS.out _ (Ext.refl _).drew | exact HS.out _ Y1.out | exact HS.out _ Y2.out | exact HS.out _ Y3.out)
    clear hKc Kc
    try simp only [Act.put, List.setIfInBounds_toArray, List.set_cons_zero, List.set_cons_succ]
    refine ready_one 29 (by kernel_rfl) (by kernel_rfl) (by rfl) (fun Kc hKc => ?_)
    go_simp
    refine (rsSame_any o p _ _ _ (HV.out.ext (HE5.out.trans Y2.out)) (HU.out.ext (HE5.out.trans Y2.out))).mono ?_
    rintro e y3 ⟨rfl, hy3⟩
    have Y3 := Lib.hid (Y2.out.trans hy3)
    clear hy3
    generalize eqSn o p = qe
    try go_wp2_with fail
    refine hKc.out _ _ ?_ (fun hHeld => ?_)
    · (try dsimp only)
      (first | exact HS.out _ (Ext.refl _).drew | exact HS.out _ Y1.out | exact HS.out _ Y2.out | exact HS.out _ Y3.out)
    clear hKc Kc
    try simp only [Act.put, List.setIfInBounds_toArray, List.set_cons_zero, List.set_cons_succ]
    refine take_w 30 (some 66) (v := ?_) (by kernel_rfl) (by kernel_rfl) (by kernel_rfl) (by kernel_rfl) (by kernel_rfl) (fun _ _ _ h => h) (by rfl) ?_ (by assumption) ?_
    rotate_left
    · (intro w hSw; (try dsimp only at hSw); go_simp; try with_reducible rfl)
    try simp only [Act.put, List.setIfInBounds_toArray, List.set_cons_zero, List.set_cons_succ]
    refine take_w 31 (some 67) (v := ?_) (by kernel_rfl) (by kernel_rfl) (by kernel_rfl) (by kernel_rfl) (by kernel_rfl) (fun _ _ _ h => h) (by rfl) ?_ (by assumption) ?_
    rotate_left
    · (intro w hSw; (try dsimp only at hSw); go_simp; try with_reducible rfl)
    try simp only [Act.put, List.setIfInBounds_toArray, List.set_cons_zero, List.set_cons_succ]
    refine wpAnyH_done (by kernel_rfl) ?_ _
    have H1y := Lib.hid (H15.out.ext Y3.out)
    have ⟨p0, p1, p2, p3, p4, p5, p6, p7⟩ := H1y.out.n8
    have HEy := Lib.hid (HE5.out.trans Y3.out)
    have HX2 := Lib.hid (HX1.out.ext Y3.out)
    clear H15 H25 HS HE5 HX1 Y1 Y2 Y3
    go_wp2_with fail
    refine (rsBytes_any o HRR.out y3 _ (HV.out.ext HEy.out)).mono ?_
    rintro e w6 ⟨v6, rfl, h6⟩
    have HE6 := Lib.hid (HEy.out.trans h6.2)
    have HX6 := Lib.hid (HX2.out.ext h6.2)
    have hb6 := h6.bytes
    obtain ⟨a6, c6, rfl, -⟩ := id hb6
    have HB6 := Lib.hid hb6
    clear h6 hb6 H1y HEy HX2 HRR p0 p1 p2 p3 p4 p5 p6 p7
    obtain ⟨ax2, cx2, ex, -⟩ := id HX6.out
    injection ex with ea eb ec
    subst ea eb ec
    go_wp2_with fail
    refine (same_any _ _ _ _ w6 HX6.out HB6.out).mono ?_
    rw [decide_eq_true (show snBy o = snBy o from rfl)]
    rintro e w6' ⟨rfl, rfl⟩
    have HER := HE6
    clear HX6 HB6 HE6
    obtain ⟨wR, hwR⟩ : ∃ wR, wR = w6 := ⟨_, rfl⟩
    subst hwR
    go_wp2_with fail
    refine (sparse_flat _ be wR (HB.out.ext HER.out)).mono ?_
    rintro e w8 ⟨ca1, cb1, cc1, cd1, ce1, cf1, na1, nm1, nc1, tk1, f4, x, rfl, hE8, hV8, hno, hyes⟩
    have HA8 := Lib.hid ((Ext.refl w8).alloc (.cells #[.int .i64 ca1, .int .i64 cb1, .int .i64 cc1, .int .i64 cd1, .int .i64 ce1, .int .i64 cf1, .slice na1 nm1 nc1, .int .i64 tk1] 26))
    have HN8 : Hid (BoxL (w8.alloc (.cells #[.int .i64 ca1, .int .i64 cb1, .int .i64 cc1, .int .i64 cd1, .int .i64 ce1, .int .i64 cf1, .slice na1 nm1 nc1, .int .i64 tk1] 26)) w8.heap.size [.int .i64 ca1, .int .i64 cb1, .int .i64 cc1, .int .i64 cd1, .int .i64 ce1, .int .i64 cf1, .slice na1 nm1 nc1, .int .i64 tk1]) := Lib.hid (BoxL.new w8 [.int .i64 ca1, .int .i64 cb1, .int .i64 cc1, .int .i64 cd1, .int .i64 ce1, .int .i64 cf1, .slice na1 nm1 nc1, .int .i64 tk1] _)
    have HE8 := Lib.hid ((HER.out.trans hE8).trans HA8.out)
    have HV8 := Lib.hid (hV8.ext HA8.out)
    have hz8 : (w8.alloc (.cells #[.int .i64 ca1, .int .i64 cb1, .int .i64 cc1, .int .i64 cd1, .int .i64 ce1, .int .i64 cf1, .slice na1 nm1 nc1, .int .i64 tk1] 26)).heap.size = w8.heap.size + 1 := by simp
    clear hE8 hV8 HER
    go_wp2_with fail
    generalize w8.alloc (.cells #[.int .i64 ca1, .int .i64 cb1, .int .i64 cc1, .int .i64 cd1, .int .i64 ce1, .int .i64 cf1, .slice na1 nm1 nc1, .int .i64 tk1] 26) = W8 at *
    refine (rsparse_flat _ be W8 (HB.out.ext HE8.out)).mono ?_
    rintro e w9 ⟨ca2, cb2, cc2, cd2, ce2, cf2, na2, nm2, nc2, tk2, ok, y, rfl, hE9, hV9, hno2, hyes2⟩
    have HA9 := Lib.hid ((Ext.refl w9).alloc (.cells #[.int .i64 ca2, .int .i64 cb2, .int .i64 cc2, .int .i64 cd2, .int .i64 ce2, .int .i64 cf2, .slice na2 nm2 nc2, .int .i64 tk2] 26))
    have HN9 : Hid (BoxL (w9.alloc (.cells #[.int .i64 ca2, .int .i64 cb2, .int .i64 cc2, .int .i64 cd2, .int .i64 ce2, .int .i64 cf2, .slice na2 nm2 nc2, .int .i64 tk2] 26)) w9.heap.size [.int .i64 ca2, .int .i64 cb2, .int .i64 cc2, .int .i64 cd2, .int .i64 ce2, .int .i64 cf2, .slice na2 nm2 nc2, .int .i64 tk2]) := Lib.hid (BoxL.new w9 [.int .i64 ca2, .int .i64 cb2, .int .i64 cc2, .int .i64 cd2, .int .i64 ce2, .int .i64 cf2, .slice na2 nm2 nc2, .int .i64 tk2] _)
    have HE9 := Lib.hid ((HE8.out.trans hE9).trans HA9.out)
    have HV89 := Lib.hid ((HV8.out.ext hE9).ext HA9.out)
    have HN89 := Lib.hid ((HN8.out.ext hE9).ext HA9.out)
    have HV9 := Lib.hid (hV9.ext HA9.out)
    have hlt : w8.heap.size < w9.heap.size := by have := hE9.size; omega
    clear hE9 hV9 HE8 HV8 HN8 HA8
    go_upto_region 13 with (fail)
    generalize w9.alloc (.cells #[.int .i64 ca2, .int .i64 cb2, .int .i64 cc2, .int .i64 cd2, .int .i64 ce2, .int .i64 cf2, .slice na2 nm2 nc2, .int .i64 tk2] 26) = W9 at *
    have ⟨p0, p1, p2, p3, p4, p5, p6, p7⟩ := HN89.out.n8
    have ⟨q0, q1, q2, q3, q4, q5, q6, q7⟩ := HN9.out.n8
    have hxy : x = y ∧ ((ok = true ∧ f4 = 0) ∨ (ok = false ∧ f4 = 30)) := by
      cases hp : parseS be with
      | none =>
        obtain ⟨r1, r2⟩ := hno hp
        obtain ⟨r3, r4⟩ := hno2 hp
        exact ⟨by rw [r2, r4], .inr ⟨r3, r1⟩⟩
      | some z =>
        obtain ⟨r1, r2⟩ := hyes z hp
        obtain ⟨r3, r4⟩ := hyes2 z hp
        exact ⟨by rw [r2, r4], .inl ⟨r3, r1⟩⟩
    obtain ⟨rfl, hok⟩ := hxy
    clear hno hyes hno2 hyes2 HA9
    rcases hok with ⟨rfl, rfl⟩ | ⟨rfl, rfl⟩
    all_goals
      go_wp2_with fail
      refine (rsSame_any x x W9 _ _ HV89.out HV9.out).mono ?_
      rw [eqSn_refl]
      rintro e wA ⟨rfl, hEA⟩
      have HEA := Lib.hid (HE9.out.trans hEA)
      clear hEA HV89 HV9 HN89 HN9 HE9 p0 p1 p2 p3 p4 p5 p6 p7 q0 q1 q2 q3 q4 q5 q6 q7
      go_wp2_with fail
      refine (awake11 _).mono ?_
      rintro e wz ⟨rfl, hEz⟩
      have HEz := Lib.hid (HEA.out.trans hEz)
      clear hEz
      go_wp2
      go_ret
      exact ⟨rfl, HEz.out⟩
end Go.Proofs.YtdienbcjfljjnaaGreatDoor
