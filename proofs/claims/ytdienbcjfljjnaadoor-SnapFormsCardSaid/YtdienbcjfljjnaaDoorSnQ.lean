/- Walks of package snap: Copy. -/
import Derived.Test.YtdienbcjfljjnaaDoorSnP
import Derived.Test.YtdienbcjfljjnaaDoorValP
import Derived.Test.YtdienbcjfljjnaaDoorPlX
open Go.RowKit Go.Shelf
namespace Go.Proofs.YtdienbcjfljjnaaDoor
open Go Go.Proofs Fm

theorem snz8 (w : World) : Ext w (w.alloc (.cells #[.int .i64 0, .int .i64 0, .int .i64 0, .int .i64 0, .int .i64 0, .int .i64 0, .slice none 0 0, .int .i64 0] 26)) := (Ext.refl w).alloc _

set_option maxRecDepth 100000 in
set_option maxHeartbeats 8000000 in
/-- A copy is in memory of its own. -/
theorem scopy_any (s : Sn) (w : World) (v : Value) (hv : SnV w s v) (hl : s.nodes.length ≤ 1000) (ha : ∀ n, n ∈ s.nodes → n.after.length ≤ 1000 ∧ partsT n.val ≤ 1000000) :
    Calls Tryd.prog 18 #[v] w fun e w' => ∃ (a : Option Addr) (c : Nat), e = .returned (.agg #[.int .i64 s.cq, .int .i64 s.cd, .int .i64 s.cw, .int .i64 s.cr, .int .i64 s.cf, .int .i64 s.flows, .slice a s.nodes.length c, .int .i64 s.tok]) ∧
      CopyN 47 3 45 w.heap.size w' (.slice a s.nodes.length c) s.nodes ∧ Ext w w' := by
  obtain ⟨a, m, c, rfl, hr, -⟩ := hv
  obtain ⟨cq, cd, cw, cr, cf, fl, l, tk⟩ := s
  simp only at *
  have HR := Lib.hid hr
  have HA := Lib.hid ha
  clear hr ha
  have h1 := (BoxL.new w [.int .i64 cq, .int .i64 cd, .int .i64 cw, .int .i64 cr, .int .i64 cf, .int .i64 fl, .slice a m c, .int .i64 tk] 26).ext (snz8 _)
  have h2 : BoxL ((w.alloc (.cells #[.int .i64 cq, .int .i64 cd, .int .i64 cw, .int .i64 cr, .int .i64 cf, .int .i64 fl, .slice a m c, .int .i64 tk] 26)).alloc (.cells #[.int .i64 0, .int .i64 0, .int .i64 0, .int .i64 0, .int .i64 0, .int .i64 0, .slice none 0 0, .int .i64 0] 26)) (w.alloc (.cells #[.int .i64 cq, .int .i64 cd, .int .i64 cw, .int .i64 cr, .int .i64 cf, .int .i64 fl, .slice a m c, .int .i64 tk] 26)).heap.size z8 := BoxL.new _ z8 _
  have hz : (w.alloc (.cells #[.int .i64 cq, .int .i64 cd, .int .i64 cw, .int .i64 cr, .int .i64 cf, .int .i64 fl, .slice a m c, .int .i64 tk] 26)).heap.size = w.heap.size + 1 := by simp
  rw [hz] at h2
  have hE := ((Ext.refl w).alloc (.cells #[.int .i64 cq, .int .i64 cd, .int .i64 cw, .int .i64 cr, .int .i64 cf, .int .i64 fl, .slice a m c, .int .i64 tk] 26)).trans (snz8 _)
  have hZ : ((w.alloc (.cells #[.int .i64 cq, .int .i64 cd, .int .i64 cw, .int .i64 cr, .int .i64 cf, .int .i64 fl, .slice a m c, .int .i64 tk] 26)).alloc (.cells #[.int .i64 0, .int .i64 0, .int .i64 0, .int .i64 0, .int .i64 0, .int .i64 0, .slice none 0 0, .int .i64 0] 26)).heap.size = w.heap.size + 2 := by simp
  clear hz
  go_enter Tryd.func18, Tryd.ntmps18
  go_upto_region 1 with (fail)
  generalize (w.alloc _).alloc (.cells #[.int .i64 0, .int .i64 0, .int .i64 0, .int .i64 0, .int .i64 0, .int .i64 0, .slice none 0 0, .int .i64 0] _) = W1 at *
  have ⟨p0, p1, p2, p3, p4, p5, p6, p7⟩ := h1.n8
  have H1 := Lib.hid h1
  have H2 := Lib.hid h2
  have HE := Lib.hid hE
  clear h1 h2 hE
  go_wp2_with fail
  refine (cloneN_any l w W1 HE.out _ HR.out (by omega)).mono ?_
  rintro e w2 ⟨v2, rfl, hS, hE2⟩
  obtain ⟨a2, c2, rfl⟩ : ∃ a2 c2, v2 = .slice a2 l.length c2 := by
    rcases hS.slice with ⟨q1, q2⟩ | ⟨g, c, q1, -⟩
    · exact ⟨none, 0, by rw [q2, q1]; rfl⟩
    · exact ⟨_, _, q1⟩
  have hH0 : HalfN 47 3 45 w (w.heap.size + 2) w2 (.slice a2 l.length c2) l 0 := HalfN.start (by rw [← hZ]; exact hS) (by rw [← hZ]; exact hE2.size)
  have hH1 := Lib.hid (hH0.set (b := w.heap.size) (by omega) 6 (.slice a2 l.length c2))
  have q1 := H1.out.ext hE2
  have q2 := H2.out.ext hE2
  have H12 := Lib.hid (q1.set 6 (by simp) (.slice a2 l.length c2))
  have H22 := Lib.hid (q2.kept (setOne_grown w2 w.heap.size 6 (.slice a2 l.length c2)) (fun e => by injection e with e; omega))
  have HE2 := Lib.hid ((HE.out.trans hE2).grown (setOne_grown w2 w.heap.size 6 (.slice a2 l.length c2)) (fun k hk => by injection hk with hk; omega))
  have ⟨r0, r1, r2, r3, r4, r5, r6, r7⟩ := q1.n8
  have f6 := q1.free 6
  have hsz2 : w.heap.size < w2.heap.size := q1.lt
  clear hS hE2 hH0 q1 q2 p0 p1 p2 p3 p4 p5 p6 p7 H1 H2 HE
  go_wp2_with fail
  clear r0 r1 r2 r3 r4 r5 r6 r7 f6
  generalize w2.setCell ⟨w.heap.size, 6, none⟩ (.slice a2 l.length c2) = W3 at *
  simp only [List.set_cons_succ, List.set_cons_zero] at H12
  have ⟨r0, r1, r2, r3, r4, r5, r6, r7⟩ := H12.out.n8
  go_wp2_with fail
  clear r0 r1 r2 r3 r4 r5 r6 r7
  go_loopw [12] (fun i wr => ∃ j : Nat, j ≤ l.length ∧ i = .int .i64 j ∧ Hid (Ext w wr) ∧ Hid (BoxL wr w.heap.size [.int .i64 cq, .int .i64 cd, .int .i64 cw, .int .i64 cr, .int .i64 cf, .int .i64 fl, .slice a2 l.length c2, .int .i64 tk]) ∧ Hid (BoxL wr (w.heap.size + 1) z8) ∧
    Hid (HalfN 47 3 45 w (w.heap.size + 2) wr (.slice a2 l.length c2) l j)) (fun i _ => l.length - (intOf i).toNat)
  case atStart => exact ⟨0, by omega, rfl, HE2, H12, H22, hH1⟩
  case round =>
    clear HE2 H12 H22 hH1
    obtain ⟨j, hj, rfl, HE, H1, H2, HH⟩ := hrel
    have ⟨p0, p1, p2, p3, p4, p5, p6, p7⟩ := H1.out.n8
    by_cases hlt : j < l.length
    case neg =>
      have hje : j = l.length := by omega
      subst hje
      have HP := Lib.hid HH.out.full
      have HTh : Hid (wr.there (w.heap.size + 1) 0 ([.int .i64 cq, .int .i64 cd, .int .i64 cw, .int .i64 cr, .int .i64 cf, .int .i64 fl, .slice a2 l.length c2, .int .i64 tk] : List Value).toArray.size) := Lib.hid (H2.out.there (by simp [z8]))
      have HLs : Hid ((Tryd.prog.info? 26).map (·.size) = some ([.int .i64 cq, .int .i64 cd, .int .i64 cw, .int .i64 cr, .int .i64 cf, .int .i64 fl, .slice a2 l.length c2, .int .i64 tk] : List Value).toArray.size) := Lib.hid info_state
      have HC1 : Hid (([.int .i64 cq, .int .i64 cd, .int .i64 cw, .int .i64 cr, .int .i64 cf, .int .i64 fl, .slice a2 l.length c2, .int .i64 tk] : List Value).toArray.all (·.oneCell') = true) := Lib.hid (by simp [Value.oneCell'])
      have HBF : Hid (BoxL (wr.setCells (w.heap.size + 1) 0 [.int .i64 cq, .int .i64 cd, .int .i64 cw, .int .i64 cr, .int .i64 cf, .int .i64 fl, .slice a2 l.length c2, .int .i64 tk]) (w.heap.size + 1) [.int .i64 cq, .int .i64 cd, .int .i64 cw, .int .i64 cr, .int .i64 cf, .int .i64 fl, .slice a2 l.length c2, .int .i64 tk]) := Lib.hid ⟨Nat.lt_of_lt_of_le H2.out.lt (setCells_grown (w.heap.size + 1) [.int .i64 cq, .int .i64 cd, .int .i64 cw, .int .i64 cr, .int .i64 cf, .int .i64 fl, .slice a2 l.length c2, .int .i64 tk] 0 wr).size, (fun j u hu => by
          have := World.rangeAt_setCells_same wr (w.heap.size + 1) 0 [.int .i64 cq, .int .i64 cd, .int .i64 cw, .int .i64 cr, .int .i64 cf, .int .i64 fl, .slice a2 l.length c2, .int .i64 tk] (H2.out.there (by simp [z8])) j u hu
          rwa [Nat.zero_add] at this), (fun j => by rw [World.frozen?_setCells]; exact H2.out.free j)⟩
      have HGF : Hid (wr.grownBy (wr.setCells (w.heap.size + 1) 0 [.int .i64 cq, .int .i64 cd, .int .i64 cw, .int .i64 cr, .int .i64 cf, .int .i64 fl, .slice a2 l.length c2, .int .i64 tk]) (some (w.heap.size + 1))) := Lib.hid (setCells_grown _ _ _ _)
      clear HH H2 H1
      go_wp2_with (refine wpList_store_mid rfl _ _ _ rfl _ _ _ rfl rfl HTh.out HLs.out HC1.out ?_)
      generalize wr.setCells (w.heap.size + 1) 0 [.int .i64 cq, .int .i64 cd, .int .i64 cw, .int .i64 cr, .int .i64 cf, .int .i64 fl, .slice a2 l.length c2, .int .i64 tk] = yF at *
      have ⟨s0, s1, s2, s3, s4, s5, s6, s7⟩ := HBF.out.n8
      have HP2 := Lib.hid ((HP.out.kept HGF.out (fun k hk => by injection hk with hk; omega)).mono (show w.heap.size ≤ w.heap.size + 2 by omega))
      have HE9 := Lib.hid (HE.out.grown HGF.out (fun k hk => by injection hk with hk; omega))
      clear HTh HLs HC1 HBF HGF HP p0 p1 p2 p3 p4 p5 p6 p7
      refine bodyPost_ret (v := .agg #[.int .i64 cq, .int .i64 cd, .int .i64 cw, .int .i64 cr, .int .i64 cf, .int .i64 fl, .slice a2 l.length c2, .int .i64 tk]) (by simp [results, Tryd.results18, go_sem, s0, s1, s2, s3, s4, s5, s6, s7]) rfl ?_
      exact ⟨_, _, rfl, HP2.out, HE9.out⟩
    obtain ⟨g, rfl⟩ : ∃ g, a2 = some ⟨g, 0, none⟩ := by
      obtain ⟨cs, lo, h1, h2, _⟩ := HH.out
      rcases h2.2 with ⟨h, h0⟩ | ⟨g, cap, cur, h, _⟩
      · omega
      · injection h with h; exact ⟨g, h⟩
    obtain ⟨ad, md, cdd, vk, vn, vs, vd, hN, hcell, hfz, hg1, hg2⟩ := HH.out.at hlt
    obtain ⟨kk, nn, ss, va, vm, vc, rfl, rfl, rfl, rfl⟩ := hN.four
    have b6 := hcell 6 _ rfl
    have b12 := hcell 12 _ rfl
    have b13 := hcell 13 _ rfl
    have b14 := hcell 14 _ rfl
    have b15 := hcell 15 _ rfl
    have z6 := hfz (j * 16 + 6)
    have z12 := hfz (j * 16 + 12)
    have z13 := hfz (j * 16 + 13)
    have z14 := hfz (j * 16 + 14)
    have z15 := hfz (j * 16 + 15)
    have HN := Lib.hid hN
    have hj0 : (0 : Int) ≤ (j : Int) := by omega
    have hj1 : (j : Int) < (l.length : Int) := by omega
    obtain ⟨a0, m0, c0, k0, N0, s0, d0, e0, hI, hLi, -⟩ := hN
    simp only [ndCells] at e0
    injection e0 with e0
    injection e0 with e0
    simp only [List.cons.injEq, and_true, Value.slice.injEq] at e0
    obtain ⟨-, -, -, -, -, -, ⟨rfl, rfl, rfl⟩, -, -, -, -, -, rfl, rfl, rfl, rfl⟩ := e0
    obtain ⟨hal, hpl⟩ := HA.out l[j] (List.getElem_mem hlt)
    obtain ⟨xt, hxt⟩ : ∃ xt, xt = l[j].val := ⟨_, rfl⟩
    obtain ⟨kt, nt, st, lt, hXV⟩ : ∃ kt nt st lt, xt = .node kt nt st lt := by cases h : xt with | node k n s l => exact ⟨k, n, s, l, rfl⟩
    subst hXV
    have HXT := Lib.hid hxt
    rw [← hxt] at hLi hpl
    have HI := Lib.hid (fun wx (hx : Ext wr wx) => hI.ext (HE.out.trans hx))
    have HLi := Lib.hid (fun wx (hx : Ext wr wx) => hLi.ext (HE.out.trans hx))
    have HCop : Hid (∀ wx, Ext wr wx → Calls Tryd.prog 47 #[.agg #[.int .u8 kk, .int .i64 nn, .string ss, .slice va vm vc]] wx (fun e w' =>
          ∃ (a4 : Option Addr) (n4 c4 : Nat), e = .returned (.agg #[.int .u8 (kt.toNat : Int), .int .i64 nt, .string (str st), .slice a4 n4 c4]) ∧ Ext wx w' ∧
            OwnT 45 w' wx.heap.size (.node kt nt st lt) (.agg #[.int .u8 (kt.toNat : Int), .int .i64 nt, .string (str st), .slice a4 n4 c4]))) :=
      Lib.hid (fun wx hE => (copy_any _ wx _ (HLi.out wx hE) hpl).mono (fun e w' h => CopyPost.two h))
    have HClo : Hid (∀ wx, Ext wr wx → Calls Tryd.prog 46 #[.slice ad md cdd] wx (fun e w' => ∃ (a3 : Option Addr) (n3 c3 : Nat), e = .returned (.slice a3 n3 c3) ∧ OwnN 3 wx.heap.size w' (.slice a3 n3 c3) l[j].after ∧ Ext wx w')) :=
      Lib.hid (fun wx hE => (cloneI_any l[j].after wx _ (HI.out wx hE) (by omega)).mono (fun e w' h => by
        obtain ⟨v', h1, h2, h3⟩ := h
        rcases h2.2 with ⟨q, -⟩ | ⟨b, cap', cur, q, -⟩
        · exact ⟨_, _, _, by rw [h1, q], by rw [← q]; exact h2, h3⟩
        · exact ⟨_, _, _, by rw [h1, q], by rw [← q]; exact h2, h3⟩))
    clear hcell hfz hI hLi HI HLi hxt
    go_wp2_with fail
    clear p0 p1 p2 p3 p4 p5 p6 p7
    go_region_law (go_simp; first
      | (go_at_call 46
         refine (HClo.out _ (by first | exact Ext.refl _ | exact (Ext.refl _).drew | exact (Ext.refl _).drewN _)).mono ?_
         rintro e w4 ⟨a3, n3, c3, rfl, hO3, hE3⟩
         have hE4 : Ext wr w4 := Ext.trans (by first | exact Ext.refl _ | exact (Ext.refl _).drew | exact (Ext.refl _).drewN _) hE3
         have d12 := (hE4.cell (p := ⟨g, j * 16 + 12, none⟩) hg2).trans b12
         have d13 := (hE4.cell (p := ⟨g, j * 16 + 13, none⟩) hg2).trans b13
         have d14 := (hE4.cell (p := ⟨g, j * 16 + 14, none⟩) hg2).trans b14
         have d15 := (hE4.cell (p := ⟨g, j * 16 + 15, none⟩) hg2).trans b15
         have hz4 := hE4.size
         have HO3 := Lib.hid hO3
         have HE4 := Lib.hid hE4
         clear hO3 hE3 hE4)
      | (go_at_call 47
         refine (HCop.out _ (by first | exact HE4.out | exact HE4.out.drew | exact HE4.out.drewN _)).mono ?_
         rintro e w5 ⟨a4, n4, c4, rfl, hE5, hO4⟩
         have hE45 : Ext w4 w5 := Ext.trans (by first | exact Ext.refl _ | exact (Ext.refl _).drew | exact (Ext.refl _).drewN _) hE5
         have hE6 := HE4.out.trans hE45
         have x6 := (hE6.cell (p := ⟨g, j * 16 + 6, none⟩) hg2).trans b6
         have x12 := (hE6.cell (p := ⟨g, j * 16 + 12, none⟩) hg2).trans b12
         have x13 := (hE6.cell (p := ⟨g, j * 16 + 13, none⟩) hg2).trans b13
         have x14 := (hE6.cell (p := ⟨g, j * 16 + 14, none⟩) hg2).trans b14
         have x15 := (hE6.cell (p := ⟨g, j * 16 + 15, none⟩) hg2).trans b15
         have v6 := (hE6.frozen (p := ⟨g, j * 16 + 6, none⟩) hg2).trans z6
         have v12 := (hE6.frozen (p := ⟨g, j * 16 + 12, none⟩) hg2).trans z12
         have v13 := (hE6.frozen (p := ⟨g, j * 16 + 13, none⟩) hg2).trans z13
         have v14 := (hE6.frozen (p := ⟨g, j * 16 + 14, none⟩) hg2).trans z14
         have v15 := (hE6.frozen (p := ⟨g, j * 16 + 15, none⟩) hg2).trans z15
         have hz5 := hE6.size
         have HO4 := Lib.hid hO4
         have HE45 := Lib.hid hE45
         have HE6 := Lib.hid hE6
         clear hO4 hE5 hE45 hE6))
    all_goals
      have hg := grown_trans (grown_trans (grown_trans (grown_trans (setOne_grown w5 g (j * 16 + 6) (.slice a3 n3 c3)) (setOne_grown _ g (j * 16 + 12) (.int .u8 (kt.toNat : Int)))) (setOne_grown _ g (j * 16 + 12 + 1) (.int .i64 nt))) (setOne_grown _ g (j * 16 + 12 + 2) (.string (str st)))) (setOne_grown _ g (j * 16 + 12 + 3) (.slice a4 n4 c4))
      obtain ⟨F, hV⟩ := HO4.out
      have hz34 : wr.heap.size ≤ w4.heap.size := hz4
      have hV' : Owns 45 w5 wr.heap.size l[j].val (.agg #[.int .u8 (kt.toNat : Int), .int .i64 nt, .string (str st), .slice a4 n4 c4]) F := by rw [← HXT.out]; exact hV.mono hz34
      have hA : OwnN 3 wr.heap.size w5 (.slice a3 n3 c3) l[j].after := OwnN.ext HO3.out HE45.out
      have hF : ∀ b, (Value.slice a3 n3 c3).ownBlock = some b → ¬ F b := fun b hb hFb => by
        have q1 := (World.ownsRow.lt HO3.out b hb).2
        have q2 : w4.heap.size ≤ b := (hV.bounds b hFb).1
        omega
      have hst := HH.out.step (W := (((((w5.setCell ⟨g, j * 16 + 6, none⟩ (.slice a3 n3 c3)).setCell ⟨g, j * 16 + 12, none⟩ (.int .u8 (kt.toNat : Int))).setCell ⟨g, j * 16 + 12 + 1, none⟩ (.int .i64 nt)).setCell ⟨g, j * 16 + 12 + 2, none⟩ (.string (str st))).setCell ⟨g, j * 16 + 12 + 3, none⟩ (.slice a4 n4 c4))) hlt HE6.out hA hF hV' (fun xs h => ((((((((h.stored (j * 16 + 6) (.slice a3 n3 c3)).1.stored (j * 16 + 12) (.int .u8 (kt.toNat : Int))).1).stored (j * 16 + 12 + 1) (.int .i64 nt)).1).stored (j * 16 + 12 + 2) (.string (str st))).1).stored (j * 16 + 12 + 3) (.slice a4 n4 c4)).1) hg
      have HS := Lib.hid hst
      have HE9 := Lib.hid ((HE.out.trans HE6.out).grown hg (fun k hk => by injection hk with hk; omega))
      have H19 := Lib.hid ((H1.out.ext HE6.out).kept hg (fun e => by injection e with e; omega))
      have H29 := Lib.hid ((H2.out.ext HE6.out).kept hg (fun e => by injection e with e; omega))
      clear hst hg hV hV' hA hF HO4 HO3 HE45 HE6 HE4 HE H1 H2 HH x6 x12 x13 x14 x15 v6 v12 v13 v14 v15 d12 d13 d14 d15 b6 b12 b13 b14 b15 z6 z12 z13 z14 z15 HCop HClo HXT hpl hal HN
      generalize (((((w5.setCell ⟨g, j * 16 + 6, none⟩ (.slice a3 n3 c3)).setCell ⟨g, j * 16 + 12, none⟩ (.int .u8 (kt.toNat : Int))).setCell ⟨g, j * 16 + 12 + 1, none⟩ (.int .i64 nt)).setCell ⟨g, j * 16 + 12 + 2, none⟩ (.string (str st))).setCell ⟨g, j * 16 + 12 + 3, none⟩ (.slice a4 n4 c4)) = W9 at *
      go_wp2
      go_roundw
      case rel => exact ⟨j + 1, by omega, by go_num, HE9, H19, H29, HS⟩
      case measure => simp [intOf]; omega
end Go.Proofs.YtdienbcjfljjnaaDoor
