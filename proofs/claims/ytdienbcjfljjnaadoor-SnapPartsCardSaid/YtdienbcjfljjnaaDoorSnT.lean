/- SnapParts answers true at every input. -/
import Derived.Test.YtdienbcjfljjnaaDoorSnU
import Derived.Test.YtdienbcjfljjnaaDoorSnQ
import Derived.Test.YtdienbcjfljjnaaDoorSnM
import Derived.Test.YtdienbcjfljjnaaDoorSnC
import Derived.Test.YtdienbcjfljjnaaDoorPlX
open Go.RowKit Go.Shelf
namespace Fm
open Go
section
variable {P : Program} {ops : Array Oper} {Q : Exit → Act → World → Prop} {md : Region.Mode} {S : World → Prop}
/-- One of three may come up. -/
theorem ready_three (i j k : Nat) {fuel : Nat} {listed : Array Bool} {a : Act} {w : World}
    (hi : ops[i]? = some (ops.getD i default)) (hj : ops[j]? = some (ops.getD j default)) (hk : ops[k]? = some (ops.getD k default)) (hr : Region.ready md ops listed = [i, j, k]) (hw : Region.wanted (ops.getD i default) (yielded ops a.tmps) = true) (hw2 : Region.wanted (ops.getD j default) (yielded ops a.tmps) = true) (hw3 : Region.wanted (ops.getD k default) (yielded ops a.tmps) = true)
    (h : ∀ K' : Act → World → Prop, Shut (∀ a w, S w → (S w → wpAnyH P md ops Q S fuel (listed.setIfInBounds i true) a w) → K' a w) → Oper.wp P (ops.getD i default) a w K' Q)
    (h2 : ∀ K' : Act → World → Prop, Shut (∀ a w, S w → (S w → wpAnyH P md ops Q S fuel (listed.setIfInBounds j true) a w) → K' a w) → Oper.wp P (ops.getD j default) a w K' Q)
    (h3 : ∀ K' : Act → World → Prop, Shut (∀ a w, S w → (S w → wpAnyH P md ops Q S fuel (listed.setIfInBounds k true) a w) → K' a w) → Oper.wp P (ops.getD k default) a w K' Q) : wpAnyH P md ops Q S (fuel + 1) listed a w :=
  wpAnyH_ready hr (by simp) (AllReadyH.cons hi (fun K hK => by rw [if_pos hw]; exact h K hK) (AllReadyH.cons hj (fun K hK => by rw [if_pos hw2]; exact h2 K hK) (AllReadyH.cons hk (fun K hK => by rw [if_pos hw3]; exact h3 K hK) AllReadyH.nil)))
end
end Fm
namespace Go.Proofs.YtdienbcjfljjnaaDoor
open Go Go.Proofs Fm

set_option maxRecDepth 100000 in
set_option maxHeartbeats 16000000 in
theorem snapParts_any (w : World) (s : Sn) (v : Value) (hv : SnV w s v) (A wh : UInt8) :
    Calls Tryd.prog 5 #[v, .int .u8 (A.toNat : Int), .int .u8 (wh.toNat : Int)] w fun e w' => e = .returned (.bool true) ∧ Ext w w' := by
  have HV := Lib.hid hv
  obtain ⟨a, m, c, rfl, hr, hwf⟩ := hv
  obtain rfl : m = s.nodes.length := by
    obtain ⟨_, _, e, _⟩ := hr.slice
    injection e
  have HW := Lib.hid hwf
  clear hwf hr
  have hAl := A.toNat_lt
  have hwl := wh.toNat_lt
  generalize A.toNat = At at *
  generalize wh.toNat = Wh at *
  have h1 := BoxL.new w [.int .i64 s.cq, .int .i64 s.cd, .int .i64 s.cw, .int .i64 s.cr, .int .i64 s.cf, .int .i64 s.flows, .slice a s.nodes.length c, .int .i64 s.tok] 26
  have hE := (Ext.refl w).alloc (.cells #[.int .i64 s.cq, .int .i64 s.cd, .int .i64 s.cw, .int .i64 s.cr, .int .i64 s.cf, .int .i64 s.flows, .slice a s.nodes.length c, .int .i64 s.tok] 26)
  go_enter Tryd.func5, Tryd.ntmps5
  go_upto_region 1 with (fail)
  have H1 := Lib.hid h1
  have HE1 := Lib.hid hE
  clear h1 hE
  generalize w.alloc _ = W1 at *
  have ⟨p0, p1, p2, p3, p4, p5, p6, p7⟩ := H1.out.n8
  go_wp2_with fail
  refine (few11_any s W1 _ (HV.out.ext HE1.out)).mono ?_
  rintro e w2 ⟨rfl, hE2⟩
  have HEw := Lib.hid (HE1.out.trans hE2)
  have H2 := Lib.hid (H1.out.ext hE2)
  clear hE2 H1 HE1 p0 p1 p2 p3 p4 p5 p6 p7
  cases hf : fewSn s with
  | false =>
    clear hf
    go_wp2_with fail
    refine (awake11 _).mono ?_
    rintro e wz ⟨rfl, hEz⟩
    have HEz := Lib.hid (HEw.out.trans hEz)
    clear hEz
    go_wp2
    go_ret
    exact ⟨rfl, HEz.out⟩
  | true =>
  have HF := Lib.hid hf
  clear hf
  have HLt : Hid (s.nodes.length ≤ 60 ∧ ∀ n, n ∈ s.nodes → n.after.length ≤ 1000 ∧ partsT n.val ≤ 1000000) := Lib.hid (by
    have hf := HF.out
    unfold fewSn at hf
    simp only [Bool.and_eq_true, decide_eq_true_eq] at hf
    refine ⟨hf.1, fun n hn => ?_⟩
    have hl := List.all_eq_true.1 hf.2 n hn
    unfold lightNd lightT at hl
    simp only [Bool.and_eq_true, decide_eq_true_eq] at hl
    have := fewT_light 20 n.val hl.2.2.2
    omega)
  have HCp : Hid (∀ wx, Ext w2 wx → Calls Tryd.prog 18 #[.agg #[.int .i64 s.cq, .int .i64 s.cd, .int .i64 s.cw, .int .i64 s.cr, .int .i64 s.cf, .int .i64 s.flows, .slice a s.nodes.length c, .int .i64 s.tok]] wx fun e w' => ∃ (a' : Option Addr) (c' : Nat), e = .returned (.agg #[.int .i64 s.cq, .int .i64 s.cd, .int .i64 s.cw, .int .i64 s.cr, .int .i64 s.cf, .int .i64 s.flows, .slice a' s.nodes.length c', .int .i64 s.tok]) ∧ CopyN 47 3 45 wx.heap.size w' (.slice a' s.nodes.length c') s.nodes ∧ Ext wx w') :=
    Lib.hid (fun wx hx => scopy_any s wx _ (HV.out.ext (HEw.out.trans hx)) (by have := HLt.out.1; omega) HLt.out.2)
  have HS : Hid (∀ W2, Ext w2 W2 → W2.cell? ⟨w.heap.size, 0, none⟩ = some (.int .i64 s.cq) ∧ W2.cell? ⟨w.heap.size, 1, none⟩ = some (.int .i64 s.cd) ∧ W2.cell? ⟨w.heap.size, 2, none⟩ = some (.int .i64 s.cw) ∧ W2.cell? ⟨w.heap.size, 3, none⟩ = some (.int .i64 s.cr) ∧ W2.cell? ⟨w.heap.size, 4, none⟩ = some (.int .i64 s.cf) ∧ W2.cell? ⟨w.heap.size, 5, none⟩ = some (.int .i64 s.flows) ∧ W2.cell? ⟨w.heap.size, 6, none⟩ = some (.slice a s.nodes.length c) ∧ W2.cell? ⟨w.heap.size, 7, none⟩ = some (.int .i64 s.tok)) := Lib.hid (fun W2 h => by
    obtain ⟨x0, x1, x2, x3, x4, x5, x6, x7⟩ := (H2.out.ext h).n8
    exact ⟨x0, x1, x2, x3, x4, x5, x6, x7⟩)
  have HE0 : Hid (Ext w2 w2.drew) := Lib.hid (Ext.refl w2).drew
  go_upto_region 3 with (fail)
  go_cut [7, 8] (fun p q w' => ∃ (b1 b2 : Nat) (a1 : Option Addr) (c1 : Nat) (a2 : Option Addr) (c2 : Nat) (p1 q1 p2 q2 : Nat), p = .pointer (some ⟨b1, 0, none⟩) ∧ q = .pointer (some ⟨b2, 0, none⟩) ∧ Hid (Two 47 3 45 w2 w' [.int .i64 s.cq, .int .i64 s.cd, .int .i64 s.cw, .int .i64 s.cr, .int .i64 s.cf, .int .i64 s.flows, .slice a1 s.nodes.length c1, .int .i64 s.tok] [.int .i64 s.cq, .int .i64 s.cd, .int .i64 s.cw, .int .i64 s.cr, .int .i64 s.cf, .int .i64 s.flows, .slice a2 s.nodes.length c2, .int .i64 s.tok] s.nodes b1 b2 (.slice a1 s.nodes.length c1) (.slice a2 s.nodes.length c2) p1 q1 p2 q2))
  case first =>
    refine wp_region_held_drew (S := (fun w' => w'.cell? ⟨w.heap.size, 0, none⟩ = some (.int .i64 s.cq) ∧ w'.cell? ⟨w.heap.size, 1, none⟩ = some (.int .i64 s.cd) ∧ w'.cell? ⟨w.heap.size, 2, none⟩ = some (.int .i64 s.cw) ∧ w'.cell? ⟨w.heap.size, 3, none⟩ = some (.int .i64 s.cr) ∧ w'.cell? ⟨w.heap.size, 4, none⟩ = some (.int .i64 s.cf) ∧ w'.cell? ⟨w.heap.size, 5, none⟩ = some (.int .i64 s.flows) ∧ w'.cell? ⟨w.heap.size, 6, none⟩ = some (.slice a s.nodes.length c) ∧ w'.cell? ⟨w.heap.size, 7, none⟩ = some (.int .i64 s.tok))) (by kernel_rfl) ?_ (fun hHeld => ?_)
    · (try dsimp only)
      exact HS.out _ HE0.out
    refine take_w 0 (some 16) (v := ?_) (by kernel_rfl) (by kernel_rfl) (by kernel_rfl) (by kernel_rfl) (by kernel_rfl) (fun _ _ _ h => h) (by rfl) ?_ (by assumption) ?_
    rotate_left
    · (intro w hSw; (try dsimp only at hSw); go_simp; try with_reducible rfl)
    try simp only [Act.put, List.setIfInBounds_toArray, List.set_cons_zero, List.set_cons_succ]
    refine take_w 2 (some 18) (v := ?_) (by kernel_rfl) (by kernel_rfl) (by kernel_rfl) (by kernel_rfl) (by kernel_rfl) (fun _ _ _ h => h) (by rfl) ?_ (by assumption) ?_
    rotate_left
    · (intro w hSw; (try dsimp only at hSw); go_simp; try with_reducible rfl)
    try simp only [Act.put, List.setIfInBounds_toArray, List.set_cons_zero, List.set_cons_succ]
    have hs0 : w2.heap.size ≤ (w2.drew).heap.size := Nat.le_refl _
    generalize w2.drew = D0 at *
    refine ready_three 1 4 5 (by kernel_rfl) (by kernel_rfl) (by kernel_rfl) (by kernel_rfl) (by rfl) (by rfl) (by rfl) (fun Kc hKc => ?_) (fun Kc hKc => ?_) (fun Kc hKc => ?_)
    · go_simp
      refine (HCp.out _ HE0.out).mono ?_
      rintro e D1 ⟨a1, c1, rfl, hC, hE⟩
      have HE1 := Lib.hid (HE0.out.trans hE)
      have F1_1 := Lib.hid hC.top
      have hs1 := hE.size
      clear hC hE
      try go_wp2_with fail
      refine hKc.out _ _ ?_ (fun hHeld => ?_)
      · (try dsimp only)
        exact HS.out _ HE1.out
      clear hKc Kc
      try simp only [Act.put, List.setIfInBounds_toArray, List.set_cons_zero, List.set_cons_succ]
      refine ready_three 3 4 5 (by kernel_rfl) (by kernel_rfl) (by kernel_rfl) (by kernel_rfl) (by rfl) (by rfl) (by rfl) (fun Kc hKc => ?_) (fun Kc hKc => ?_) (fun Kc hKc => ?_)
      · go_simp
        refine (HCp.out _ HE1.out).mono ?_
        rintro e D2 ⟨a3, c3, rfl, hC, hE⟩
        have HE2 := Lib.hid (HE1.out.trans hE)
        have F3_2 := Lib.hid hC.top
        have F1_2 := Lib.hid (F1_1.out.ext hE)
        have hs2 := hE.size
        clear hC hE
        try go_wp2_with fail
        refine hKc.out _ _ ?_ (fun hHeld => ?_)
        · (try dsimp only)
          exact HS.out _ HE2.out
        clear hKc Kc
        try simp only [Act.put, List.setIfInBounds_toArray, List.set_cons_zero, List.set_cons_succ]
        refine ready_two 4 5 (by kernel_rfl) (by kernel_rfl) (by kernel_rfl) (by rfl) (by rfl) (fun Kc hKc => ?_) (fun Kc hKc => ?_)
        · go_simp
          have HE3 := Lib.hid (HE2.out.alloc (.cells #[.int .i64 0, .int .i64 0, .int .i64 0, .int .i64 0, .int .i64 0, .int .i64 0, .slice none 0 0, .int .i64 0] 26))
          have F4_3 : Hid (BoxL (D2.alloc (.cells #[.int .i64 0, .int .i64 0, .int .i64 0, .int .i64 0, .int .i64 0, .int .i64 0, .slice none 0 0, .int .i64 0] 26)) D2.heap.size [.int .i64 0, .int .i64 0, .int .i64 0, .int .i64 0, .int .i64 0, .int .i64 0, .slice none 0 0, .int .i64 0]) := Lib.hid (BoxL.new D2 [.int .i64 0, .int .i64 0, .int .i64 0, .int .i64 0, .int .i64 0, .int .i64 0, .slice none 0 0, .int .i64 0] _)
          have F3_3 := Lib.hid (F3_2.out.ext ((Ext.refl D2).alloc (.cells #[.int .i64 0, .int .i64 0, .int .i64 0, .int .i64 0, .int .i64 0, .int .i64 0, .slice none 0 0, .int .i64 0] 26)))
          have F1_3 := Lib.hid (F1_2.out.ext ((Ext.refl D2).alloc (.cells #[.int .i64 0, .int .i64 0, .int .i64 0, .int .i64 0, .int .i64 0, .int .i64 0, .slice none 0 0, .int .i64 0] 26)))
          have hs3 : D2.heap.size < (D2.alloc (.cells #[.int .i64 0, .int .i64 0, .int .i64 0, .int .i64 0, .int .i64 0, .int .i64 0, .slice none 0 0, .int .i64 0] 26)).heap.size := by simp
          refine hKc.out _ _ ?_ (fun hHeld => ?_)
          · (try dsimp only)
            exact HS.out _ HE3.out
          clear hKc Kc
          try simp only [Act.put, List.setIfInBounds_toArray, List.set_cons_zero, List.set_cons_succ]
          generalize D2.alloc (.cells #[.int .i64 0, .int .i64 0, .int .i64 0, .int .i64 0, .int .i64 0, .int .i64 0, .slice none 0 0, .int .i64 0] 26) = D3 at *
          refine ready_one 5 (by kernel_rfl) (by kernel_rfl) (by rfl) (fun Kc hKc => ?_)
          go_simp
          have HE4 := Lib.hid (HE3.out.alloc (.cells #[.int .i64 0, .int .i64 0, .int .i64 0, .int .i64 0, .int .i64 0, .int .i64 0, .slice none 0 0, .int .i64 0] 26))
          have F5_4 : Hid (BoxL (D3.alloc (.cells #[.int .i64 0, .int .i64 0, .int .i64 0, .int .i64 0, .int .i64 0, .int .i64 0, .slice none 0 0, .int .i64 0] 26)) D3.heap.size [.int .i64 0, .int .i64 0, .int .i64 0, .int .i64 0, .int .i64 0, .int .i64 0, .slice none 0 0, .int .i64 0]) := Lib.hid (BoxL.new D3 [.int .i64 0, .int .i64 0, .int .i64 0, .int .i64 0, .int .i64 0, .int .i64 0, .slice none 0 0, .int .i64 0] _)
          have F4_4 := Lib.hid (F4_3.out.ext ((Ext.refl D3).alloc (.cells #[.int .i64 0, .int .i64 0, .int .i64 0, .int .i64 0, .int .i64 0, .int .i64 0, .slice none 0 0, .int .i64 0] 26)))
          have F3_4 := Lib.hid (F3_3.out.ext ((Ext.refl D3).alloc (.cells #[.int .i64 0, .int .i64 0, .int .i64 0, .int .i64 0, .int .i64 0, .int .i64 0, .slice none 0 0, .int .i64 0] 26)))
          have F1_4 := Lib.hid (F1_3.out.ext ((Ext.refl D3).alloc (.cells #[.int .i64 0, .int .i64 0, .int .i64 0, .int .i64 0, .int .i64 0, .int .i64 0, .slice none 0 0, .int .i64 0] 26)))
          have hs4 : D3.heap.size < (D3.alloc (.cells #[.int .i64 0, .int .i64 0, .int .i64 0, .int .i64 0, .int .i64 0, .int .i64 0, .slice none 0 0, .int .i64 0] 26)).heap.size := by simp
          refine hKc.out _ _ ?_ (fun hHeld => ?_)
          · (try dsimp only)
            exact HS.out _ HE4.out
          clear hKc Kc
          try simp only [Act.put, List.setIfInBounds_toArray, List.set_cons_zero, List.set_cons_succ]
          generalize D3.alloc (.cells #[.int .i64 0, .int .i64 0, .int .i64 0, .int .i64 0, .int .i64 0, .int .i64 0, .slice none 0 0, .int .i64 0] 26) = D4 at *
          have hne : D2.heap.size ≠ D3.heap.size := by omega
          have HT := Lib.hid (two_of (u1 := [.int .i64 s.cq, .int .i64 s.cd, .int .i64 s.cw, .int .i64 s.cr, .int .i64 s.cf, .int .i64 s.flows, .slice a1 s.nodes.length c1, .int .i64 s.tok]) (u2 := [.int .i64 s.cq, .int .i64 s.cd, .int .i64 s.cw, .int .i64 s.cr, .int .i64 s.cf, .int .i64 s.flows, .slice a3 s.nodes.length c3, .int .i64 s.tok]) HE4.out F4_4.out F5_4.out F1_4.out F3_4.out (by simp) (by simp) (by omega) (by omega) hne (by omega) (by omega) (by omega) (by omega) (by omega) (by omega))
          have HT1 := Lib.hid (F4_4.out.there (n := 8) (by simp))
          have HT2 := Lib.hid ((F5_4.out.kept (setCells_grown D2.heap.size [.int .i64 s.cq, .int .i64 s.cd, .int .i64 s.cw, .int .i64 s.cr, .int .i64 s.cf, .int .i64 s.flows, .slice a1 s.nodes.length c1, .int .i64 s.tok] 0 D4) (fun e => by injection e with e; exact hne e)).there (n := 8) (by simp))
          have HE5 := Lib.hid (HE4.out.grown (setCells_grown D2.heap.size [.int .i64 s.cq, .int .i64 s.cd, .int .i64 s.cw, .int .i64 s.cr, .int .i64 s.cf, .int .i64 s.flows, .slice a1 s.nodes.length c1, .int .i64 s.tok] 0 D4) (fun k hk => by injection hk with hk; omega))
          have HE6 := Lib.hid (HE5.out.grown (setCells_grown D3.heap.size [.int .i64 s.cq, .int .i64 s.cd, .int .i64 s.cw, .int .i64 s.cr, .int .i64 s.cf, .int .i64 s.flows, .slice a3 s.nodes.length c3, .int .i64 s.tok] 0 (D4.setCells D2.heap.size 0 [.int .i64 s.cq, .int .i64 s.cd, .int .i64 s.cw, .int .i64 s.cr, .int .i64 s.cf, .int .i64 s.flows, .slice a1 s.nodes.length c1, .int .i64 s.tok])) (fun k hk => by injection hk with hk; omega))
          refine ready_one 6 (by kernel_rfl) (by kernel_rfl) (by rfl) (fun Kc hKc => ?_)
          refine wp_store_mid 26 (.tmp 7) (.tmp 17) (by kernel_rfl) D2.heap.size 0 #[.int .i64 s.cq, .int .i64 s.cd, .int .i64 s.cw, .int .i64 s.cr, .int .i64 s.cf, .int .i64 s.flows, .slice a1 s.nodes.length c1, .int .i64 s.tok] (by kernel_rfl) (by kernel_rfl) HT1.out info_state (by simp [Value.oneCell']) ?_
          refine hKc.out _ _ ?_ (fun hHeld => ?_)
          · (try dsimp only)
            exact HS.out _ HE5.out
          clear hKc Kc
          try simp only [Act.put, List.setIfInBounds_toArray, List.set_cons_zero, List.set_cons_succ]
          try simp only [List.toList_toArray]
          generalize D4.setCells D2.heap.size 0 [.int .i64 s.cq, .int .i64 s.cd, .int .i64 s.cw, .int .i64 s.cr, .int .i64 s.cf, .int .i64 s.flows, .slice a1 s.nodes.length c1, .int .i64 s.tok] = D5 at *
          refine ready_one 7 (by kernel_rfl) (by kernel_rfl) (by rfl) (fun Kc hKc => ?_)
          refine wp_store_mid 26 (.tmp 8) (.tmp 19) (by kernel_rfl) D3.heap.size 0 #[.int .i64 s.cq, .int .i64 s.cd, .int .i64 s.cw, .int .i64 s.cr, .int .i64 s.cf, .int .i64 s.flows, .slice a3 s.nodes.length c3, .int .i64 s.tok] (by kernel_rfl) (by kernel_rfl) HT2.out info_state (by simp [Value.oneCell']) ?_
          refine hKc.out _ _ ?_ (fun hHeld => ?_)
          · (try dsimp only)
            exact HS.out _ HE6.out
          clear hKc Kc
          try simp only [Act.put, List.setIfInBounds_toArray, List.set_cons_zero, List.set_cons_succ]
          try simp only [List.toList_toArray]
          generalize D5.setCells D3.heap.size 0 [.int .i64 s.cq, .int .i64 s.cd, .int .i64 s.cw, .int .i64 s.cr, .int .i64 s.cf, .int .i64 s.flows, .slice a3 s.nodes.length c3, .int .i64 s.tok] = D6 at *
          refine wpAnyH_done (by kernel_rfl) ?_ _
          go_wp2_with fail
          go_meet
          case rel => exact ⟨_, _, _, _, _, _, _, _, _, _, rfl, rfl, HT⟩
        · go_simp
          have HE3 := Lib.hid (HE2.out.alloc (.cells #[.int .i64 0, .int .i64 0, .int .i64 0, .int .i64 0, .int .i64 0, .int .i64 0, .slice none 0 0, .int .i64 0] 26))
          have F5_3 : Hid (BoxL (D2.alloc (.cells #[.int .i64 0, .int .i64 0, .int .i64 0, .int .i64 0, .int .i64 0, .int .i64 0, .slice none 0 0, .int .i64 0] 26)) D2.heap.size [.int .i64 0, .int .i64 0, .int .i64 0, .int .i64 0, .int .i64 0, .int .i64 0, .slice none 0 0, .int .i64 0]) := Lib.hid (BoxL.new D2 [.int .i64 0, .int .i64 0, .int .i64 0, .int .i64 0, .int .i64 0, .int .i64 0, .slice none 0 0, .int .i64 0] _)
          have F3_3 := Lib.hid (F3_2.out.ext ((Ext.refl D2).alloc (.cells #[.int .i64 0, .int .i64 0, .int .i64 0, .int .i64 0, .int .i64 0, .int .i64 0, .slice none 0 0, .int .i64 0] 26)))
          have F1_3 := Lib.hid (F1_2.out.ext ((Ext.refl D2).alloc (.cells #[.int .i64 0, .int .i64 0, .int .i64 0, .int .i64 0, .int .i64 0, .int .i64 0, .slice none 0 0, .int .i64 0] 26)))
          have hs3 : D2.heap.size < (D2.alloc (.cells #[.int .i64 0, .int .i64 0, .int .i64 0, .int .i64 0, .int .i64 0, .int .i64 0, .slice none 0 0, .int .i64 0] 26)).heap.size := by simp
          refine hKc.out _ _ ?_ (fun hHeld => ?_)
          · (try dsimp only)
            exact HS.out _ HE3.out
          clear hKc Kc
          try simp only [Act.put, List.setIfInBounds_toArray, List.set_cons_zero, List.set_cons_succ]
          generalize D2.alloc (.cells #[.int .i64 0, .int .i64 0, .int .i64 0, .int .i64 0, .int .i64 0, .int .i64 0, .slice none 0 0, .int .i64 0] 26) = D3 at *
          refine ready_one 4 (by kernel_rfl) (by kernel_rfl) (by rfl) (fun Kc hKc => ?_)
          go_simp
          have HE4 := Lib.hid (HE3.out.alloc (.cells #[.int .i64 0, .int .i64 0, .int .i64 0, .int .i64 0, .int .i64 0, .int .i64 0, .slice none 0 0, .int .i64 0] 26))
          have F4_4 : Hid (BoxL (D3.alloc (.cells #[.int .i64 0, .int .i64 0, .int .i64 0, .int .i64 0, .int .i64 0, .int .i64 0, .slice none 0 0, .int .i64 0] 26)) D3.heap.size [.int .i64 0, .int .i64 0, .int .i64 0, .int .i64 0, .int .i64 0, .int .i64 0, .slice none 0 0, .int .i64 0]) := Lib.hid (BoxL.new D3 [.int .i64 0, .int .i64 0, .int .i64 0, .int .i64 0, .int .i64 0, .int .i64 0, .slice none 0 0, .int .i64 0] _)
          have F5_4 := Lib.hid (F5_3.out.ext ((Ext.refl D3).alloc (.cells #[.int .i64 0, .int .i64 0, .int .i64 0, .int .i64 0, .int .i64 0, .int .i64 0, .slice none 0 0, .int .i64 0] 26)))
          have F3_4 := Lib.hid (F3_3.out.ext ((Ext.refl D3).alloc (.cells #[.int .i64 0, .int .i64 0, .int .i64 0, .int .i64 0, .int .i64 0, .int .i64 0, .slice none 0 0, .int .i64 0] 26)))
          have F1_4 := Lib.hid (F1_3.out.ext ((Ext.refl D3).alloc (.cells #[.int .i64 0, .int .i64 0, .int .i64 0, .int .i64 0, .int .i64 0, .int .i64 0, .slice none 0 0, .int .i64 0] 26)))
          have hs4 : D3.heap.size < (D3.alloc (.cells #[.int .i64 0, .int .i64 0, .int .i64 0, .int .i64 0, .int .i64 0, .int .i64 0, .slice none 0 0, .int .i64 0] 26)).heap.size := by simp
          refine hKc.out _ _ ?_ (fun hHeld => ?_)
          · (try dsimp only)
            exact HS.out _ HE4.out
          clear hKc Kc
          try simp only [Act.put, List.setIfInBounds_toArray, List.set_cons_zero, List.set_cons_succ]
          generalize D3.alloc (.cells #[.int .i64 0, .int .i64 0, .int .i64 0, .int .i64 0, .int .i64 0, .int .i64 0, .slice none 0 0, .int .i64 0] 26) = D4 at *
          have hne : D3.heap.size ≠ D2.heap.size := by omega
          have HT := Lib.hid (two_of (u1 := [.int .i64 s.cq, .int .i64 s.cd, .int .i64 s.cw, .int .i64 s.cr, .int .i64 s.cf, .int .i64 s.flows, .slice a1 s.nodes.length c1, .int .i64 s.tok]) (u2 := [.int .i64 s.cq, .int .i64 s.cd, .int .i64 s.cw, .int .i64 s.cr, .int .i64 s.cf, .int .i64 s.flows, .slice a3 s.nodes.length c3, .int .i64 s.tok]) HE4.out F4_4.out F5_4.out F1_4.out F3_4.out (by simp) (by simp) (by omega) (by omega) hne (by omega) (by omega) (by omega) (by omega) (by omega) (by omega))
          have HT1 := Lib.hid (F4_4.out.there (n := 8) (by simp))
          have HT2 := Lib.hid ((F5_4.out.kept (setCells_grown D3.heap.size [.int .i64 s.cq, .int .i64 s.cd, .int .i64 s.cw, .int .i64 s.cr, .int .i64 s.cf, .int .i64 s.flows, .slice a1 s.nodes.length c1, .int .i64 s.tok] 0 D4) (fun e => by injection e with e; exact hne e)).there (n := 8) (by simp))
          have HE5 := Lib.hid (HE4.out.grown (setCells_grown D3.heap.size [.int .i64 s.cq, .int .i64 s.cd, .int .i64 s.cw, .int .i64 s.cr, .int .i64 s.cf, .int .i64 s.flows, .slice a1 s.nodes.length c1, .int .i64 s.tok] 0 D4) (fun k hk => by injection hk with hk; omega))
          have HE6 := Lib.hid (HE5.out.grown (setCells_grown D2.heap.size [.int .i64 s.cq, .int .i64 s.cd, .int .i64 s.cw, .int .i64 s.cr, .int .i64 s.cf, .int .i64 s.flows, .slice a3 s.nodes.length c3, .int .i64 s.tok] 0 (D4.setCells D3.heap.size 0 [.int .i64 s.cq, .int .i64 s.cd, .int .i64 s.cw, .int .i64 s.cr, .int .i64 s.cf, .int .i64 s.flows, .slice a1 s.nodes.length c1, .int .i64 s.tok])) (fun k hk => by injection hk with hk; omega))
          refine ready_one 6 (by kernel_rfl) (by kernel_rfl) (by rfl) (fun Kc hKc => ?_)
          refine wp_store_mid 26 (.tmp 7) (.tmp 17) (by kernel_rfl) D3.heap.size 0 #[.int .i64 s.cq, .int .i64 s.cd, .int .i64 s.cw, .int .i64 s.cr, .int .i64 s.cf, .int .i64 s.flows, .slice a1 s.nodes.length c1, .int .i64 s.tok] (by kernel_rfl) (by kernel_rfl) HT1.out info_state (by simp [Value.oneCell']) ?_
          refine hKc.out _ _ ?_ (fun hHeld => ?_)
          · (try dsimp only)
            exact HS.out _ HE5.out
          clear hKc Kc
          try simp only [Act.put, List.setIfInBounds_toArray, List.set_cons_zero, List.set_cons_succ]
          try simp only [List.toList_toArray]
          generalize D4.setCells D3.heap.size 0 [.int .i64 s.cq, .int .i64 s.cd, .int .i64 s.cw, .int .i64 s.cr, .int .i64 s.cf, .int .i64 s.flows, .slice a1 s.nodes.length c1, .int .i64 s.tok] = D5 at *
          refine ready_one 7 (by kernel_rfl) (by kernel_rfl) (by rfl) (fun Kc hKc => ?_)
          refine wp_store_mid 26 (.tmp 8) (.tmp 19) (by kernel_rfl) D2.heap.size 0 #[.int .i64 s.cq, .int .i64 s.cd, .int .i64 s.cw, .int .i64 s.cr, .int .i64 s.cf, .int .i64 s.flows, .slice a3 s.nodes.length c3, .int .i64 s.tok] (by kernel_rfl) (by kernel_rfl) HT2.out info_state (by simp [Value.oneCell']) ?_
          refine hKc.out _ _ ?_ (fun hHeld => ?_)
          · (try dsimp only)
            exact HS.out _ HE6.out
          clear hKc Kc
          try simp only [Act.put, List.setIfInBounds_toArray, List.set_cons_zero, List.set_cons_succ]
          try simp only [List.toList_toArray]
          generalize D5.setCells D2.heap.size 0 [.int .i64 s.cq, .int .i64 s.cd, .int .i64 s.cw, .int .i64 s.cr, .int .i64 s.cf, .int .i64 s.flows, .slice a3 s.nodes.length c3, .int .i64 s.tok] = D6 at *
          refine wpAnyH_done (by kernel_rfl) ?_ _
          go_wp2_with fail
          go_meet
          case rel => exact ⟨_, _, _, _, _, _, _, _, _, _, rfl, rfl, HT⟩
      · go_simp
        have HE2 := Lib.hid (HE1.out.alloc (.cells #[.int .i64 0, .int .i64 0, .int .i64 0, .int .i64 0, .int .i64 0, .int .i64 0, .slice none 0 0, .int .i64 0] 26))
        have F4_2 : Hid (BoxL (D1.alloc (.cells #[.int .i64 0, .int .i64 0, .int .i64 0, .int .i64 0, .int .i64 0, .int .i64 0, .slice none 0 0, .int .i64 0] 26)) D1.heap.size [.int .i64 0, .int .i64 0, .int .i64 0, .int .i64 0, .int .i64 0, .int .i64 0, .slice none 0 0, .int .i64 0]) := Lib.hid (BoxL.new D1 [.int .i64 0, .int .i64 0, .int .i64 0, .int .i64 0, .int .i64 0, .int .i64 0, .slice none 0 0, .int .i64 0] _)
        have F1_2 := Lib.hid (F1_1.out.ext ((Ext.refl D1).alloc (.cells #[.int .i64 0, .int .i64 0, .int .i64 0, .int .i64 0, .int .i64 0, .int .i64 0, .slice none 0 0, .int .i64 0] 26)))
        have hs2 : D1.heap.size < (D1.alloc (.cells #[.int .i64 0, .int .i64 0, .int .i64 0, .int .i64 0, .int .i64 0, .int .i64 0, .slice none 0 0, .int .i64 0] 26)).heap.size := by simp
        refine hKc.out _ _ ?_ (fun hHeld => ?_)
        · (try dsimp only)
          exact HS.out _ HE2.out
        clear hKc Kc
        try simp only [Act.put, List.setIfInBounds_toArray, List.set_cons_zero, List.set_cons_succ]
        generalize D1.alloc (.cells #[.int .i64 0, .int .i64 0, .int .i64 0, .int .i64 0, .int .i64 0, .int .i64 0, .slice none 0 0, .int .i64 0] 26) = D2 at *
        refine ready_two 3 5 (by kernel_rfl) (by kernel_rfl) (by kernel_rfl) (by rfl) (by rfl) (fun Kc hKc => ?_) (fun Kc hKc => ?_)
        · go_simp
          refine (HCp.out _ HE2.out).mono ?_
          rintro e D3 ⟨a3, c3, rfl, hC, hE⟩
          have HE3 := Lib.hid (HE2.out.trans hE)
          have F3_3 := Lib.hid hC.top
          have F4_3 := Lib.hid (F4_2.out.ext hE)
          have F1_3 := Lib.hid (F1_2.out.ext hE)
          have hs3 := hE.size
          clear hC hE
          try go_wp2_with fail
          refine hKc.out _ _ ?_ (fun hHeld => ?_)
          · (try dsimp only)
            exact HS.out _ HE3.out
          clear hKc Kc
          try simp only [Act.put, List.setIfInBounds_toArray, List.set_cons_zero, List.set_cons_succ]
          refine ready_one 5 (by kernel_rfl) (by kernel_rfl) (by rfl) (fun Kc hKc => ?_)
          go_simp
          have HE4 := Lib.hid (HE3.out.alloc (.cells #[.int .i64 0, .int .i64 0, .int .i64 0, .int .i64 0, .int .i64 0, .int .i64 0, .slice none 0 0, .int .i64 0] 26))
          have F5_4 : Hid (BoxL (D3.alloc (.cells #[.int .i64 0, .int .i64 0, .int .i64 0, .int .i64 0, .int .i64 0, .int .i64 0, .slice none 0 0, .int .i64 0] 26)) D3.heap.size [.int .i64 0, .int .i64 0, .int .i64 0, .int .i64 0, .int .i64 0, .int .i64 0, .slice none 0 0, .int .i64 0]) := Lib.hid (BoxL.new D3 [.int .i64 0, .int .i64 0, .int .i64 0, .int .i64 0, .int .i64 0, .int .i64 0, .slice none 0 0, .int .i64 0] _)
          have F3_4 := Lib.hid (F3_3.out.ext ((Ext.refl D3).alloc (.cells #[.int .i64 0, .int .i64 0, .int .i64 0, .int .i64 0, .int .i64 0, .int .i64 0, .slice none 0 0, .int .i64 0] 26)))
          have F4_4 := Lib.hid (F4_3.out.ext ((Ext.refl D3).alloc (.cells #[.int .i64 0, .int .i64 0, .int .i64 0, .int .i64 0, .int .i64 0, .int .i64 0, .slice none 0 0, .int .i64 0] 26)))
          have F1_4 := Lib.hid (F1_3.out.ext ((Ext.refl D3).alloc (.cells #[.int .i64 0, .int .i64 0, .int .i64 0, .int .i64 0, .int .i64 0, .int .i64 0, .slice none 0 0, .int .i64 0] 26)))
          have hs4 : D3.heap.size < (D3.alloc (.cells #[.int .i64 0, .int .i64 0, .int .i64 0, .int .i64 0, .int .i64 0, .int .i64 0, .slice none 0 0, .int .i64 0] 26)).heap.size := by simp
          refine hKc.out _ _ ?_ (fun hHeld => ?_)
          · (try dsimp only)
            exact HS.out _ HE4.out
          clear hKc Kc
          try simp only [Act.put, List.setIfInBounds_toArray, List.set_cons_zero, List.set_cons_succ]
          generalize D3.alloc (.cells #[.int .i64 0, .int .i64 0, .int .i64 0, .int .i64 0, .int .i64 0, .int .i64 0, .slice none 0 0, .int .i64 0] 26) = D4 at *
          have hne : D1.heap.size ≠ D3.heap.size := by omega
          have HT := Lib.hid (two_of (u1 := [.int .i64 s.cq, .int .i64 s.cd, .int .i64 s.cw, .int .i64 s.cr, .int .i64 s.cf, .int .i64 s.flows, .slice a1 s.nodes.length c1, .int .i64 s.tok]) (u2 := [.int .i64 s.cq, .int .i64 s.cd, .int .i64 s.cw, .int .i64 s.cr, .int .i64 s.cf, .int .i64 s.flows, .slice a3 s.nodes.length c3, .int .i64 s.tok]) HE4.out F4_4.out F5_4.out F1_4.out F3_4.out (by simp) (by simp) (by omega) (by omega) hne (by omega) (by omega) (by omega) (by omega) (by omega) (by omega))
          have HT1 := Lib.hid (F4_4.out.there (n := 8) (by simp))
          have HT2 := Lib.hid ((F5_4.out.kept (setCells_grown D1.heap.size [.int .i64 s.cq, .int .i64 s.cd, .int .i64 s.cw, .int .i64 s.cr, .int .i64 s.cf, .int .i64 s.flows, .slice a1 s.nodes.length c1, .int .i64 s.tok] 0 D4) (fun e => by injection e with e; exact hne e)).there (n := 8) (by simp))
          have HE5 := Lib.hid (HE4.out.grown (setCells_grown D1.heap.size [.int .i64 s.cq, .int .i64 s.cd, .int .i64 s.cw, .int .i64 s.cr, .int .i64 s.cf, .int .i64 s.flows, .slice a1 s.nodes.length c1, .int .i64 s.tok] 0 D4) (fun k hk => by injection hk with hk; omega))
          have HE6 := Lib.hid (HE5.out.grown (setCells_grown D3.heap.size [.int .i64 s.cq, .int .i64 s.cd, .int .i64 s.cw, .int .i64 s.cr, .int .i64 s.cf, .int .i64 s.flows, .slice a3 s.nodes.length c3, .int .i64 s.tok] 0 (D4.setCells D1.heap.size 0 [.int .i64 s.cq, .int .i64 s.cd, .int .i64 s.cw, .int .i64 s.cr, .int .i64 s.cf, .int .i64 s.flows, .slice a1 s.nodes.length c1, .int .i64 s.tok])) (fun k hk => by injection hk with hk; omega))
          refine ready_one 6 (by kernel_rfl) (by kernel_rfl) (by rfl) (fun Kc hKc => ?_)
          refine wp_store_mid 26 (.tmp 7) (.tmp 17) (by kernel_rfl) D1.heap.size 0 #[.int .i64 s.cq, .int .i64 s.cd, .int .i64 s.cw, .int .i64 s.cr, .int .i64 s.cf, .int .i64 s.flows, .slice a1 s.nodes.length c1, .int .i64 s.tok] (by kernel_rfl) (by kernel_rfl) HT1.out info_state (by simp [Value.oneCell']) ?_
          refine hKc.out _ _ ?_ (fun hHeld => ?_)
          · (try dsimp only)
            exact HS.out _ HE5.out
          clear hKc Kc
          try simp only [Act.put, List.setIfInBounds_toArray, List.set_cons_zero, List.set_cons_succ]
          try simp only [List.toList_toArray]
          generalize D4.setCells D1.heap.size 0 [.int .i64 s.cq, .int .i64 s.cd, .int .i64 s.cw, .int .i64 s.cr, .int .i64 s.cf, .int .i64 s.flows, .slice a1 s.nodes.length c1, .int .i64 s.tok] = D5 at *
          refine ready_one 7 (by kernel_rfl) (by kernel_rfl) (by rfl) (fun Kc hKc => ?_)
          refine wp_store_mid 26 (.tmp 8) (.tmp 19) (by kernel_rfl) D3.heap.size 0 #[.int .i64 s.cq, .int .i64 s.cd, .int .i64 s.cw, .int .i64 s.cr, .int .i64 s.cf, .int .i64 s.flows, .slice a3 s.nodes.length c3, .int .i64 s.tok] (by kernel_rfl) (by kernel_rfl) HT2.out info_state (by simp [Value.oneCell']) ?_
          refine hKc.out _ _ ?_ (fun hHeld => ?_)
          · (try dsimp only)
            exact HS.out _ HE6.out
          clear hKc Kc
          try simp only [Act.put, List.setIfInBounds_toArray, List.set_cons_zero, List.set_cons_succ]
          try simp only [List.toList_toArray]
          generalize D5.setCells D3.heap.size 0 [.int .i64 s.cq, .int .i64 s.cd, .int .i64 s.cw, .int .i64 s.cr, .int .i64 s.cf, .int .i64 s.flows, .slice a3 s.nodes.length c3, .int .i64 s.tok] = D6 at *
          refine wpAnyH_done (by kernel_rfl) ?_ _
          go_wp2_with fail
          go_meet
          case rel => exact ⟨_, _, _, _, _, _, _, _, _, _, rfl, rfl, HT⟩
        · go_simp
          have HE3 := Lib.hid (HE2.out.alloc (.cells #[.int .i64 0, .int .i64 0, .int .i64 0, .int .i64 0, .int .i64 0, .int .i64 0, .slice none 0 0, .int .i64 0] 26))
          have F5_3 : Hid (BoxL (D2.alloc (.cells #[.int .i64 0, .int .i64 0, .int .i64 0, .int .i64 0, .int .i64 0, .int .i64 0, .slice none 0 0, .int .i64 0] 26)) D2.heap.size [.int .i64 0, .int .i64 0, .int .i64 0, .int .i64 0, .int .i64 0, .int .i64 0, .slice none 0 0, .int .i64 0]) := Lib.hid (BoxL.new D2 [.int .i64 0, .int .i64 0, .int .i64 0, .int .i64 0, .int .i64 0, .int .i64 0, .slice none 0 0, .int .i64 0] _)
          have F4_3 := Lib.hid (F4_2.out.ext ((Ext.refl D2).alloc (.cells #[.int .i64 0, .int .i64 0, .int .i64 0, .int .i64 0, .int .i64 0, .int .i64 0, .slice none 0 0, .int .i64 0] 26)))
          have F1_3 := Lib.hid (F1_2.out.ext ((Ext.refl D2).alloc (.cells #[.int .i64 0, .int .i64 0, .int .i64 0, .int .i64 0, .int .i64 0, .int .i64 0, .slice none 0 0, .int .i64 0] 26)))
          have hs3 : D2.heap.size < (D2.alloc (.cells #[.int .i64 0, .int .i64 0, .int .i64 0, .int .i64 0, .int .i64 0, .int .i64 0, .slice none 0 0, .int .i64 0] 26)).heap.size := by simp
          refine hKc.out _ _ ?_ (fun hHeld => ?_)
          · (try dsimp only)
            exact HS.out _ HE3.out
          clear hKc Kc
          try simp only [Act.put, List.setIfInBounds_toArray, List.set_cons_zero, List.set_cons_succ]
          generalize D2.alloc (.cells #[.int .i64 0, .int .i64 0, .int .i64 0, .int .i64 0, .int .i64 0, .int .i64 0, .slice none 0 0, .int .i64 0] 26) = D3 at *
          refine ready_one 3 (by kernel_rfl) (by kernel_rfl) (by rfl) (fun Kc hKc => ?_)
          go_simp
          refine (HCp.out _ HE3.out).mono ?_
          rintro e D4 ⟨a3, c3, rfl, hC, hE⟩
          have HE4 := Lib.hid (HE3.out.trans hE)
          have F3_4 := Lib.hid hC.top
          have F5_4 := Lib.hid (F5_3.out.ext hE)
          have F4_4 := Lib.hid (F4_3.out.ext hE)
          have F1_4 := Lib.hid (F1_3.out.ext hE)
          have hs4 := hE.size
          clear hC hE
          try go_wp2_with fail
          refine hKc.out _ _ ?_ (fun hHeld => ?_)
          · (try dsimp only)
            exact HS.out _ HE4.out
          clear hKc Kc
          try simp only [Act.put, List.setIfInBounds_toArray, List.set_cons_zero, List.set_cons_succ]
          have hne : D1.heap.size ≠ D2.heap.size := by omega
          have HT := Lib.hid (two_of (u1 := [.int .i64 s.cq, .int .i64 s.cd, .int .i64 s.cw, .int .i64 s.cr, .int .i64 s.cf, .int .i64 s.flows, .slice a1 s.nodes.length c1, .int .i64 s.tok]) (u2 := [.int .i64 s.cq, .int .i64 s.cd, .int .i64 s.cw, .int .i64 s.cr, .int .i64 s.cf, .int .i64 s.flows, .slice a3 s.nodes.length c3, .int .i64 s.tok]) HE4.out F4_4.out F5_4.out F1_4.out F3_4.out (by simp) (by simp) (by omega) (by omega) hne (by omega) (by omega) (by omega) (by omega) (by omega) (by omega))
          have HT1 := Lib.hid (F4_4.out.there (n := 8) (by simp))
          have HT2 := Lib.hid ((F5_4.out.kept (setCells_grown D1.heap.size [.int .i64 s.cq, .int .i64 s.cd, .int .i64 s.cw, .int .i64 s.cr, .int .i64 s.cf, .int .i64 s.flows, .slice a1 s.nodes.length c1, .int .i64 s.tok] 0 D4) (fun e => by injection e with e; exact hne e)).there (n := 8) (by simp))
          have HE5 := Lib.hid (HE4.out.grown (setCells_grown D1.heap.size [.int .i64 s.cq, .int .i64 s.cd, .int .i64 s.cw, .int .i64 s.cr, .int .i64 s.cf, .int .i64 s.flows, .slice a1 s.nodes.length c1, .int .i64 s.tok] 0 D4) (fun k hk => by injection hk with hk; omega))
          have HE6 := Lib.hid (HE5.out.grown (setCells_grown D2.heap.size [.int .i64 s.cq, .int .i64 s.cd, .int .i64 s.cw, .int .i64 s.cr, .int .i64 s.cf, .int .i64 s.flows, .slice a3 s.nodes.length c3, .int .i64 s.tok] 0 (D4.setCells D1.heap.size 0 [.int .i64 s.cq, .int .i64 s.cd, .int .i64 s.cw, .int .i64 s.cr, .int .i64 s.cf, .int .i64 s.flows, .slice a1 s.nodes.length c1, .int .i64 s.tok])) (fun k hk => by injection hk with hk; omega))
          refine ready_one 6 (by kernel_rfl) (by kernel_rfl) (by rfl) (fun Kc hKc => ?_)
          refine wp_store_mid 26 (.tmp 7) (.tmp 17) (by kernel_rfl) D1.heap.size 0 #[.int .i64 s.cq, .int .i64 s.cd, .int .i64 s.cw, .int .i64 s.cr, .int .i64 s.cf, .int .i64 s.flows, .slice a1 s.nodes.length c1, .int .i64 s.tok] (by kernel_rfl) (by kernel_rfl) HT1.out info_state (by simp [Value.oneCell']) ?_
          refine hKc.out _ _ ?_ (fun hHeld => ?_)
          · (try dsimp only)
            exact HS.out _ HE5.out
          clear hKc Kc
          try simp only [Act.put, List.setIfInBounds_toArray, List.set_cons_zero, List.set_cons_succ]
          try simp only [List.toList_toArray]
          generalize D4.setCells D1.heap.size 0 [.int .i64 s.cq, .int .i64 s.cd, .int .i64 s.cw, .int .i64 s.cr, .int .i64 s.cf, .int .i64 s.flows, .slice a1 s.nodes.length c1, .int .i64 s.tok] = D5 at *
          refine ready_one 7 (by kernel_rfl) (by kernel_rfl) (by rfl) (fun Kc hKc => ?_)
          refine wp_store_mid 26 (.tmp 8) (.tmp 19) (by kernel_rfl) D2.heap.size 0 #[.int .i64 s.cq, .int .i64 s.cd, .int .i64 s.cw, .int .i64 s.cr, .int .i64 s.cf, .int .i64 s.flows, .slice a3 s.nodes.length c3, .int .i64 s.tok] (by kernel_rfl) (by kernel_rfl) HT2.out info_state (by simp [Value.oneCell']) ?_
          refine hKc.out _ _ ?_ (fun hHeld => ?_)
          · (try dsimp only)
            exact HS.out _ HE6.out
          clear hKc Kc
          try simp only [Act.put, List.setIfInBounds_toArray, List.set_cons_zero, List.set_cons_succ]
          try simp only [List.toList_toArray]
          generalize D5.setCells D2.heap.size 0 [.int .i64 s.cq, .int .i64 s.cd, .int .i64 s.cw, .int .i64 s.cr, .int .i64 s.cf, .int .i64 s.flows, .slice a3 s.nodes.length c3, .int .i64 s.tok] = D6 at *
          refine wpAnyH_done (by kernel_rfl) ?_ _
          go_wp2_with fail
          go_meet
          case rel => exact ⟨_, _, _, _, _, _, _, _, _, _, rfl, rfl, HT⟩
      · go_simp
        have HE2 := Lib.hid (HE1.out.alloc (.cells #[.int .i64 0, .int .i64 0, .int .i64 0, .int .i64 0, .int .i64 0, .int .i64 0, .slice none 0 0, .int .i64 0] 26))
        have F5_2 : Hid (BoxL (D1.alloc (.cells #[.int .i64 0, .int .i64 0, .int .i64 0, .int .i64 0, .int .i64 0, .int .i64 0, .slice none 0 0, .int .i64 0] 26)) D1.heap.size [.int .i64 0, .int .i64 0, .int .i64 0, .int .i64 0, .int .i64 0, .int .i64 0, .slice none 0 0, .int .i64 0]) := Lib.hid (BoxL.new D1 [.int .i64 0, .int .i64 0, .int .i64 0, .int .i64 0, .int .i64 0, .int .i64 0, .slice none 0 0, .int .i64 0] _)
        have F1_2 := Lib.hid (F1_1.out.ext ((Ext.refl D1).alloc (.cells #[.int .i64 0, .int .i64 0, .int .i64 0, .int .i64 0, .int .i64 0, .int .i64 0, .slice none 0 0, .int .i64 0] 26)))
        have hs2 : D1.heap.size < (D1.alloc (.cells #[.int .i64 0, .int .i64 0, .int .i64 0, .int .i64 0, .int .i64 0, .int .i64 0, .slice none 0 0, .int .i64 0] 26)).heap.size := by simp
        refine hKc.out _ _ ?_ (fun hHeld => ?_)
        · (try dsimp only)
          exact HS.out _ HE2.out
        clear hKc Kc
        try simp only [Act.put, List.setIfInBounds_toArray, List.set_cons_zero, List.set_cons_succ]
        generalize D1.alloc (.cells #[.int .i64 0, .int .i64 0, .int .i64 0, .int .i64 0, .int .i64 0, .int .i64 0, .slice none 0 0, .int .i64 0] 26) = D2 at *
        refine ready_two 3 4 (by kernel_rfl) (by kernel_rfl) (by kernel_rfl) (by rfl) (by rfl) (fun Kc hKc => ?_) (fun Kc hKc => ?_)
        · go_simp
          refine (HCp.out _ HE2.out).mono ?_
          rintro e D3 ⟨a3, c3, rfl, hC, hE⟩
          have HE3 := Lib.hid (HE2.out.trans hE)
          have F3_3 := Lib.hid hC.top
          have F5_3 := Lib.hid (F5_2.out.ext hE)
          have F1_3 := Lib.hid (F1_2.out.ext hE)
          have hs3 := hE.size
          clear hC hE
          try go_wp2_with fail
          refine hKc.out _ _ ?_ (fun hHeld => ?_)
          · (try dsimp only)
            exact HS.out _ HE3.out
          clear hKc Kc
          try simp only [Act.put, List.setIfInBounds_toArray, List.set_cons_zero, List.set_cons_succ]
          refine ready_one 4 (by kernel_rfl) (by kernel_rfl) (by rfl) (fun Kc hKc => ?_)
          go_simp
          have HE4 := Lib.hid (HE3.out.alloc (.cells #[.int .i64 0, .int .i64 0, .int .i64 0, .int .i64 0, .int .i64 0, .int .i64 0, .slice none 0 0, .int .i64 0] 26))
          have F4_4 : Hid (BoxL (D3.alloc (.cells #[.int .i64 0, .int .i64 0, .int .i64 0, .int .i64 0, .int .i64 0, .int .i64 0, .slice none 0 0, .int .i64 0] 26)) D3.heap.size [.int .i64 0, .int .i64 0, .int .i64 0, .int .i64 0, .int .i64 0, .int .i64 0, .slice none 0 0, .int .i64 0]) := Lib.hid (BoxL.new D3 [.int .i64 0, .int .i64 0, .int .i64 0, .int .i64 0, .int .i64 0, .int .i64 0, .slice none 0 0, .int .i64 0] _)
          have F3_4 := Lib.hid (F3_3.out.ext ((Ext.refl D3).alloc (.cells #[.int .i64 0, .int .i64 0, .int .i64 0, .int .i64 0, .int .i64 0, .int .i64 0, .slice none 0 0, .int .i64 0] 26)))
          have F5_4 := Lib.hid (F5_3.out.ext ((Ext.refl D3).alloc (.cells #[.int .i64 0, .int .i64 0, .int .i64 0, .int .i64 0, .int .i64 0, .int .i64 0, .slice none 0 0, .int .i64 0] 26)))
          have F1_4 := Lib.hid (F1_3.out.ext ((Ext.refl D3).alloc (.cells #[.int .i64 0, .int .i64 0, .int .i64 0, .int .i64 0, .int .i64 0, .int .i64 0, .slice none 0 0, .int .i64 0] 26)))
          have hs4 : D3.heap.size < (D3.alloc (.cells #[.int .i64 0, .int .i64 0, .int .i64 0, .int .i64 0, .int .i64 0, .int .i64 0, .slice none 0 0, .int .i64 0] 26)).heap.size := by simp
          refine hKc.out _ _ ?_ (fun hHeld => ?_)
          · (try dsimp only)
            exact HS.out _ HE4.out
          clear hKc Kc
          try simp only [Act.put, List.setIfInBounds_toArray, List.set_cons_zero, List.set_cons_succ]
          generalize D3.alloc (.cells #[.int .i64 0, .int .i64 0, .int .i64 0, .int .i64 0, .int .i64 0, .int .i64 0, .slice none 0 0, .int .i64 0] 26) = D4 at *
          have hne : D3.heap.size ≠ D1.heap.size := by omega
          have HT := Lib.hid (two_of (u1 := [.int .i64 s.cq, .int .i64 s.cd, .int .i64 s.cw, .int .i64 s.cr, .int .i64 s.cf, .int .i64 s.flows, .slice a1 s.nodes.length c1, .int .i64 s.tok]) (u2 := [.int .i64 s.cq, .int .i64 s.cd, .int .i64 s.cw, .int .i64 s.cr, .int .i64 s.cf, .int .i64 s.flows, .slice a3 s.nodes.length c3, .int .i64 s.tok]) HE4.out F4_4.out F5_4.out F1_4.out F3_4.out (by simp) (by simp) (by omega) (by omega) hne (by omega) (by omega) (by omega) (by omega) (by omega) (by omega))
          have HT1 := Lib.hid (F4_4.out.there (n := 8) (by simp))
          have HT2 := Lib.hid ((F5_4.out.kept (setCells_grown D3.heap.size [.int .i64 s.cq, .int .i64 s.cd, .int .i64 s.cw, .int .i64 s.cr, .int .i64 s.cf, .int .i64 s.flows, .slice a1 s.nodes.length c1, .int .i64 s.tok] 0 D4) (fun e => by injection e with e; exact hne e)).there (n := 8) (by simp))
          have HE5 := Lib.hid (HE4.out.grown (setCells_grown D3.heap.size [.int .i64 s.cq, .int .i64 s.cd, .int .i64 s.cw, .int .i64 s.cr, .int .i64 s.cf, .int .i64 s.flows, .slice a1 s.nodes.length c1, .int .i64 s.tok] 0 D4) (fun k hk => by injection hk with hk; omega))
          have HE6 := Lib.hid (HE5.out.grown (setCells_grown D1.heap.size [.int .i64 s.cq, .int .i64 s.cd, .int .i64 s.cw, .int .i64 s.cr, .int .i64 s.cf, .int .i64 s.flows, .slice a3 s.nodes.length c3, .int .i64 s.tok] 0 (D4.setCells D3.heap.size 0 [.int .i64 s.cq, .int .i64 s.cd, .int .i64 s.cw, .int .i64 s.cr, .int .i64 s.cf, .int .i64 s.flows, .slice a1 s.nodes.length c1, .int .i64 s.tok])) (fun k hk => by injection hk with hk; omega))
          refine ready_one 6 (by kernel_rfl) (by kernel_rfl) (by rfl) (fun Kc hKc => ?_)
          refine wp_store_mid 26 (.tmp 7) (.tmp 17) (by kernel_rfl) D3.heap.size 0 #[.int .i64 s.cq, .int .i64 s.cd, .int .i64 s.cw, .int .i64 s.cr, .int .i64 s.cf, .int .i64 s.flows, .slice a1 s.nodes.length c1, .int .i64 s.tok] (by kernel_rfl) (by kernel_rfl) HT1.out info_state (by simp [Value.oneCell']) ?_
          refine hKc.out _ _ ?_ (fun hHeld => ?_)
          · (try dsimp only)
            exact HS.out _ HE5.out
          clear hKc Kc
          try simp only [Act.put, List.setIfInBounds_toArray, List.set_cons_zero, List.set_cons_succ]
          try simp only [List.toList_toArray]
          generalize D4.setCells D3.heap.size 0 [.int .i64 s.cq, .int .i64 s.cd, .int .i64 s.cw, .int .i64 s.cr, .int .i64 s.cf, .int .i64 s.flows, .slice a1 s.nodes.length c1, .int .i64 s.tok] = D5 at *
          refine ready_one 7 (by kernel_rfl) (by kernel_rfl) (by rfl) (fun Kc hKc => ?_)
          refine wp_store_mid 26 (.tmp 8) (.tmp 19) (by kernel_rfl) D1.heap.size 0 #[.int .i64 s.cq, .int .i64 s.cd, .int .i64 s.cw, .int .i64 s.cr, .int .i64 s.cf, .int .i64 s.flows, .slice a3 s.nodes.length c3, .int .i64 s.tok] (by kernel_rfl) (by kernel_rfl) HT2.out info_state (by simp [Value.oneCell']) ?_
          refine hKc.out _ _ ?_ (fun hHeld => ?_)
          · (try dsimp only)
            exact HS.out _ HE6.out
          clear hKc Kc
          try simp only [Act.put, List.setIfInBounds_toArray, List.set_cons_zero, List.set_cons_succ]
          try simp only [List.toList_toArray]
          generalize D5.setCells D1.heap.size 0 [.int .i64 s.cq, .int .i64 s.cd, .int .i64 s.cw, .int .i64 s.cr, .int .i64 s.cf, .int .i64 s.flows, .slice a3 s.nodes.length c3, .int .i64 s.tok] = D6 at *
          refine wpAnyH_done (by kernel_rfl) ?_ _
          go_wp2_with fail
          go_meet
          case rel => exact ⟨_, _, _, _, _, _, _, _, _, _, rfl, rfl, HT⟩
        · go_simp
          have HE3 := Lib.hid (HE2.out.alloc (.cells #[.int .i64 0, .int .i64 0, .int .i64 0, .int .i64 0, .int .i64 0, .int .i64 0, .slice none 0 0, .int .i64 0] 26))
          have F4_3 : Hid (BoxL (D2.alloc (.cells #[.int .i64 0, .int .i64 0, .int .i64 0, .int .i64 0, .int .i64 0, .int .i64 0, .slice none 0 0, .int .i64 0] 26)) D2.heap.size [.int .i64 0, .int .i64 0, .int .i64 0, .int .i64 0, .int .i64 0, .int .i64 0, .slice none 0 0, .int .i64 0]) := Lib.hid (BoxL.new D2 [.int .i64 0, .int .i64 0, .int .i64 0, .int .i64 0, .int .i64 0, .int .i64 0, .slice none 0 0, .int .i64 0] _)
          have F5_3 := Lib.hid (F5_2.out.ext ((Ext.refl D2).alloc (.cells #[.int .i64 0, .int .i64 0, .int .i64 0, .int .i64 0, .int .i64 0, .int .i64 0, .slice none 0 0, .int .i64 0] 26)))
          have F1_3 := Lib.hid (F1_2.out.ext ((Ext.refl D2).alloc (.cells #[.int .i64 0, .int .i64 0, .int .i64 0, .int .i64 0, .int .i64 0, .int .i64 0, .slice none 0 0, .int .i64 0] 26)))
          have hs3 : D2.heap.size < (D2.alloc (.cells #[.int .i64 0, .int .i64 0, .int .i64 0, .int .i64 0, .int .i64 0, .int .i64 0, .slice none 0 0, .int .i64 0] 26)).heap.size := by simp
          refine hKc.out _ _ ?_ (fun hHeld => ?_)
          · (try dsimp only)
            exact HS.out _ HE3.out
          clear hKc Kc
          try simp only [Act.put, List.setIfInBounds_toArray, List.set_cons_zero, List.set_cons_succ]
          generalize D2.alloc (.cells #[.int .i64 0, .int .i64 0, .int .i64 0, .int .i64 0, .int .i64 0, .int .i64 0, .slice none 0 0, .int .i64 0] 26) = D3 at *
          refine ready_one 3 (by kernel_rfl) (by kernel_rfl) (by rfl) (fun Kc hKc => ?_)
          go_simp
          refine (HCp.out _ HE3.out).mono ?_
          rintro e D4 ⟨a3, c3, rfl, hC, hE⟩
          have HE4 := Lib.hid (HE3.out.trans hE)
          have F3_4 := Lib.hid hC.top
          have F4_4 := Lib.hid (F4_3.out.ext hE)
          have F5_4 := Lib.hid (F5_3.out.ext hE)
          have F1_4 := Lib.hid (F1_3.out.ext hE)
          have hs4 := hE.size
          clear hC hE
          try go_wp2_with fail
          refine hKc.out _ _ ?_ (fun hHeld => ?_)
          · (try dsimp only)
            exact HS.out _ HE4.out
          clear hKc Kc
          try simp only [Act.put, List.setIfInBounds_toArray, List.set_cons_zero, List.set_cons_succ]
          have hne : D2.heap.size ≠ D1.heap.size := by omega
          have HT := Lib.hid (two_of (u1 := [.int .i64 s.cq, .int .i64 s.cd, .int .i64 s.cw, .int .i64 s.cr, .int .i64 s.cf, .int .i64 s.flows, .slice a1 s.nodes.length c1, .int .i64 s.tok]) (u2 := [.int .i64 s.cq, .int .i64 s.cd, .int .i64 s.cw, .int .i64 s.cr, .int .i64 s.cf, .int .i64 s.flows, .slice a3 s.nodes.length c3, .int .i64 s.tok]) HE4.out F4_4.out F5_4.out F1_4.out F3_4.out (by simp) (by simp) (by omega) (by omega) hne (by omega) (by omega) (by omega) (by omega) (by omega) (by omega))
          have HT1 := Lib.hid (F4_4.out.there (n := 8) (by simp))
          have HT2 := Lib.hid ((F5_4.out.kept (setCells_grown D2.heap.size [.int .i64 s.cq, .int .i64 s.cd, .int .i64 s.cw, .int .i64 s.cr, .int .i64 s.cf, .int .i64 s.flows, .slice a1 s.nodes.length c1, .int .i64 s.tok] 0 D4) (fun e => by injection e with e; exact hne e)).there (n := 8) (by simp))
          have HE5 := Lib.hid (HE4.out.grown (setCells_grown D2.heap.size [.int .i64 s.cq, .int .i64 s.cd, .int .i64 s.cw, .int .i64 s.cr, .int .i64 s.cf, .int .i64 s.flows, .slice a1 s.nodes.length c1, .int .i64 s.tok] 0 D4) (fun k hk => by injection hk with hk; omega))
          have HE6 := Lib.hid (HE5.out.grown (setCells_grown D1.heap.size [.int .i64 s.cq, .int .i64 s.cd, .int .i64 s.cw, .int .i64 s.cr, .int .i64 s.cf, .int .i64 s.flows, .slice a3 s.nodes.length c3, .int .i64 s.tok] 0 (D4.setCells D2.heap.size 0 [.int .i64 s.cq, .int .i64 s.cd, .int .i64 s.cw, .int .i64 s.cr, .int .i64 s.cf, .int .i64 s.flows, .slice a1 s.nodes.length c1, .int .i64 s.tok])) (fun k hk => by injection hk with hk; omega))
          refine ready_one 6 (by kernel_rfl) (by kernel_rfl) (by rfl) (fun Kc hKc => ?_)
          refine wp_store_mid 26 (.tmp 7) (.tmp 17) (by kernel_rfl) D2.heap.size 0 #[.int .i64 s.cq, .int .i64 s.cd, .int .i64 s.cw, .int .i64 s.cr, .int .i64 s.cf, .int .i64 s.flows, .slice a1 s.nodes.length c1, .int .i64 s.tok] (by kernel_rfl) (by kernel_rfl) HT1.out info_state (by simp [Value.oneCell']) ?_
          refine hKc.out _ _ ?_ (fun hHeld => ?_)
          · (try dsimp only)
            exact HS.out _ HE5.out
          clear hKc Kc
          try simp only [Act.put, List.setIfInBounds_toArray, List.set_cons_zero, List.set_cons_succ]
          try simp only [List.toList_toArray]
          generalize D4.setCells D2.heap.size 0 [.int .i64 s.cq, .int .i64 s.cd, .int .i64 s.cw, .int .i64 s.cr, .int .i64 s.cf, .int .i64 s.flows, .slice a1 s.nodes.length c1, .int .i64 s.tok] = D5 at *
          refine ready_one 7 (by kernel_rfl) (by kernel_rfl) (by rfl) (fun Kc hKc => ?_)
          refine wp_store_mid 26 (.tmp 8) (.tmp 19) (by kernel_rfl) D1.heap.size 0 #[.int .i64 s.cq, .int .i64 s.cd, .int .i64 s.cw, .int .i64 s.cr, .int .i64 s.cf, .int .i64 s.flows, .slice a3 s.nodes.length c3, .int .i64 s.tok] (by kernel_rfl) (by kernel_rfl) HT2.out info_state (by simp [Value.oneCell']) ?_
          refine hKc.out _ _ ?_ (fun hHeld => ?_)
          · (try dsimp only)
            exact HS.out _ HE6.out
          clear hKc Kc
          try simp only [Act.put, List.setIfInBounds_toArray, List.set_cons_zero, List.set_cons_succ]
          try simp only [List.toList_toArray]
          generalize D5.setCells D1.heap.size 0 [.int .i64 s.cq, .int .i64 s.cd, .int .i64 s.cw, .int .i64 s.cr, .int .i64 s.cf, .int .i64 s.flows, .slice a3 s.nodes.length c3, .int .i64 s.tok] = D6 at *
          refine wpAnyH_done (by kernel_rfl) ?_ _
          go_wp2_with fail
          go_meet
          case rel => exact ⟨_, _, _, _, _, _, _, _, _, _, rfl, rfl, HT⟩
    · go_simp
      have HE1 := Lib.hid (HE0.out.alloc (.cells #[.int .i64 0, .int .i64 0, .int .i64 0, .int .i64 0, .int .i64 0, .int .i64 0, .slice none 0 0, .int .i64 0] 26))
      have F4_1 : Hid (BoxL (D0.alloc (.cells #[.int .i64 0, .int .i64 0, .int .i64 0, .int .i64 0, .int .i64 0, .int .i64 0, .slice none 0 0, .int .i64 0] 26)) D0.heap.size [.int .i64 0, .int .i64 0, .int .i64 0, .int .i64 0, .int .i64 0, .int .i64 0, .slice none 0 0, .int .i64 0]) := Lib.hid (BoxL.new D0 [.int .i64 0, .int .i64 0, .int .i64 0, .int .i64 0, .int .i64 0, .int .i64 0, .slice none 0 0, .int .i64 0] _)
      have hs1 : D0.heap.size < (D0.alloc (.cells #[.int .i64 0, .int .i64 0, .int .i64 0, .int .i64 0, .int .i64 0, .int .i64 0, .slice none 0 0, .int .i64 0] 26)).heap.size := by simp
      refine hKc.out _ _ ?_ (fun hHeld => ?_)
      · (try dsimp only)
        exact HS.out _ HE1.out
      clear hKc Kc
      try simp only [Act.put, List.setIfInBounds_toArray, List.set_cons_zero, List.set_cons_succ]
      generalize D0.alloc (.cells #[.int .i64 0, .int .i64 0, .int .i64 0, .int .i64 0, .int .i64 0, .int .i64 0, .slice none 0 0, .int .i64 0] 26) = D1 at *
      refine ready_two 1 5 (by kernel_rfl) (by kernel_rfl) (by kernel_rfl) (by rfl) (by rfl) (fun Kc hKc => ?_) (fun Kc hKc => ?_)
      · go_simp
        refine (HCp.out _ HE1.out).mono ?_
        rintro e D2 ⟨a1, c1, rfl, hC, hE⟩
        have HE2 := Lib.hid (HE1.out.trans hE)
        have F1_2 := Lib.hid hC.top
        have F4_2 := Lib.hid (F4_1.out.ext hE)
        have hs2 := hE.size
        clear hC hE
        try go_wp2_with fail
        refine hKc.out _ _ ?_ (fun hHeld => ?_)
        · (try dsimp only)
          exact HS.out _ HE2.out
        clear hKc Kc
        try simp only [Act.put, List.setIfInBounds_toArray, List.set_cons_zero, List.set_cons_succ]
        refine ready_two 3 5 (by kernel_rfl) (by kernel_rfl) (by kernel_rfl) (by rfl) (by rfl) (fun Kc hKc => ?_) (fun Kc hKc => ?_)
        · go_simp
          refine (HCp.out _ HE2.out).mono ?_
          rintro e D3 ⟨a3, c3, rfl, hC, hE⟩
          have HE3 := Lib.hid (HE2.out.trans hE)
          have F3_3 := Lib.hid hC.top
          have F1_3 := Lib.hid (F1_2.out.ext hE)
          have F4_3 := Lib.hid (F4_2.out.ext hE)
          have hs3 := hE.size
          clear hC hE
          try go_wp2_with fail
          refine hKc.out _ _ ?_ (fun hHeld => ?_)
          · (try dsimp only)
            exact HS.out _ HE3.out
          clear hKc Kc
          try simp only [Act.put, List.setIfInBounds_toArray, List.set_cons_zero, List.set_cons_succ]
          refine ready_one 5 (by kernel_rfl) (by kernel_rfl) (by rfl) (fun Kc hKc => ?_)
          go_simp
          have HE4 := Lib.hid (HE3.out.alloc (.cells #[.int .i64 0, .int .i64 0, .int .i64 0, .int .i64 0, .int .i64 0, .int .i64 0, .slice none 0 0, .int .i64 0] 26))
          have F5_4 : Hid (BoxL (D3.alloc (.cells #[.int .i64 0, .int .i64 0, .int .i64 0, .int .i64 0, .int .i64 0, .int .i64 0, .slice none 0 0, .int .i64 0] 26)) D3.heap.size [.int .i64 0, .int .i64 0, .int .i64 0, .int .i64 0, .int .i64 0, .int .i64 0, .slice none 0 0, .int .i64 0]) := Lib.hid (BoxL.new D3 [.int .i64 0, .int .i64 0, .int .i64 0, .int .i64 0, .int .i64 0, .int .i64 0, .slice none 0 0, .int .i64 0] _)
          have F3_4 := Lib.hid (F3_3.out.ext ((Ext.refl D3).alloc (.cells #[.int .i64 0, .int .i64 0, .int .i64 0, .int .i64 0, .int .i64 0, .int .i64 0, .slice none 0 0, .int .i64 0] 26)))
          have F1_4 := Lib.hid (F1_3.out.ext ((Ext.refl D3).alloc (.cells #[.int .i64 0, .int .i64 0, .int .i64 0, .int .i64 0, .int .i64 0, .int .i64 0, .slice none 0 0, .int .i64 0] 26)))
          have F4_4 := Lib.hid (F4_3.out.ext ((Ext.refl D3).alloc (.cells #[.int .i64 0, .int .i64 0, .int .i64 0, .int .i64 0, .int .i64 0, .int .i64 0, .slice none 0 0, .int .i64 0] 26)))
          have hs4 : D3.heap.size < (D3.alloc (.cells #[.int .i64 0, .int .i64 0, .int .i64 0, .int .i64 0, .int .i64 0, .int .i64 0, .slice none 0 0, .int .i64 0] 26)).heap.size := by simp
          refine hKc.out _ _ ?_ (fun hHeld => ?_)
          · (try dsimp only)
            exact HS.out _ HE4.out
          clear hKc Kc
          try simp only [Act.put, List.setIfInBounds_toArray, List.set_cons_zero, List.set_cons_succ]
          generalize D3.alloc (.cells #[.int .i64 0, .int .i64 0, .int .i64 0, .int .i64 0, .int .i64 0, .int .i64 0, .slice none 0 0, .int .i64 0] 26) = D4 at *
          have hne : D0.heap.size ≠ D3.heap.size := by omega
          have HT := Lib.hid (two_of (u1 := [.int .i64 s.cq, .int .i64 s.cd, .int .i64 s.cw, .int .i64 s.cr, .int .i64 s.cf, .int .i64 s.flows, .slice a1 s.nodes.length c1, .int .i64 s.tok]) (u2 := [.int .i64 s.cq, .int .i64 s.cd, .int .i64 s.cw, .int .i64 s.cr, .int .i64 s.cf, .int .i64 s.flows, .slice a3 s.nodes.length c3, .int .i64 s.tok]) HE4.out F4_4.out F5_4.out F1_4.out F3_4.out (by simp) (by simp) (by omega) (by omega) hne (by omega) (by omega) (by omega) (by omega) (by omega) (by omega))
          have HT1 := Lib.hid (F4_4.out.there (n := 8) (by simp))
          have HT2 := Lib.hid ((F5_4.out.kept (setCells_grown D0.heap.size [.int .i64 s.cq, .int .i64 s.cd, .int .i64 s.cw, .int .i64 s.cr, .int .i64 s.cf, .int .i64 s.flows, .slice a1 s.nodes.length c1, .int .i64 s.tok] 0 D4) (fun e => by injection e with e; exact hne e)).there (n := 8) (by simp))
          have HE5 := Lib.hid (HE4.out.grown (setCells_grown D0.heap.size [.int .i64 s.cq, .int .i64 s.cd, .int .i64 s.cw, .int .i64 s.cr, .int .i64 s.cf, .int .i64 s.flows, .slice a1 s.nodes.length c1, .int .i64 s.tok] 0 D4) (fun k hk => by injection hk with hk; omega))
          have HE6 := Lib.hid (HE5.out.grown (setCells_grown D3.heap.size [.int .i64 s.cq, .int .i64 s.cd, .int .i64 s.cw, .int .i64 s.cr, .int .i64 s.cf, .int .i64 s.flows, .slice a3 s.nodes.length c3, .int .i64 s.tok] 0 (D4.setCells D0.heap.size 0 [.int .i64 s.cq, .int .i64 s.cd, .int .i64 s.cw, .int .i64 s.cr, .int .i64 s.cf, .int .i64 s.flows, .slice a1 s.nodes.length c1, .int .i64 s.tok])) (fun k hk => by injection hk with hk; omega))
          refine ready_one 6 (by kernel_rfl) (by kernel_rfl) (by rfl) (fun Kc hKc => ?_)
          refine wp_store_mid 26 (.tmp 7) (.tmp 17) (by kernel_rfl) D0.heap.size 0 #[.int .i64 s.cq, .int .i64 s.cd, .int .i64 s.cw, .int .i64 s.cr, .int .i64 s.cf, .int .i64 s.flows, .slice a1 s.nodes.length c1, .int .i64 s.tok] (by kernel_rfl) (by kernel_rfl) HT1.out info_state (by simp [Value.oneCell']) ?_
          refine hKc.out _ _ ?_ (fun hHeld => ?_)
          · (try dsimp only)
            exact HS.out _ HE5.out
          clear hKc Kc
          try simp only [Act.put, List.setIfInBounds_toArray, List.set_cons_zero, List.set_cons_succ]
          try simp only [List.toList_toArray]
          generalize D4.setCells D0.heap.size 0 [.int .i64 s.cq, .int .i64 s.cd, .int .i64 s.cw, .int .i64 s.cr, .int .i64 s.cf, .int .i64 s.flows, .slice a1 s.nodes.length c1, .int .i64 s.tok] = D5 at *
          refine ready_one 7 (by kernel_rfl) (by kernel_rfl) (by rfl) (fun Kc hKc => ?_)
          refine wp_store_mid 26 (.tmp 8) (.tmp 19) (by kernel_rfl) D3.heap.size 0 #[.int .i64 s.cq, .int .i64 s.cd, .int .i64 s.cw, .int .i64 s.cr, .int .i64 s.cf, .int .i64 s.flows, .slice a3 s.nodes.length c3, .int .i64 s.tok] (by kernel_rfl) (by kernel_rfl) HT2.out info_state (by simp [Value.oneCell']) ?_
          refine hKc.out _ _ ?_ (fun hHeld => ?_)
          · (try dsimp only)
            exact HS.out _ HE6.out
          clear hKc Kc
          try simp only [Act.put, List.setIfInBounds_toArray, List.set_cons_zero, List.set_cons_succ]
          try simp only [List.toList_toArray]
          generalize D5.setCells D3.heap.size 0 [.int .i64 s.cq, .int .i64 s.cd, .int .i64 s.cw, .int .i64 s.cr, .int .i64 s.cf, .int .i64 s.flows, .slice a3 s.nodes.length c3, .int .i64 s.tok] = D6 at *
          refine wpAnyH_done (by kernel_rfl) ?_ _
          go_wp2_with fail
          go_meet
          case rel => exact ⟨_, _, _, _, _, _, _, _, _, _, rfl, rfl, HT⟩
        · go_simp
          have HE3 := Lib.hid (HE2.out.alloc (.cells #[.int .i64 0, .int .i64 0, .int .i64 0, .int .i64 0, .int .i64 0, .int .i64 0, .slice none 0 0, .int .i64 0] 26))
          have F5_3 : Hid (BoxL (D2.alloc (.cells #[.int .i64 0, .int .i64 0, .int .i64 0, .int .i64 0, .int .i64 0, .int .i64 0, .slice none 0 0, .int .i64 0] 26)) D2.heap.size [.int .i64 0, .int .i64 0, .int .i64 0, .int .i64 0, .int .i64 0, .int .i64 0, .slice none 0 0, .int .i64 0]) := Lib.hid (BoxL.new D2 [.int .i64 0, .int .i64 0, .int .i64 0, .int .i64 0, .int .i64 0, .int .i64 0, .slice none 0 0, .int .i64 0] _)
          have F1_3 := Lib.hid (F1_2.out.ext ((Ext.refl D2).alloc (.cells #[.int .i64 0, .int .i64 0, .int .i64 0, .int .i64 0, .int .i64 0, .int .i64 0, .slice none 0 0, .int .i64 0] 26)))
          have F4_3 := Lib.hid (F4_2.out.ext ((Ext.refl D2).alloc (.cells #[.int .i64 0, .int .i64 0, .int .i64 0, .int .i64 0, .int .i64 0, .int .i64 0, .slice none 0 0, .int .i64 0] 26)))
          have hs3 : D2.heap.size < (D2.alloc (.cells #[.int .i64 0, .int .i64 0, .int .i64 0, .int .i64 0, .int .i64 0, .int .i64 0, .slice none 0 0, .int .i64 0] 26)).heap.size := by simp
          refine hKc.out _ _ ?_ (fun hHeld => ?_)
          · (try dsimp only)
            exact HS.out _ HE3.out
          clear hKc Kc
          try simp only [Act.put, List.setIfInBounds_toArray, List.set_cons_zero, List.set_cons_succ]
          generalize D2.alloc (.cells #[.int .i64 0, .int .i64 0, .int .i64 0, .int .i64 0, .int .i64 0, .int .i64 0, .slice none 0 0, .int .i64 0] 26) = D3 at *
          refine ready_one 3 (by kernel_rfl) (by kernel_rfl) (by rfl) (fun Kc hKc => ?_)
          go_simp
          refine (HCp.out _ HE3.out).mono ?_
          rintro e D4 ⟨a3, c3, rfl, hC, hE⟩
          have HE4 := Lib.hid (HE3.out.trans hE)
          have F3_4 := Lib.hid hC.top
          have F5_4 := Lib.hid (F5_3.out.ext hE)
          have F1_4 := Lib.hid (F1_3.out.ext hE)
          have F4_4 := Lib.hid (F4_3.out.ext hE)
          have hs4 := hE.size
          clear hC hE
          try go_wp2_with fail
          refine hKc.out _ _ ?_ (fun hHeld => ?_)
          · (try dsimp only)
            exact HS.out _ HE4.out
          clear hKc Kc
          try simp only [Act.put, List.setIfInBounds_toArray, List.set_cons_zero, List.set_cons_succ]
          have hne : D0.heap.size ≠ D2.heap.size := by omega
          have HT := Lib.hid (two_of (u1 := [.int .i64 s.cq, .int .i64 s.cd, .int .i64 s.cw, .int .i64 s.cr, .int .i64 s.cf, .int .i64 s.flows, .slice a1 s.nodes.length c1, .int .i64 s.tok]) (u2 := [.int .i64 s.cq, .int .i64 s.cd, .int .i64 s.cw, .int .i64 s.cr, .int .i64 s.cf, .int .i64 s.flows, .slice a3 s.nodes.length c3, .int .i64 s.tok]) HE4.out F4_4.out F5_4.out F1_4.out F3_4.out (by simp) (by simp) (by omega) (by omega) hne (by omega) (by omega) (by omega) (by omega) (by omega) (by omega))
          have HT1 := Lib.hid (F4_4.out.there (n := 8) (by simp))
          have HT2 := Lib.hid ((F5_4.out.kept (setCells_grown D0.heap.size [.int .i64 s.cq, .int .i64 s.cd, .int .i64 s.cw, .int .i64 s.cr, .int .i64 s.cf, .int .i64 s.flows, .slice a1 s.nodes.length c1, .int .i64 s.tok] 0 D4) (fun e => by injection e with e; exact hne e)).there (n := 8) (by simp))
          have HE5 := Lib.hid (HE4.out.grown (setCells_grown D0.heap.size [.int .i64 s.cq, .int .i64 s.cd, .int .i64 s.cw, .int .i64 s.cr, .int .i64 s.cf, .int .i64 s.flows, .slice a1 s.nodes.length c1, .int .i64 s.tok] 0 D4) (fun k hk => by injection hk with hk; omega))
          have HE6 := Lib.hid (HE5.out.grown (setCells_grown D2.heap.size [.int .i64 s.cq, .int .i64 s.cd, .int .i64 s.cw, .int .i64 s.cr, .int .i64 s.cf, .int .i64 s.flows, .slice a3 s.nodes.length c3, .int .i64 s.tok] 0 (D4.setCells D0.heap.size 0 [.int .i64 s.cq, .int .i64 s.cd, .int .i64 s.cw, .int .i64 s.cr, .int .i64 s.cf, .int .i64 s.flows, .slice a1 s.nodes.length c1, .int .i64 s.tok])) (fun k hk => by injection hk with hk; omega))
          refine ready_one 6 (by kernel_rfl) (by kernel_rfl) (by rfl) (fun Kc hKc => ?_)
          refine wp_store_mid 26 (.tmp 7) (.tmp 17) (by kernel_rfl) D0.heap.size 0 #[.int .i64 s.cq, .int .i64 s.cd, .int .i64 s.cw, .int .i64 s.cr, .int .i64 s.cf, .int .i64 s.flows, .slice a1 s.nodes.length c1, .int .i64 s.tok] (by kernel_rfl) (by kernel_rfl) HT1.out info_state (by simp [Value.oneCell']) ?_
          refine hKc.out _ _ ?_ (fun hHeld => ?_)
          · (try dsimp only)
            exact HS.out _ HE5.out
          clear hKc Kc
          try simp only [Act.put, List.setIfInBounds_toArray, List.set_cons_zero, List.set_cons_succ]
          try simp only [List.toList_toArray]
          generalize D4.setCells D0.heap.size 0 [.int .i64 s.cq, .int .i64 s.cd, .int .i64 s.cw, .int .i64 s.cr, .int .i64 s.cf, .int .i64 s.flows, .slice a1 s.nodes.length c1, .int .i64 s.tok] = D5 at *
          refine ready_one 7 (by kernel_rfl) (by kernel_rfl) (by rfl) (fun Kc hKc => ?_)
          refine wp_store_mid 26 (.tmp 8) (.tmp 19) (by kernel_rfl) D2.heap.size 0 #[.int .i64 s.cq, .int .i64 s.cd, .int .i64 s.cw, .int .i64 s.cr, .int .i64 s.cf, .int .i64 s.flows, .slice a3 s.nodes.length c3, .int .i64 s.tok] (by kernel_rfl) (by kernel_rfl) HT2.out info_state (by simp [Value.oneCell']) ?_
          refine hKc.out _ _ ?_ (fun hHeld => ?_)
          · (try dsimp only)
            exact HS.out _ HE6.out
          clear hKc Kc
          try simp only [Act.put, List.setIfInBounds_toArray, List.set_cons_zero, List.set_cons_succ]
          try simp only [List.toList_toArray]
          generalize D5.setCells D2.heap.size 0 [.int .i64 s.cq, .int .i64 s.cd, .int .i64 s.cw, .int .i64 s.cr, .int .i64 s.cf, .int .i64 s.flows, .slice a3 s.nodes.length c3, .int .i64 s.tok] = D6 at *
          refine wpAnyH_done (by kernel_rfl) ?_ _
          go_wp2_with fail
          go_meet
          case rel => exact ⟨_, _, _, _, _, _, _, _, _, _, rfl, rfl, HT⟩
      · go_simp
        have HE2 := Lib.hid (HE1.out.alloc (.cells #[.int .i64 0, .int .i64 0, .int .i64 0, .int .i64 0, .int .i64 0, .int .i64 0, .slice none 0 0, .int .i64 0] 26))
        have F5_2 : Hid (BoxL (D1.alloc (.cells #[.int .i64 0, .int .i64 0, .int .i64 0, .int .i64 0, .int .i64 0, .int .i64 0, .slice none 0 0, .int .i64 0] 26)) D1.heap.size [.int .i64 0, .int .i64 0, .int .i64 0, .int .i64 0, .int .i64 0, .int .i64 0, .slice none 0 0, .int .i64 0]) := Lib.hid (BoxL.new D1 [.int .i64 0, .int .i64 0, .int .i64 0, .int .i64 0, .int .i64 0, .int .i64 0, .slice none 0 0, .int .i64 0] _)
        have F4_2 := Lib.hid (F4_1.out.ext ((Ext.refl D1).alloc (.cells #[.int .i64 0, .int .i64 0, .int .i64 0, .int .i64 0, .int .i64 0, .int .i64 0, .slice none 0 0, .int .i64 0] 26)))
        have hs2 : D1.heap.size < (D1.alloc (.cells #[.int .i64 0, .int .i64 0, .int .i64 0, .int .i64 0, .int .i64 0, .int .i64 0, .slice none 0 0, .int .i64 0] 26)).heap.size := by simp
        refine hKc.out _ _ ?_ (fun hHeld => ?_)
        · (try dsimp only)
          exact HS.out _ HE2.out
        clear hKc Kc
        try simp only [Act.put, List.setIfInBounds_toArray, List.set_cons_zero, List.set_cons_succ]
        generalize D1.alloc (.cells #[.int .i64 0, .int .i64 0, .int .i64 0, .int .i64 0, .int .i64 0, .int .i64 0, .slice none 0 0, .int .i64 0] 26) = D2 at *
        refine ready_one 1 (by kernel_rfl) (by kernel_rfl) (by rfl) (fun Kc hKc => ?_)
        go_simp
        refine (HCp.out _ HE2.out).mono ?_
        rintro e D3 ⟨a1, c1, rfl, hC, hE⟩
        have HE3 := Lib.hid (HE2.out.trans hE)
        have F1_3 := Lib.hid hC.top
        have F5_3 := Lib.hid (F5_2.out.ext hE)
        have F4_3 := Lib.hid (F4_2.out.ext hE)
        have hs3 := hE.size
        clear hC hE
        try go_wp2_with fail
        refine hKc.out _ _ ?_ (fun hHeld => ?_)
        · (try dsimp only)
          exact HS.out _ HE3.out
        clear hKc Kc
        try simp only [Act.put, List.setIfInBounds_toArray, List.set_cons_zero, List.set_cons_succ]
        refine ready_one 3 (by kernel_rfl) (by kernel_rfl) (by rfl) (fun Kc hKc => ?_)
        go_simp
        refine (HCp.out _ HE3.out).mono ?_
        rintro e D4 ⟨a3, c3, rfl, hC, hE⟩
        have HE4 := Lib.hid (HE3.out.trans hE)
        have F3_4 := Lib.hid hC.top
        have F1_4 := Lib.hid (F1_3.out.ext hE)
        have F5_4 := Lib.hid (F5_3.out.ext hE)
        have F4_4 := Lib.hid (F4_3.out.ext hE)
        have hs4 := hE.size
        clear hC hE
        try go_wp2_with fail
        refine hKc.out _ _ ?_ (fun hHeld => ?_)
        · (try dsimp only)
          exact HS.out _ HE4.out
        clear hKc Kc
        try simp only [Act.put, List.setIfInBounds_toArray, List.set_cons_zero, List.set_cons_succ]
        have hne : D0.heap.size ≠ D1.heap.size := by omega
        have HT := Lib.hid (two_of (u1 := [.int .i64 s.cq, .int .i64 s.cd, .int .i64 s.cw, .int .i64 s.cr, .int .i64 s.cf, .int .i64 s.flows, .slice a1 s.nodes.length c1, .int .i64 s.tok]) (u2 := [.int .i64 s.cq, .int .i64 s.cd, .int .i64 s.cw, .int .i64 s.cr, .int .i64 s.cf, .int .i64 s.flows, .slice a3 s.nodes.length c3, .int .i64 s.tok]) HE4.out F4_4.out F5_4.out F1_4.out F3_4.out (by simp) (by simp) (by omega) (by omega) hne (by omega) (by omega) (by omega) (by omega) (by omega) (by omega))
        have HT1 := Lib.hid (F4_4.out.there (n := 8) (by simp))
        have HT2 := Lib.hid ((F5_4.out.kept (setCells_grown D0.heap.size [.int .i64 s.cq, .int .i64 s.cd, .int .i64 s.cw, .int .i64 s.cr, .int .i64 s.cf, .int .i64 s.flows, .slice a1 s.nodes.length c1, .int .i64 s.tok] 0 D4) (fun e => by injection e with e; exact hne e)).there (n := 8) (by simp))
        have HE5 := Lib.hid (HE4.out.grown (setCells_grown D0.heap.size [.int .i64 s.cq, .int .i64 s.cd, .int .i64 s.cw, .int .i64 s.cr, .int .i64 s.cf, .int .i64 s.flows, .slice a1 s.nodes.length c1, .int .i64 s.tok] 0 D4) (fun k hk => by injection hk with hk; omega))
        have HE6 := Lib.hid (HE5.out.grown (setCells_grown D1.heap.size [.int .i64 s.cq, .int .i64 s.cd, .int .i64 s.cw, .int .i64 s.cr, .int .i64 s.cf, .int .i64 s.flows, .slice a3 s.nodes.length c3, .int .i64 s.tok] 0 (D4.setCells D0.heap.size 0 [.int .i64 s.cq, .int .i64 s.cd, .int .i64 s.cw, .int .i64 s.cr, .int .i64 s.cf, .int .i64 s.flows, .slice a1 s.nodes.length c1, .int .i64 s.tok])) (fun k hk => by injection hk with hk; omega))
        refine ready_one 6 (by kernel_rfl) (by kernel_rfl) (by rfl) (fun Kc hKc => ?_)
        refine wp_store_mid 26 (.tmp 7) (.tmp 17) (by kernel_rfl) D0.heap.size 0 #[.int .i64 s.cq, .int .i64 s.cd, .int .i64 s.cw, .int .i64 s.cr, .int .i64 s.cf, .int .i64 s.flows, .slice a1 s.nodes.length c1, .int .i64 s.tok] (by kernel_rfl) (by kernel_rfl) HT1.out info_state (by simp [Value.oneCell']) ?_
        refine hKc.out _ _ ?_ (fun hHeld => ?_)
        · (try dsimp only)
          exact HS.out _ HE5.out
        clear hKc Kc
        try simp only [Act.put, List.setIfInBounds_toArray, List.set_cons_zero, List.set_cons_succ]
        try simp only [List.toList_toArray]
        generalize D4.setCells D0.heap.size 0 [.int .i64 s.cq, .int .i64 s.cd, .int .i64 s.cw, .int .i64 s.cr, .int .i64 s.cf, .int .i64 s.flows, .slice a1 s.nodes.length c1, .int .i64 s.tok] = D5 at *
        refine ready_one 7 (by kernel_rfl) (by kernel_rfl) (by rfl) (fun Kc hKc => ?_)
        refine wp_store_mid 26 (.tmp 8) (.tmp 19) (by kernel_rfl) D1.heap.size 0 #[.int .i64 s.cq, .int .i64 s.cd, .int .i64 s.cw, .int .i64 s.cr, .int .i64 s.cf, .int .i64 s.flows, .slice a3 s.nodes.length c3, .int .i64 s.tok] (by kernel_rfl) (by kernel_rfl) HT2.out info_state (by simp [Value.oneCell']) ?_
        refine hKc.out _ _ ?_ (fun hHeld => ?_)
        · (try dsimp only)
          exact HS.out _ HE6.out
        clear hKc Kc
        try simp only [Act.put, List.setIfInBounds_toArray, List.set_cons_zero, List.set_cons_succ]
        try simp only [List.toList_toArray]
        generalize D5.setCells D1.heap.size 0 [.int .i64 s.cq, .int .i64 s.cd, .int .i64 s.cw, .int .i64 s.cr, .int .i64 s.cf, .int .i64 s.flows, .slice a3 s.nodes.length c3, .int .i64 s.tok] = D6 at *
        refine wpAnyH_done (by kernel_rfl) ?_ _
        go_wp2_with fail
        go_meet
        case rel => exact ⟨_, _, _, _, _, _, _, _, _, _, rfl, rfl, HT⟩
    · go_simp
      have HE1 := Lib.hid (HE0.out.alloc (.cells #[.int .i64 0, .int .i64 0, .int .i64 0, .int .i64 0, .int .i64 0, .int .i64 0, .slice none 0 0, .int .i64 0] 26))
      have F5_1 : Hid (BoxL (D0.alloc (.cells #[.int .i64 0, .int .i64 0, .int .i64 0, .int .i64 0, .int .i64 0, .int .i64 0, .slice none 0 0, .int .i64 0] 26)) D0.heap.size [.int .i64 0, .int .i64 0, .int .i64 0, .int .i64 0, .int .i64 0, .int .i64 0, .slice none 0 0, .int .i64 0]) := Lib.hid (BoxL.new D0 [.int .i64 0, .int .i64 0, .int .i64 0, .int .i64 0, .int .i64 0, .int .i64 0, .slice none 0 0, .int .i64 0] _)
      have hs1 : D0.heap.size < (D0.alloc (.cells #[.int .i64 0, .int .i64 0, .int .i64 0, .int .i64 0, .int .i64 0, .int .i64 0, .slice none 0 0, .int .i64 0] 26)).heap.size := by simp
      refine hKc.out _ _ ?_ (fun hHeld => ?_)
      · (try dsimp only)
        exact HS.out _ HE1.out
      clear hKc Kc
      try simp only [Act.put, List.setIfInBounds_toArray, List.set_cons_zero, List.set_cons_succ]
      generalize D0.alloc (.cells #[.int .i64 0, .int .i64 0, .int .i64 0, .int .i64 0, .int .i64 0, .int .i64 0, .slice none 0 0, .int .i64 0] 26) = D1 at *
      refine ready_two 1 4 (by kernel_rfl) (by kernel_rfl) (by kernel_rfl) (by rfl) (by rfl) (fun Kc hKc => ?_) (fun Kc hKc => ?_)
      · go_simp
        refine (HCp.out _ HE1.out).mono ?_
        rintro e D2 ⟨a1, c1, rfl, hC, hE⟩
        have HE2 := Lib.hid (HE1.out.trans hE)
        have F1_2 := Lib.hid hC.top
        have F5_2 := Lib.hid (F5_1.out.ext hE)
        have hs2 := hE.size
        clear hC hE
        try go_wp2_with fail
        refine hKc.out _ _ ?_ (fun hHeld => ?_)
        · (try dsimp only)
          exact HS.out _ HE2.out
        clear hKc Kc
        try simp only [Act.put, List.setIfInBounds_toArray, List.set_cons_zero, List.set_cons_succ]
        refine ready_two 3 4 (by kernel_rfl) (by kernel_rfl) (by kernel_rfl) (by rfl) (by rfl) (fun Kc hKc => ?_) (fun Kc hKc => ?_)
        · go_simp
          refine (HCp.out _ HE2.out).mono ?_
          rintro e D3 ⟨a3, c3, rfl, hC, hE⟩
          have HE3 := Lib.hid (HE2.out.trans hE)
          have F3_3 := Lib.hid hC.top
          have F1_3 := Lib.hid (F1_2.out.ext hE)
          have F5_3 := Lib.hid (F5_2.out.ext hE)
          have hs3 := hE.size
          clear hC hE
          try go_wp2_with fail
          refine hKc.out _ _ ?_ (fun hHeld => ?_)
          · (try dsimp only)
            exact HS.out _ HE3.out
          clear hKc Kc
          try simp only [Act.put, List.setIfInBounds_toArray, List.set_cons_zero, List.set_cons_succ]
          refine ready_one 4 (by kernel_rfl) (by kernel_rfl) (by rfl) (fun Kc hKc => ?_)
          go_simp
          have HE4 := Lib.hid (HE3.out.alloc (.cells #[.int .i64 0, .int .i64 0, .int .i64 0, .int .i64 0, .int .i64 0, .int .i64 0, .slice none 0 0, .int .i64 0] 26))
          have F4_4 : Hid (BoxL (D3.alloc (.cells #[.int .i64 0, .int .i64 0, .int .i64 0, .int .i64 0, .int .i64 0, .int .i64 0, .slice none 0 0, .int .i64 0] 26)) D3.heap.size [.int .i64 0, .int .i64 0, .int .i64 0, .int .i64 0, .int .i64 0, .int .i64 0, .slice none 0 0, .int .i64 0]) := Lib.hid (BoxL.new D3 [.int .i64 0, .int .i64 0, .int .i64 0, .int .i64 0, .int .i64 0, .int .i64 0, .slice none 0 0, .int .i64 0] _)
          have F3_4 := Lib.hid (F3_3.out.ext ((Ext.refl D3).alloc (.cells #[.int .i64 0, .int .i64 0, .int .i64 0, .int .i64 0, .int .i64 0, .int .i64 0, .slice none 0 0, .int .i64 0] 26)))
          have F1_4 := Lib.hid (F1_3.out.ext ((Ext.refl D3).alloc (.cells #[.int .i64 0, .int .i64 0, .int .i64 0, .int .i64 0, .int .i64 0, .int .i64 0, .slice none 0 0, .int .i64 0] 26)))
          have F5_4 := Lib.hid (F5_3.out.ext ((Ext.refl D3).alloc (.cells #[.int .i64 0, .int .i64 0, .int .i64 0, .int .i64 0, .int .i64 0, .int .i64 0, .slice none 0 0, .int .i64 0] 26)))
          have hs4 : D3.heap.size < (D3.alloc (.cells #[.int .i64 0, .int .i64 0, .int .i64 0, .int .i64 0, .int .i64 0, .int .i64 0, .slice none 0 0, .int .i64 0] 26)).heap.size := by simp
          refine hKc.out _ _ ?_ (fun hHeld => ?_)
          · (try dsimp only)
            exact HS.out _ HE4.out
          clear hKc Kc
          try simp only [Act.put, List.setIfInBounds_toArray, List.set_cons_zero, List.set_cons_succ]
          generalize D3.alloc (.cells #[.int .i64 0, .int .i64 0, .int .i64 0, .int .i64 0, .int .i64 0, .int .i64 0, .slice none 0 0, .int .i64 0] 26) = D4 at *
          have hne : D3.heap.size ≠ D0.heap.size := by omega
          have HT := Lib.hid (two_of (u1 := [.int .i64 s.cq, .int .i64 s.cd, .int .i64 s.cw, .int .i64 s.cr, .int .i64 s.cf, .int .i64 s.flows, .slice a1 s.nodes.length c1, .int .i64 s.tok]) (u2 := [.int .i64 s.cq, .int .i64 s.cd, .int .i64 s.cw, .int .i64 s.cr, .int .i64 s.cf, .int .i64 s.flows, .slice a3 s.nodes.length c3, .int .i64 s.tok]) HE4.out F4_4.out F5_4.out F1_4.out F3_4.out (by simp) (by simp) (by omega) (by omega) hne (by omega) (by omega) (by omega) (by omega) (by omega) (by omega))
          have HT1 := Lib.hid (F4_4.out.there (n := 8) (by simp))
          have HT2 := Lib.hid ((F5_4.out.kept (setCells_grown D3.heap.size [.int .i64 s.cq, .int .i64 s.cd, .int .i64 s.cw, .int .i64 s.cr, .int .i64 s.cf, .int .i64 s.flows, .slice a1 s.nodes.length c1, .int .i64 s.tok] 0 D4) (fun e => by injection e with e; exact hne e)).there (n := 8) (by simp))
          have HE5 := Lib.hid (HE4.out.grown (setCells_grown D3.heap.size [.int .i64 s.cq, .int .i64 s.cd, .int .i64 s.cw, .int .i64 s.cr, .int .i64 s.cf, .int .i64 s.flows, .slice a1 s.nodes.length c1, .int .i64 s.tok] 0 D4) (fun k hk => by injection hk with hk; omega))
          have HE6 := Lib.hid (HE5.out.grown (setCells_grown D0.heap.size [.int .i64 s.cq, .int .i64 s.cd, .int .i64 s.cw, .int .i64 s.cr, .int .i64 s.cf, .int .i64 s.flows, .slice a3 s.nodes.length c3, .int .i64 s.tok] 0 (D4.setCells D3.heap.size 0 [.int .i64 s.cq, .int .i64 s.cd, .int .i64 s.cw, .int .i64 s.cr, .int .i64 s.cf, .int .i64 s.flows, .slice a1 s.nodes.length c1, .int .i64 s.tok])) (fun k hk => by injection hk with hk; omega))
          refine ready_one 6 (by kernel_rfl) (by kernel_rfl) (by rfl) (fun Kc hKc => ?_)
          refine wp_store_mid 26 (.tmp 7) (.tmp 17) (by kernel_rfl) D3.heap.size 0 #[.int .i64 s.cq, .int .i64 s.cd, .int .i64 s.cw, .int .i64 s.cr, .int .i64 s.cf, .int .i64 s.flows, .slice a1 s.nodes.length c1, .int .i64 s.tok] (by kernel_rfl) (by kernel_rfl) HT1.out info_state (by simp [Value.oneCell']) ?_
          refine hKc.out _ _ ?_ (fun hHeld => ?_)
          · (try dsimp only)
            exact HS.out _ HE5.out
          clear hKc Kc
          try simp only [Act.put, List.setIfInBounds_toArray, List.set_cons_zero, List.set_cons_succ]
          try simp only [List.toList_toArray]
          generalize D4.setCells D3.heap.size 0 [.int .i64 s.cq, .int .i64 s.cd, .int .i64 s.cw, .int .i64 s.cr, .int .i64 s.cf, .int .i64 s.flows, .slice a1 s.nodes.length c1, .int .i64 s.tok] = D5 at *
          refine ready_one 7 (by kernel_rfl) (by kernel_rfl) (by rfl) (fun Kc hKc => ?_)
          refine wp_store_mid 26 (.tmp 8) (.tmp 19) (by kernel_rfl) D0.heap.size 0 #[.int .i64 s.cq, .int .i64 s.cd, .int .i64 s.cw, .int .i64 s.cr, .int .i64 s.cf, .int .i64 s.flows, .slice a3 s.nodes.length c3, .int .i64 s.tok] (by kernel_rfl) (by kernel_rfl) HT2.out info_state (by simp [Value.oneCell']) ?_
          refine hKc.out _ _ ?_ (fun hHeld => ?_)
          · (try dsimp only)
            exact HS.out _ HE6.out
          clear hKc Kc
          try simp only [Act.put, List.setIfInBounds_toArray, List.set_cons_zero, List.set_cons_succ]
          try simp only [List.toList_toArray]
          generalize D5.setCells D0.heap.size 0 [.int .i64 s.cq, .int .i64 s.cd, .int .i64 s.cw, .int .i64 s.cr, .int .i64 s.cf, .int .i64 s.flows, .slice a3 s.nodes.length c3, .int .i64 s.tok] = D6 at *
          refine wpAnyH_done (by kernel_rfl) ?_ _
          go_wp2_with fail
          go_meet
          case rel => exact ⟨_, _, _, _, _, _, _, _, _, _, rfl, rfl, HT⟩
        · go_simp
          have HE3 := Lib.hid (HE2.out.alloc (.cells #[.int .i64 0, .int .i64 0, .int .i64 0, .int .i64 0, .int .i64 0, .int .i64 0, .slice none 0 0, .int .i64 0] 26))
          have F4_3 : Hid (BoxL (D2.alloc (.cells #[.int .i64 0, .int .i64 0, .int .i64 0, .int .i64 0, .int .i64 0, .int .i64 0, .slice none 0 0, .int .i64 0] 26)) D2.heap.size [.int .i64 0, .int .i64 0, .int .i64 0, .int .i64 0, .int .i64 0, .int .i64 0, .slice none 0 0, .int .i64 0]) := Lib.hid (BoxL.new D2 [.int .i64 0, .int .i64 0, .int .i64 0, .int .i64 0, .int .i64 0, .int .i64 0, .slice none 0 0, .int .i64 0] _)
          have F1_3 := Lib.hid (F1_2.out.ext ((Ext.refl D2).alloc (.cells #[.int .i64 0, .int .i64 0, .int .i64 0, .int .i64 0, .int .i64 0, .int .i64 0, .slice none 0 0, .int .i64 0] 26)))
          have F5_3 := Lib.hid (F5_2.out.ext ((Ext.refl D2).alloc (.cells #[.int .i64 0, .int .i64 0, .int .i64 0, .int .i64 0, .int .i64 0, .int .i64 0, .slice none 0 0, .int .i64 0] 26)))
          have hs3 : D2.heap.size < (D2.alloc (.cells #[.int .i64 0, .int .i64 0, .int .i64 0, .int .i64 0, .int .i64 0, .int .i64 0, .slice none 0 0, .int .i64 0] 26)).heap.size := by simp
          refine hKc.out _ _ ?_ (fun hHeld => ?_)
          · (try dsimp only)
            exact HS.out _ HE3.out
          clear hKc Kc
          try simp only [Act.put, List.setIfInBounds_toArray, List.set_cons_zero, List.set_cons_succ]
          generalize D2.alloc (.cells #[.int .i64 0, .int .i64 0, .int .i64 0, .int .i64 0, .int .i64 0, .int .i64 0, .slice none 0 0, .int .i64 0] 26) = D3 at *
          refine ready_one 3 (by kernel_rfl) (by kernel_rfl) (by rfl) (fun Kc hKc => ?_)
          go_simp
          refine (HCp.out _ HE3.out).mono ?_
          rintro e D4 ⟨a3, c3, rfl, hC, hE⟩
          have HE4 := Lib.hid (HE3.out.trans hE)
          have F3_4 := Lib.hid hC.top
          have F4_4 := Lib.hid (F4_3.out.ext hE)
          have F1_4 := Lib.hid (F1_3.out.ext hE)
          have F5_4 := Lib.hid (F5_3.out.ext hE)
          have hs4 := hE.size
          clear hC hE
          try go_wp2_with fail
          refine hKc.out _ _ ?_ (fun hHeld => ?_)
          · (try dsimp only)
            exact HS.out _ HE4.out
          clear hKc Kc
          try simp only [Act.put, List.setIfInBounds_toArray, List.set_cons_zero, List.set_cons_succ]
          have hne : D2.heap.size ≠ D0.heap.size := by omega
          have HT := Lib.hid (two_of (u1 := [.int .i64 s.cq, .int .i64 s.cd, .int .i64 s.cw, .int .i64 s.cr, .int .i64 s.cf, .int .i64 s.flows, .slice a1 s.nodes.length c1, .int .i64 s.tok]) (u2 := [.int .i64 s.cq, .int .i64 s.cd, .int .i64 s.cw, .int .i64 s.cr, .int .i64 s.cf, .int .i64 s.flows, .slice a3 s.nodes.length c3, .int .i64 s.tok]) HE4.out F4_4.out F5_4.out F1_4.out F3_4.out (by simp) (by simp) (by omega) (by omega) hne (by omega) (by omega) (by omega) (by omega) (by omega) (by omega))
          have HT1 := Lib.hid (F4_4.out.there (n := 8) (by simp))
          have HT2 := Lib.hid ((F5_4.out.kept (setCells_grown D2.heap.size [.int .i64 s.cq, .int .i64 s.cd, .int .i64 s.cw, .int .i64 s.cr, .int .i64 s.cf, .int .i64 s.flows, .slice a1 s.nodes.length c1, .int .i64 s.tok] 0 D4) (fun e => by injection e with e; exact hne e)).there (n := 8) (by simp))
          have HE5 := Lib.hid (HE4.out.grown (setCells_grown D2.heap.size [.int .i64 s.cq, .int .i64 s.cd, .int .i64 s.cw, .int .i64 s.cr, .int .i64 s.cf, .int .i64 s.flows, .slice a1 s.nodes.length c1, .int .i64 s.tok] 0 D4) (fun k hk => by injection hk with hk; omega))
          have HE6 := Lib.hid (HE5.out.grown (setCells_grown D0.heap.size [.int .i64 s.cq, .int .i64 s.cd, .int .i64 s.cw, .int .i64 s.cr, .int .i64 s.cf, .int .i64 s.flows, .slice a3 s.nodes.length c3, .int .i64 s.tok] 0 (D4.setCells D2.heap.size 0 [.int .i64 s.cq, .int .i64 s.cd, .int .i64 s.cw, .int .i64 s.cr, .int .i64 s.cf, .int .i64 s.flows, .slice a1 s.nodes.length c1, .int .i64 s.tok])) (fun k hk => by injection hk with hk; omega))
          refine ready_one 6 (by kernel_rfl) (by kernel_rfl) (by rfl) (fun Kc hKc => ?_)
          refine wp_store_mid 26 (.tmp 7) (.tmp 17) (by kernel_rfl) D2.heap.size 0 #[.int .i64 s.cq, .int .i64 s.cd, .int .i64 s.cw, .int .i64 s.cr, .int .i64 s.cf, .int .i64 s.flows, .slice a1 s.nodes.length c1, .int .i64 s.tok] (by kernel_rfl) (by kernel_rfl) HT1.out info_state (by simp [Value.oneCell']) ?_
          refine hKc.out _ _ ?_ (fun hHeld => ?_)
          · (try dsimp only)
            exact HS.out _ HE5.out
          clear hKc Kc
          try simp only [Act.put, List.setIfInBounds_toArray, List.set_cons_zero, List.set_cons_succ]
          try simp only [List.toList_toArray]
          generalize D4.setCells D2.heap.size 0 [.int .i64 s.cq, .int .i64 s.cd, .int .i64 s.cw, .int .i64 s.cr, .int .i64 s.cf, .int .i64 s.flows, .slice a1 s.nodes.length c1, .int .i64 s.tok] = D5 at *
          refine ready_one 7 (by kernel_rfl) (by kernel_rfl) (by rfl) (fun Kc hKc => ?_)
          refine wp_store_mid 26 (.tmp 8) (.tmp 19) (by kernel_rfl) D0.heap.size 0 #[.int .i64 s.cq, .int .i64 s.cd, .int .i64 s.cw, .int .i64 s.cr, .int .i64 s.cf, .int .i64 s.flows, .slice a3 s.nodes.length c3, .int .i64 s.tok] (by kernel_rfl) (by kernel_rfl) HT2.out info_state (by simp [Value.oneCell']) ?_
          refine hKc.out _ _ ?_ (fun hHeld => ?_)
          · (try dsimp only)
            exact HS.out _ HE6.out
          clear hKc Kc
          try simp only [Act.put, List.setIfInBounds_toArray, List.set_cons_zero, List.set_cons_succ]
          try simp only [List.toList_toArray]
          generalize D5.setCells D0.heap.size 0 [.int .i64 s.cq, .int .i64 s.cd, .int .i64 s.cw, .int .i64 s.cr, .int .i64 s.cf, .int .i64 s.flows, .slice a3 s.nodes.length c3, .int .i64 s.tok] = D6 at *
          refine wpAnyH_done (by kernel_rfl) ?_ _
          go_wp2_with fail
          go_meet
          case rel => exact ⟨_, _, _, _, _, _, _, _, _, _, rfl, rfl, HT⟩
      · go_simp
        have HE2 := Lib.hid (HE1.out.alloc (.cells #[.int .i64 0, .int .i64 0, .int .i64 0, .int .i64 0, .int .i64 0, .int .i64 0, .slice none 0 0, .int .i64 0] 26))
        have F4_2 : Hid (BoxL (D1.alloc (.cells #[.int .i64 0, .int .i64 0, .int .i64 0, .int .i64 0, .int .i64 0, .int .i64 0, .slice none 0 0, .int .i64 0] 26)) D1.heap.size [.int .i64 0, .int .i64 0, .int .i64 0, .int .i64 0, .int .i64 0, .int .i64 0, .slice none 0 0, .int .i64 0]) := Lib.hid (BoxL.new D1 [.int .i64 0, .int .i64 0, .int .i64 0, .int .i64 0, .int .i64 0, .int .i64 0, .slice none 0 0, .int .i64 0] _)
        have F5_2 := Lib.hid (F5_1.out.ext ((Ext.refl D1).alloc (.cells #[.int .i64 0, .int .i64 0, .int .i64 0, .int .i64 0, .int .i64 0, .int .i64 0, .slice none 0 0, .int .i64 0] 26)))
        have hs2 : D1.heap.size < (D1.alloc (.cells #[.int .i64 0, .int .i64 0, .int .i64 0, .int .i64 0, .int .i64 0, .int .i64 0, .slice none 0 0, .int .i64 0] 26)).heap.size := by simp
        refine hKc.out _ _ ?_ (fun hHeld => ?_)
        · (try dsimp only)
          exact HS.out _ HE2.out
        clear hKc Kc
        try simp only [Act.put, List.setIfInBounds_toArray, List.set_cons_zero, List.set_cons_succ]
        generalize D1.alloc (.cells #[.int .i64 0, .int .i64 0, .int .i64 0, .int .i64 0, .int .i64 0, .int .i64 0, .slice none 0 0, .int .i64 0] 26) = D2 at *
        refine ready_one 1 (by kernel_rfl) (by kernel_rfl) (by rfl) (fun Kc hKc => ?_)
        go_simp
        refine (HCp.out _ HE2.out).mono ?_
        rintro e D3 ⟨a1, c1, rfl, hC, hE⟩
        have HE3 := Lib.hid (HE2.out.trans hE)
        have F1_3 := Lib.hid hC.top
        have F4_3 := Lib.hid (F4_2.out.ext hE)
        have F5_3 := Lib.hid (F5_2.out.ext hE)
        have hs3 := hE.size
        clear hC hE
        try go_wp2_with fail
        refine hKc.out _ _ ?_ (fun hHeld => ?_)
        · (try dsimp only)
          exact HS.out _ HE3.out
        clear hKc Kc
        try simp only [Act.put, List.setIfInBounds_toArray, List.set_cons_zero, List.set_cons_succ]
        refine ready_one 3 (by kernel_rfl) (by kernel_rfl) (by rfl) (fun Kc hKc => ?_)
        go_simp
        refine (HCp.out _ HE3.out).mono ?_
        rintro e D4 ⟨a3, c3, rfl, hC, hE⟩
        have HE4 := Lib.hid (HE3.out.trans hE)
        have F3_4 := Lib.hid hC.top
        have F1_4 := Lib.hid (F1_3.out.ext hE)
        have F4_4 := Lib.hid (F4_3.out.ext hE)
        have F5_4 := Lib.hid (F5_3.out.ext hE)
        have hs4 := hE.size
        clear hC hE
        try go_wp2_with fail
        refine hKc.out _ _ ?_ (fun hHeld => ?_)
        · (try dsimp only)
          exact HS.out _ HE4.out
        clear hKc Kc
        try simp only [Act.put, List.setIfInBounds_toArray, List.set_cons_zero, List.set_cons_succ]
        have hne : D1.heap.size ≠ D0.heap.size := by omega
        have HT := Lib.hid (two_of (u1 := [.int .i64 s.cq, .int .i64 s.cd, .int .i64 s.cw, .int .i64 s.cr, .int .i64 s.cf, .int .i64 s.flows, .slice a1 s.nodes.length c1, .int .i64 s.tok]) (u2 := [.int .i64 s.cq, .int .i64 s.cd, .int .i64 s.cw, .int .i64 s.cr, .int .i64 s.cf, .int .i64 s.flows, .slice a3 s.nodes.length c3, .int .i64 s.tok]) HE4.out F4_4.out F5_4.out F1_4.out F3_4.out (by simp) (by simp) (by omega) (by omega) hne (by omega) (by omega) (by omega) (by omega) (by omega) (by omega))
        have HT1 := Lib.hid (F4_4.out.there (n := 8) (by simp))
        have HT2 := Lib.hid ((F5_4.out.kept (setCells_grown D1.heap.size [.int .i64 s.cq, .int .i64 s.cd, .int .i64 s.cw, .int .i64 s.cr, .int .i64 s.cf, .int .i64 s.flows, .slice a1 s.nodes.length c1, .int .i64 s.tok] 0 D4) (fun e => by injection e with e; exact hne e)).there (n := 8) (by simp))
        have HE5 := Lib.hid (HE4.out.grown (setCells_grown D1.heap.size [.int .i64 s.cq, .int .i64 s.cd, .int .i64 s.cw, .int .i64 s.cr, .int .i64 s.cf, .int .i64 s.flows, .slice a1 s.nodes.length c1, .int .i64 s.tok] 0 D4) (fun k hk => by injection hk with hk; omega))
        have HE6 := Lib.hid (HE5.out.grown (setCells_grown D0.heap.size [.int .i64 s.cq, .int .i64 s.cd, .int .i64 s.cw, .int .i64 s.cr, .int .i64 s.cf, .int .i64 s.flows, .slice a3 s.nodes.length c3, .int .i64 s.tok] 0 (D4.setCells D1.heap.size 0 [.int .i64 s.cq, .int .i64 s.cd, .int .i64 s.cw, .int .i64 s.cr, .int .i64 s.cf, .int .i64 s.flows, .slice a1 s.nodes.length c1, .int .i64 s.tok])) (fun k hk => by injection hk with hk; omega))
        refine ready_one 6 (by kernel_rfl) (by kernel_rfl) (by rfl) (fun Kc hKc => ?_)
        refine wp_store_mid 26 (.tmp 7) (.tmp 17) (by kernel_rfl) D1.heap.size 0 #[.int .i64 s.cq, .int .i64 s.cd, .int .i64 s.cw, .int .i64 s.cr, .int .i64 s.cf, .int .i64 s.flows, .slice a1 s.nodes.length c1, .int .i64 s.tok] (by kernel_rfl) (by kernel_rfl) HT1.out info_state (by simp [Value.oneCell']) ?_
        refine hKc.out _ _ ?_ (fun hHeld => ?_)
        · (try dsimp only)
          exact HS.out _ HE5.out
        clear hKc Kc
        try simp only [Act.put, List.setIfInBounds_toArray, List.set_cons_zero, List.set_cons_succ]
        try simp only [List.toList_toArray]
        generalize D4.setCells D1.heap.size 0 [.int .i64 s.cq, .int .i64 s.cd, .int .i64 s.cw, .int .i64 s.cr, .int .i64 s.cf, .int .i64 s.flows, .slice a1 s.nodes.length c1, .int .i64 s.tok] = D5 at *
        refine ready_one 7 (by kernel_rfl) (by kernel_rfl) (by rfl) (fun Kc hKc => ?_)
        refine wp_store_mid 26 (.tmp 8) (.tmp 19) (by kernel_rfl) D0.heap.size 0 #[.int .i64 s.cq, .int .i64 s.cd, .int .i64 s.cw, .int .i64 s.cr, .int .i64 s.cf, .int .i64 s.flows, .slice a3 s.nodes.length c3, .int .i64 s.tok] (by kernel_rfl) (by kernel_rfl) HT2.out info_state (by simp [Value.oneCell']) ?_
        refine hKc.out _ _ ?_ (fun hHeld => ?_)
        · (try dsimp only)
          exact HS.out _ HE6.out
        clear hKc Kc
        try simp only [Act.put, List.setIfInBounds_toArray, List.set_cons_zero, List.set_cons_succ]
        try simp only [List.toList_toArray]
        generalize D5.setCells D0.heap.size 0 [.int .i64 s.cq, .int .i64 s.cd, .int .i64 s.cw, .int .i64 s.cr, .int .i64 s.cf, .int .i64 s.flows, .slice a3 s.nodes.length c3, .int .i64 s.tok] = D6 at *
        refine wpAnyH_done (by kernel_rfl) ?_ _
        go_wp2_with fail
        go_meet
        case rel => exact ⟨_, _, _, _, _, _, _, _, _, _, rfl, rfl, HT⟩
  case rest =>
  obtain ⟨b1, b2, a1, c1, a2, c2, P1, Q1, P2, Q2, rfl, rfl, HT⟩ := hcut
  clear HCp HS HE0
  have HEQ : Hid (eqSn s s = true) := Lib.hid (eqSn_iff.2 rfl)
  have ⟨x0, x1, x2, x3, x4, x5, x6, x7⟩ := HT.out.x1.n8
  have ⟨p0, p1, p2, p3, p4, p5, p6, p7⟩ := (H2.out.ext HT.out.e).n8
  go_wp2_with fail
  refine (sSame_any s s wc _ _ ⟨_, _, _, rfl, HT.out.c1.row, HW.out⟩ (HV.out.ext (HEw.out.trans HT.out.e))).mono ?_
  rw [HEQ.out]
  rintro e w4 ⟨rfl, hE4⟩
  have HT4 := Lib.hid (HT.out.ext hE4)
  clear hE4 HT x0 x1 x2 x3 x4 x5 x6 x7 p0 p1 p2 p3 p4 p5 p6 p7
  have ⟨x0, x1, x2, x3, x4, x5, x6, x7⟩ := HT4.out.x2.n8
  have ⟨p0, p1, p2, p3, p4, p5, p6, p7⟩ := (H2.out.ext HT4.out.e).n8
  go_wp2_with fail
  refine (sSame_any s s w4 _ _ (HV.out.ext (HEw.out.trans HT4.out.e)) ⟨_, _, _, rfl, HT4.out.c2.row, HW.out⟩).mono ?_
  rw [HEQ.out]
  rintro e w5 ⟨rfl, hE5⟩
  have HT5 := Lib.hid (HT4.out.ext hE5)
  clear hE5 HT4 x0 x1 x2 x3 x4 x5 x6 x7 p0 p1 p2 p3 p4 p5 p6 p7
  have hcv : IntKind.i64.wrap (At : Int) = (At : Int) := IntWalk.i64_in _ (by omega)
  go_wp2_with fail
  refine (turned_any s w5 P1 Q1 b1 a1 c1 (OpT w2 b1 b2 P2 Q2) HT5.out.x1 HT5.out.c1 HT5.out.openB HT5.out.openN OpT.shut HF.out HW.out At hAl Wh hwl).mono ?_
  rintro e w6 (⟨rfl, hE6⟩ | ⟨rfl, s', a', c', hne, hwf', hx1, hrig, hkeep⟩)
  · have HE6 := Lib.hid (HEw.out.trans (HT5.out.e.trans hE6))
    clear hE6 HT5
    go_wp2_with fail
    refine (awake11 _).mono ?_
    rintro e wz ⟨rfl, hEz⟩
    have HEz := Lib.hid (HE6.out.trans hEz)
    clear hEz
    go_wp2
    go_ret
    exact ⟨rfl, HEz.out⟩
  have HA6 := Lib.hid (HT5.out.aft hkeep)
  have HX6 := Lib.hid hx1
  have HR6 := Lib.hid hrig
  have HW' := Lib.hid hwf'
  have HN1 : Hid (eqSn s' s = false) := Lib.hid (by
    cases h : eqSn s' s with
    | false => rfl
    | true => exact absurd (eqSn_iff.1 h) hne)
  have HN2 : Hid (eqSn s s' = false) := Lib.hid (by
    cases h : eqSn s s' with
    | false => rfl
    | true => exact absurd (eqSn_iff.1 h).symm hne)
  clear hkeep hx1 hrig hwf' hne HT5 hcv
  have ⟨x0, x1, x2, x3, x4, x5, x6, x7⟩ := HX6.out.n8
  have ⟨y0, y1, y2, y3, y4, y5, y6, y7⟩ := HA6.out.x2.n8
  go_wp2_with fail
  refine (sSame_any s' s w6 _ _ ⟨_, _, _, rfl, HR6.out.row, HW'.out⟩ ⟨_, _, _, rfl, HA6.out.c2.row, HW.out⟩).mono ?_
  rw [HN1.out]
  rintro e w7 ⟨rfl, hE7⟩
  have HA7 := Lib.hid (HA6.out.ext hE7)
  have HX7 := Lib.hid (HX6.out.ext hE7)
  have HR7 := Lib.hid (HR6.out.ext hE7)
  clear hE7 HA6 HX6 HR6 x0 x1 x2 x3 x4 x5 x6 x7 y0 y1 y2 y3 y4 y5 y6 y7
  have ⟨x0, x1, x2, x3, x4, x5, x6, x7⟩ := HX7.out.n8
  have ⟨y0, y1, y2, y3, y4, y5, y6, y7⟩ := HA7.out.x2.n8
  go_wp2_with fail
  refine (sSame_any s s' w7 _ _ ⟨_, _, _, rfl, HA7.out.c2.row, HW.out⟩ ⟨_, _, _, rfl, HR7.out.row, HW'.out⟩).mono ?_
  rw [HN2.out]
  rintro e w8 ⟨rfl, hE8⟩
  have HA8 := Lib.hid (HA7.out.ext hE8)
  have HX8 := Lib.hid (HX7.out.ext hE8)
  have HR8 := Lib.hid (HR7.out.ext hE8)
  clear hE8 HA7 HX7 HR7 x0 x1 x2 x3 x4 x5 x6 x7 y0 y1 y2 y3 y4 y5 y6 y7
  have ⟨y0, y1, y2, y3, y4, y5, y6, y7⟩ := HA8.out.x2.n8
  have ⟨p0, p1, p2, p3, p4, p5, p6, p7⟩ := (H2.out.ext HA8.out.e).n8
  go_wp2_with fail
  refine (sSame_any s s w8 _ _ ⟨_, _, _, rfl, HA8.out.c2.row, HW.out⟩ (HV.out.ext (HEw.out.trans HA8.out.e))).mono ?_
  rw [HEQ.out]
  rintro e w9 ⟨rfl, hE9⟩
  have HA9 := Lib.hid (HA8.out.ext hE9)
  have HX9 := Lib.hid (HX8.out.ext hE9)
  have HR9 := Lib.hid (HR8.out.ext hE9)
  clear hE9 HA8 HX8 HR8 y0 y1 y2 y3 y4 y5 y6 y7 p0 p1 p2 p3 p4 p5 p6 p7
  obtain ⟨g, cs, HG⟩ : ∃ (g : Nat) (cs : List (List Value)), Hid (0 < s'.nodes.length → a' = some ⟨g, 0, none⟩ ∧ cs.length = s'.nodes.length ∧ Lp 47 3 45 w2 w9 [.int .i64 s'.cq, .int .i64 s'.cd, .int .i64 s'.cw, .int .i64 s'.cr, .int .i64 s'.cf, .int .i64 s'.flows, .slice a' s'.nodes.length c', .int .i64 s'.tok] [.int .i64 s.cq, .int .i64 s.cd, .int .i64 s.cw, .int .i64 s.cr, .int .i64 s.cf, .int .i64 s.flows, .slice a2 s.nodes.length c2, .int .i64 s.tok] s.nodes b1 b2 (.slice a2 s.nodes.length c2) P2 Q2 g c' cs) := by
    by_cases h : 0 < s'.nodes.length
    · obtain ⟨g, cs, q1, q2, q3⟩ := HR9.out.lp HA9.out HX9.out h
      exact ⟨g, cs, Lib.hid (fun _ => ⟨q1, q2, q3⟩)⟩
    · exact ⟨0, [], Lib.hid (fun q => absurd q h)⟩
  have hnl : s'.nodes.length ≤ 9223372036854775807 := by
    obtain ⟨_, _, q, _⟩ := HR9.out.row.slice
    exact HR9.out.row.length_le
  clear HN1 HN2 HR9 HW'
  have ⟨x0, x1, x2, x3, x4, x5, x6, x7⟩ := HX9.out.n8
  go_wp2_with fail
  clear x0 x1 x2 x3 x4 x5 x6 x7
  have HLp : Hid (0 < s'.nodes.length → Lp 47 3 45 w2 w9 [.int .i64 s'.cq, .int .i64 s'.cd, .int .i64 s'.cw, .int .i64 s'.cr, .int .i64 s'.cf, .int .i64 s'.flows, .slice a' s'.nodes.length c', .int .i64 s'.tok] [.int .i64 s.cq, .int .i64 s.cd, .int .i64 s.cw, .int .i64 s.cr, .int .i64 s.cf, .int .i64 s.flows, .slice a2 s.nodes.length c2, .int .i64 s.tok] s.nodes b1 b2 (.slice a2 s.nodes.length c2) P2 Q2 g c' cs) := Lib.hid (fun h => (HG.out h).2.2)
  have HGa : Hid (0 < s'.nodes.length → a' = some ⟨g, 0, none⟩ ∧ cs.length = s'.nodes.length) := Lib.hid (fun h => ⟨(HG.out h).1, (HG.out h).2.1⟩)
  clear HG
  go_loopw [53] (fun i wr => ∃ j : Nat, j ≤ s'.nodes.length ∧ i = .int .i64 j ∧ Hid (Aft 47 3 45 w2 wr [.int .i64 s.cq, .int .i64 s.cd, .int .i64 s.cw, .int .i64 s.cr, .int .i64 s.cf, .int .i64 s.flows, .slice a2 s.nodes.length c2, .int .i64 s.tok] s.nodes b1 b2 (.slice a2 s.nodes.length c2) P2 Q2) ∧
    Hid (0 < s'.nodes.length → Lp 47 3 45 w2 wr [.int .i64 s'.cq, .int .i64 s'.cd, .int .i64 s'.cw, .int .i64 s'.cr, .int .i64 s'.cf, .int .i64 s'.flows, .slice a' s'.nodes.length c', .int .i64 s'.tok] [.int .i64 s.cq, .int .i64 s.cd, .int .i64 s.cw, .int .i64 s.cr, .int .i64 s.cf, .int .i64 s.flows, .slice a2 s.nodes.length c2, .int .i64 s.tok] s.nodes b1 b2 (.slice a2 s.nodes.length c2) P2 Q2 g c' cs)) (fun i _ => s'.nodes.length - (intOf i).toNat)
  case atStart => exact ⟨0, by omega, rfl, HA9, HLp⟩
  case round =>
  clear HA9 HX9 HLp
  obtain ⟨j, hj, rfl, HA, HL⟩ := hrel
  by_cases hlt : j < s'.nodes.length
  case neg =>
    have hje : ¬ ((j : Int) < (s'.nodes.length : Int)) := by omega
    have ⟨y0, y1, y2, y3, y4, y5, y6, y7⟩ := HA.out.x2.n8
    have ⟨p0, p1, p2, p3, p4, p5, p6, p7⟩ := (H2.out.ext HA.out.e).n8
    clear HL
    go_wp2_with fail
    refine (sSame_any s s wr _ _ ⟨_, _, _, rfl, HA.out.c2.row, HW.out⟩ (HV.out.ext (HEw.out.trans HA.out.e))).mono ?_
    rw [HEQ.out]
    rintro e wy ⟨rfl, hEy⟩
    have HEy := Lib.hid (HEw.out.trans (HA.out.e.trans hEy))
    clear hEy HA y0 y1 y2 y3 y4 y5 y6 y7 p0 p1 p2 p3 p4 p5 p6 p7
    go_wp2_with fail
    refine (awake11 _).mono ?_
    rintro e wz ⟨rfl, hEz⟩
    have HEz := Lib.hid (HEy.out.trans hEz)
    clear hEz
    go_wp2
    go_ret
    exact ⟨rfl, HEz.out⟩
  have hpos : 0 < s'.nodes.length := by omega
  obtain ⟨ha', hcl⟩ := HGa.out hpos
  subst ha'
  have hjc : j < cs.length := by omega
  have HJC := Lib.hid hjc
  have HL0 := Lib.hid (HL.out hpos)
  clear HL HA hcl hjc
  obtain ⟨wo, rfl⟩ : ∃ wo : World, wo = wr := ⟨_, rfl⟩
  obtain ⟨e16, ⟨fa, fm, fc, ef, hfm, -⟩, ⟨ga, gm, gc, eg, hgm, -⟩⟩ := HL0.out.s j HJC.out
  have HEF := Lib.hid ef
  have HEG := Lib.hid eg
  clear ef eg e16
  have hj0 : (0 : Int) ≤ (j : Int) := by omega
  have hj1 : (j : Int) < (s'.nodes.length : Int) := by omega
  have x6 : wo.cell? ⟨b1, 6, none⟩ = some (.slice (some ⟨g, 0, none⟩) s'.nodes.length c') := HL0.out.x1.cell 6 _ rfl
  have q6 : wo.cell? ⟨g, j * 16 + 6, none⟩ = some (.slice fa fm fc) := by rw [(HL0.out.at j HJC.out).1, HEF.out]
  go_wp2_with fail
  clear x6 q6
  go_loopw [63] (fun i wr => ∃ k : Nat, k ≤ fm ∧ i = .int .i64 k ∧ Hid (Lp 47 3 45 w2 wr [.int .i64 s'.cq, .int .i64 s'.cd, .int .i64 s'.cw, .int .i64 s'.cr, .int .i64 s'.cf, .int .i64 s'.flows, .slice (some ⟨g, 0, none⟩) s'.nodes.length c', .int .i64 s'.tok] [.int .i64 s.cq, .int .i64 s.cd, .int .i64 s.cw, .int .i64 s.cr, .int .i64 s.cf, .int .i64 s.flows, .slice a2 s.nodes.length c2, .int .i64 s.tok] s.nodes b1 b2 (.slice a2 s.nodes.length c2) P2 Q2 g c' cs)) (fun i _ => fm - (intOf i).toNat)
  case atStart => exact ⟨0, by omega, rfl, HL0⟩
  case round =>
  obtain ⟨k, hk, rfl, HL⟩ := hrel
  clear HL0
  have x6 : wr.cell? ⟨b1, 6, none⟩ = some (.slice (some ⟨g, 0, none⟩) s'.nodes.length c') := HL.out.x1.cell 6 _ rfl
  by_cases hkl : k < fm
  case pos =>
    obtain ⟨fb, rfl, hob, hbg, hhas⟩ : ∃ fb, fa = some ⟨fb, 0, none⟩ ∧ OpT w2 b1 b2 P2 Q2 fb ∧ fb ≠ g ∧ Has wr fb (fm * 1) := by
      obtain ⟨_, ⟨fa', fm', fc', ef', -, hop⟩, -⟩ := HL.out.s j HJC.out
      rw [HEF.out] at ef'
      injection ef' with r1 r2 r3
      subst r1 r2 r3
      obtain ⟨fb, r4, r5, r6, -, r8⟩ := hop (by omega)
      exact ⟨fb, r4, r5, r6, r8⟩
    obtain ⟨⟨uz, huz⟩, hfz⟩ := hhas.2 k (by omega)
    have q6 : wr.cell? ⟨g, j * 16 + 6, none⟩ = some (.slice (some ⟨fb, 0, none⟩) fm fc) := by rw [(HL.out.at j HJC.out).1, HEF.out]
    have hk0 : (0 : Int) ≤ (k : Int) := by omega
    have hk1 : (k : Int) < (fm : Int) := by omega
    have HLn := Lib.hid (HL.out.set hob hbg k (.int .i64 77))
    clear hhas HL hob hbg
    go_wp2_with fail
    clear x6 q6 huz hfz
    generalize wr.setCell ⟨fb, k, none⟩ (.int .i64 77) = wz at *
    go_roundw
    case rel => exact ⟨k + 1, by omega, by go_num, HLn⟩
    case measure => simp [intOf]; omega
  have hkx : ¬ ((k : Int) < (fm : Int)) := by omega
  have q15 : wr.cell? ⟨g, j * 16 + 12 + 3, none⟩ = some (.slice ga gm gc) := by rw [(HL.out.at j HJC.out).2, HEG.out]
  go_wp2_with fail
  clear x6 q15
  obtain ⟨wp, rfl⟩ : ∃ wp : World, wp = wr := ⟨_, rfl⟩
  go_loopw [83] (fun i wr => ∃ k : Nat, k ≤ gm ∧ i = .int .i64 k ∧ Hid (Lp 47 3 45 w2 wr [.int .i64 s'.cq, .int .i64 s'.cd, .int .i64 s'.cw, .int .i64 s'.cr, .int .i64 s'.cf, .int .i64 s'.flows, .slice (some ⟨g, 0, none⟩) s'.nodes.length c', .int .i64 s'.tok] [.int .i64 s.cq, .int .i64 s.cd, .int .i64 s.cw, .int .i64 s.cr, .int .i64 s.cf, .int .i64 s.flows, .slice a2 s.nodes.length c2, .int .i64 s.tok] s.nodes b1 b2 (.slice a2 s.nodes.length c2) P2 Q2 g c' cs)) (fun i _ => gm - (intOf i).toNat)
  case atStart => exact ⟨0, by omega, rfl, HL⟩
  case round =>
  clear HL hkx
  obtain ⟨k2, hk2, rfl, HL⟩ := hrel
  have x6 : wr.cell? ⟨b1, 6, none⟩ = some (.slice (some ⟨g, 0, none⟩) s'.nodes.length c') := HL.out.x1.cell 6 _ rfl
  by_cases hkl2 : k2 < gm
  case pos =>
    obtain ⟨gb, rfl, hob, hbg, hhas⟩ : ∃ gb, ga = some ⟨gb, 0, none⟩ ∧ OpT w2 b1 b2 P2 Q2 gb ∧ gb ≠ g ∧ Has wr gb (gm * 4) := by
      obtain ⟨_, -, ⟨ga', gm', gc', eg', -, hop⟩⟩ := HL.out.s j HJC.out
      rw [HEG.out] at eg'
      injection eg' with r1 r2 r3
      subst r1 r2 r3
      obtain ⟨gb, r4, r5, r6, -, r8⟩ := hop (by omega)
      exact ⟨gb, r4, r5, r6, r8⟩
    obtain ⟨⟨uz0, huz0⟩, hfz0⟩ := hhas.2 (k2 * 4) (by omega)
    obtain ⟨⟨uz1, huz1⟩, hfz1⟩ := hhas.2 (k2 * 4 + 1) (by omega)
    obtain ⟨⟨uz2, huz2⟩, hfz2⟩ := hhas.2 (k2 * 4 + 2) (by omega)
    obtain ⟨⟨uz3, huz3⟩, hfz3⟩ := hhas.2 (k2 * 4 + 3) (by omega)
    have q15 : wr.cell? ⟨g, j * 16 + 12 + 3, none⟩ = some (.slice (some ⟨gb, 0, none⟩) gm gc) := by rw [(HL.out.at j HJC.out).2, HEG.out]
    have hk0 : (0 : Int) ≤ (k2 : Int) := by omega
    have hk1 : (k2 : Int) < (gm : Int) := by omega
    have HLn := Lib.hid ((((HL.out.set hob hbg (k2 * 4) (.int .u8 0)).set hob hbg (k2 * 4 + 1) (.int .i64 77)).set hob hbg (k2 * 4 + 2) (.string { data := #[] })).set hob hbg (k2 * 4 + 3) (.slice none 0 0))
    clear hhas HL hob hbg
    go_wp2_with fail
    clear x6 q15 huz0 hfz0 huz1 hfz1 huz2 hfz2 huz3 hfz3
    generalize (((wr.setCell ⟨gb, k2 * 4, none⟩ (.int .u8 0)).setCell ⟨gb, k2 * 4 + 1, none⟩ (.int .i64 77)).setCell ⟨gb, k2 * 4 + 2, none⟩ (.string { data := #[] })).setCell ⟨gb, k2 * 4 + 3, none⟩ (.slice none 0 0) = wz at *
    go_roundw
    case rel => exact ⟨k2 + 1, by omega, by go_num, HLn⟩
    case measure => simp [intOf]; omega
  have hkx : ¬ ((k2 : Int) < (gm : Int)) := by omega
  go_wp2_with fail
  clear x6
  go_roundw
  case rel => exact ⟨j + 1, by omega, by go_num, Lib.hid HL.out.a, Lib.hid (fun _ => HL.out)⟩
  case measure => simp [intOf]; omega
end Go.Proofs.YtdienbcjfljjnaaDoor
