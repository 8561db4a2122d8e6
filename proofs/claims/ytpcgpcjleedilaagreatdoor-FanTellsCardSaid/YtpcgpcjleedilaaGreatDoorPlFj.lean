/- The examples of chapter 18: plain facts. No program is imported. -/
import Derived.Test.YtpcgpcjleedilaaGreatDoorFaA
import Derived.Test.YtpcgpcjleedilaaGreatDoorTake
import Derived.Test.YtpcgpcjleedilaaGreatDoorPlFh
import Derived.Test.YtpcgpcjleedilaaGreatDoorPlI
import Derived.Maps.OwnSet
import Derived.Maps.OwnOps
import Derived.Maps.Views
import Derived.Test.YtpcgpcjleedilaaGreatDoorProg
import Derived.Carry
open Go.RowKit Go.Shelf
namespace Go.Proofs.YtpcgpcjleedilaaGreatDoor
open Go Go.Proofs Fm

theorem idP_le (p : Pth) : (idP p).length ≤ 400 := by
  unfold idP
  split
  · assumption
  · simp
theorem eachS_le (s : List UInt8) (k : Int) : (eachS s k).length ≤ 400 := by
  unfold eachS
  split
  · simp
  · split
    · simp
    · split
      · exact idP_le _
      · simp
/-- What Each comes to. -/
def EachPost (w : World) (m : Nd) (at' n : Int) (e : Ending) (w' : World) : Prop := ∃ d, e = .returned d ∧ Ext w w' ∧ CopyN 46 3 44 w.heap.size w' d (eachF m at' n)
theorem copyN_nil (eN eI eV : TypeId) (w : World) (base : Nat) (h : base ≤ w.heap.size) : CopyN eN eI eV base w (.slice none 0 0) [] :=
  ⟨[], fun _ => base, rfl, World.ownsRow_nil _ _ _ _, fun b hb => (by cases hb), Nat.le_refl _, fun i hi => (by cases hi), h, fun i hi => (by cases hi)⟩
theorem each_none {w w' : World} {m : Nd} {at' n : Int} (h : eachF m at' n = []) (hE : Ext w w') : EachPost w m at' n (.returned (.slice none 0 0)) w' :=
  ⟨_, rfl, hE, by rw [h]; exact copyN_nil _ _ _ _ _ hE.size⟩
theorem eachNd_wf {m : Nd} {at' : Int} {k : Nat} (hm : ndWf m) (hat : isI64 at') (hk : k < 100) (hs : (eachS m.id k).length ≤ 9223372036854775807) : ndWf (eachNd m at' k) := by
  obtain ⟨y1, y2, y3, y4, y5, y6, y7, y8, y9, y10, y11⟩ := hm
  have z : isI64 0 := by unfold isI64; omega
  exact ⟨hs, by simp [eachNd], y3, hat, by show isI64 (k : Int); unfold isI64; omega, z, y7, z, z, NumsT.node 0 0 [] [] z (fun t h => by cases h), fun i hi => y11 i (List.mem_of_mem_tail hi)⟩
set_option maxRecDepth 100000 in
set_option maxHeartbeats 4000000 in
theorem feach_any (m : Nd) (at' n : Int) (hat : isI64 at') (hid : m.id.length ≤ 1000000) (haf : m.after.length ≤ 1000000) (w : World) (hw : KW w) (v : Value) (h : NdV w m v) :
    Calls Tryz.prog 30 #[v, .int .i64 at', .int .i64 n] w (EachPost w m at' n) := by
  have HM := Lib.hid (fun w' (hE : Ext w w') => fmaps_any m w' v (h.ext hE))
  have hwf := h.wf
  obtain ⟨a, len, c, k, N, s, l, rfl, hr, hl, hb⟩ := h
  obtain ⟨a', c', e, hc1, hc2⟩ := hr.slice
  injection e with e1 e2 e3
  subst e1 e2 e3
  have HR := Lib.hid hr
  have HWF := Lib.hid hwf
  have HKW := Lib.hid hw
  have HAT := Lib.hid hat
  have HX := Lib.hid (show eachF m at' n = if mapsF m && decide (1 ≤ n) && decide (n ≤ 40) then (List.range n.toNat).map (eachNd m at') else [] from rfl)
  have HB := Lib.hid (BoxL.new w (ndCells m (.slice a m.after.length c) k N s l) 46)
  have HE := Lib.hid ((Ext.refl w).alloc (.cells (ndCells m (.slice a m.after.length c) k N s l).toArray 46))
  have HRA := Lib.hid (rangeAt_new w (ndCells m (.slice a m.after.length c) k N s l) 46)
  clear hr hl hb hwf hw hat
  obtain ⟨Cs, hCs⟩ : ∃ Cs, Cs = ndCells m (.slice a m.after.length c) k N s l := ⟨_, rfl⟩
  rw [← hCs] at HB HE HRA HM ⊢
  have HCo : Hid (Cs[0]? = some (.string (str m.id)) ∧ Cs[3]? = some (.int .i64 m.flow) ∧ Cs[6]? = some (.slice a m.after.length c) ∧ Cs[8]? = some (.int .i64 m.quota)) := Lib.hid (by rw [hCs]; exact ⟨rfl, rfl, rfl, rfl⟩)
  have HCl : Hid ((Tryz.prog.info? 46).map (·.size) = some Cs.length) := Lib.hid (by rw [hCs]; exact sizenode_F)
  clear hCs
  go_enter Tryz.func30, Tryz.ntmps30
  go_upto_region 1 with (fail)
  generalize w.alloc _ = W1 at *
  go_wp2_with (refine wpList_load_mid rfl _ _ rfl _ _ rfl _ _ HRA.out Tryz.underlying46 rfl HCl.out ?_)
  refine (HM.out W1 HE.out).mono ?_
  rintro e w2 ⟨rfl, hE2⟩
  have HE2 := Lib.hid (HE.out.trans hE2)
  have HB2 := Lib.hid (HB.out.ext hE2)
  clear hE2 HB HE HRA HM
  cases hmp : mapsF m with
  | false =>
    have HY := Lib.hid (show eachF m at' n = [] by rw [HX.out, hmp]; rfl)
    clear hmp HX
    go_wp2
    go_ret
    exact each_none HY.out HE2.out
  | true =>
    by_cases h1 : n < 1
    · have HY := Lib.hid (show eachF m at' n = [] by rw [HX.out, hmp, decide_eq_false (show ¬ 1 ≤ n by omega)]; rfl)
      clear hmp HX
      go_wp2
      go_ret
      exact each_none HY.out HE2.out
    · by_cases h2 : 40 < n
      · have HY := Lib.hid (show eachF m at' n = [] by rw [HX.out, hmp, decide_eq_false (show ¬ n ≤ 40 by omega), Bool.and_false]; rfl)
        clear hmp HX
        go_wp2
        go_ret
        exact each_none HY.out HE2.out
      · obtain ⟨M, rfl⟩ : ∃ M : Nat, n = (M : Int) := ⟨n.toNat, by omega⟩
        have HY := Lib.hid (show eachF m at' (M : Int) = (List.range M).map (eachNd m at') by rw [HX.out, hmp, decide_eq_true (show (1 : Int) ≤ (M : Int) by omega), decide_eq_true (show (M : Int) ≤ 40 by omega)]; rfl)
        have HNE := Lib.hid (show 1 ≤ m.after.length by
          unfold mapsF at hmp
          simp only [Bool.and_eq_true, decide_eq_true_eq] at hmp
          exact List.length_pos_iff.2 hmp.2)
        obtain ⟨w3, hrun, hown, hE3⟩ := make_nodes M (by omega) w2
        have hst := MadeN.start (eI := 3) (eV := 44) (f := eachNd m at') hown rfl (World.ownsRow.lt hown _ rfl).2 (Nat.le_refl _)
        have HST := Lib.hid hst
        have HE3 := Lib.hid (HE2.out.trans hE3)
        have HB3 := Lib.hid (HB2.out.ext hE3)
        have HM1 : Hid (1 ≤ M ∧ M ≤ 40) := Lib.hid ⟨by omega, by omega⟩
        clear hmp HX hst hown hE3
        obtain ⟨G, hG⟩ : ∃ G, G = w2.heap.size := ⟨_, rfl⟩
        have HG : Hid (w.heap.size ≤ G) := Lib.hid (by rw [hG]; exact HE2.out.size)
        have HGN : Hid (G ≠ w.heap.size) := Lib.hid (by have := HB2.out.lt; omega)
        rw [← hG] at hrun HST
        clear hG
        go_upto_region 5 with (fail)
        clear hrun
        go_loopw [23] (fun i wr => ∃ j : Nat, j ≤ M ∧ i = .int .i64 j ∧ Hid (Ext w wr) ∧ Hid (BoxL wr w.heap.size Cs) ∧ Hid (MadeN 46 3 44 G wr (.slice (some ⟨G, 0, none⟩) M M) M (eachNd m at') j)) (fun i _ => M - (intOf i).toNat)
        case atStart => exact ⟨0, by omega, rfl, HE3, HB3, HST⟩
        case round =>
          clear HE3 HB3 HST HE2 HB2
          obtain ⟨j, hj, rfl, HE, HB, HH⟩ := hrel
          by_cases hlt : j < M
          case neg =>
            obtain rfl : j = M := by omega
            have HF := Lib.hid HH.out.full
            clear HH HB
            go_wp2
            go_ret
            exact ⟨_, rfl, HE.out, by rw [HY.out]; exact HF.out.mono HG.out⟩
          have hj0 : (0 : Int) ≤ (j : Int) := by omega
          have hj1 : (j : Int) < (M : Int) := by omega
          obtain ⟨A1, L1, C1, HSI, HSrc, hL1⟩ : ∃ (A1 : Option Addr) (L1 C1 : Nat), Hid (∀ w', (Instr.slice 41 (.slice a m.after.length c) (some (.int .i64 1)) none none).run Tryz.prog w' = .ok (.slice A1 L1 C1) w') ∧
              Hid (∀ wx, Ext wr wx → Src Tryz.prog 1 41 (.slice A1 L1 C1) L1 (m.after.tail.map (Value.int .i64)) wx) ∧ L1 = m.after.tail.length := by
            have h1 := HR.out.drop (k := 1) HNE.out
            rw [List.drop_one] at h1
            refine ⟨_, _, _, Lib.hid (slice_int_from a m.after.length c 1 HNE.out), Lib.hid (fun wx hx => ?_), (List.length_tail).symm⟩
            have h2 := Src.ints Tryz.underlying41 h1 (HE.out.trans hx)
            rw [List.length_tail] at h2
            exact h2
          have HL1 := Lib.hid hL1
          have hL2 : L1 ≤ 1000000 := by rw [hL1, List.length_tail]; omega
          clear hL1
          have HCA : Hid (∀ wx, Ext wr wx → Calls Tryz.prog 20 #[.string (str m.id), .int .i64 (j : Int)] wx (fun e w' => e = .returned (.string (str (eachS m.id (j : Int)))) ∧ Ext wx w')) := Lib.hid (fun wx hx => idEach_any m.id (j : Int) (by unfold isI64; have := HM1.out; omega) hid wx (HKW.out.ext (HE.out.trans hx)))
          have HTH := Lib.hid (fun wx (hx : Ext wr wx) => (HH.out.ext hx).there hlt)
          have HS : Hid (∀ wx, Ext wr wx → (wx.cell? ⟨w.heap.size, 0, none⟩ = some (.string (str m.id)) ∧ wx.cell? ⟨w.heap.size, 3, none⟩ = some (.int .i64 m.flow) ∧ wx.cell? ⟨w.heap.size, 6, none⟩ = some (.slice a m.after.length c) ∧ wx.cell? ⟨w.heap.size, 8, none⟩ = some (.int .i64 m.quota))) := Lib.hid (fun wx hE => by
            have h := HB.out.ext hE
            exact ⟨h.cell 0 _ HCo.out.1, h.cell 3 _ HCo.out.2.1, h.cell 6 _ HCo.out.2.2.1, h.cell 8 _ HCo.out.2.2.2⟩)
          have ⟨p0, p3, p6, p8⟩ := HS.out wr (Ext.refl _)
          have hsl := HSI.out
          have HLn : Hid (∀ A C, (ndCells (eachNd m at' j) (.slice A L1 C) (.int .u8 0) (.int .i64 0) (.string { data := #[] }) (.slice none 0 0)).length = 16) := Lib.hid (fun _ _ => rfl)
          have HN1 : Hid (∀ A C u, u ∈ ndCells (eachNd m at' j) (.slice A L1 C) (.int .u8 0) (.int .i64 0) (.string { data := #[] }) (.slice none 0 0) → u.oneCell' = true) := Lib.hid (fun A C u hu => by
            simp only [ndCells, List.mem_cons, List.not_mem_nil, or_false] at hu
            rcases hu with rfl | rfl | rfl | rfl | rfl | rfl | rfl | rfl | rfl | rfl | rfl | rfl | rfl | rfl | rfl | rfl <;> rfl)
          have ED := Lib.hid (Ext.refl wr).drew
          go_upto_region 7 with (fail)
          refine wp_region_held_drew (S := (fun w' => w'.cell? ⟨w.heap.size, 0, none⟩ = some (.string (str m.id)) ∧ w'.cell? ⟨w.heap.size, 3, none⟩ = some (.int .i64 m.flow) ∧ w'.cell? ⟨w.heap.size, 6, none⟩ = some (.slice a m.after.length c) ∧ w'.cell? ⟨w.heap.size, 8, none⟩ = some (.int .i64 m.quota))) (by kernel_rfl) ?_ (fun hHeld => ?_)
          · (try dsimp only)
            (first | exact HS9.out | exact HS.out _ ED.out | exact HS.out _ E4.out | exact HS.out _ E5.out)
          refine take_w 0 (some 26) (v := ?_) (by kernel_rfl) (by kernel_rfl) (by kernel_rfl) (by kernel_rfl) (by kernel_rfl) (fun _ _ _ h => h) (by rfl) ?_ (by assumption) ?_
          rotate_left
          · (intro w hSw; (try dsimp only at hSw); go_simp; try with_reducible rfl)
          try simp only [Act.put, List.setIfInBounds_toArray, List.set_cons_zero, List.set_cons_succ]
          refine take_w 1 (some 27) (v := ?_) (by kernel_rfl) (by kernel_rfl) (by kernel_rfl) (by kernel_rfl) (by kernel_rfl) (fun _ _ _ h => h) (by rfl) ?_ (by assumption) ?_
          rotate_left
          · (intro w hSw; (try dsimp only at hSw); go_simp; try with_reducible rfl)
          try simp only [Act.put, List.setIfInBounds_toArray, List.set_cons_zero, List.set_cons_succ]
          refine take_w 2 (some 28) (v := ?_) (by kernel_rfl) (by kernel_rfl) (by kernel_rfl) (by kernel_rfl) (by kernel_rfl) (fun _ _ _ h => h) (by rfl) ?_ (by assumption) ?_
          rotate_left
          · (intro w hSw; (try dsimp only at hSw); go_simp; try with_reducible rfl)
          try simp only [Act.put, List.setIfInBounds_toArray, List.set_cons_zero, List.set_cons_succ]
          refine take_w 3 (some 29) (v := ?_) (by kernel_rfl) (by kernel_rfl) (by kernel_rfl) (by kernel_rfl) (by kernel_rfl) (fun _ _ _ h => h) (by rfl) ?_ (by assumption) ?_
          rotate_left
          · (intro w hSw; (try dsimp only at hSw); go_simp; try with_reducible rfl)
          try simp only [Act.put, List.setIfInBounds_toArray, List.set_cons_zero, List.set_cons_succ]
          refine take_w 4 (some 30) (v := ?_) (by kernel_rfl) (by kernel_rfl) (by kernel_rfl) (by kernel_rfl) (by kernel_rfl) (fun _ _ _ h => h) (by rfl) ?_ (by assumption) ?_
          rotate_left
          · (intro w hSw; (try dsimp only at hSw); go_simp; try with_reducible rfl)
          try simp only [Act.put, List.setIfInBounds_toArray, List.set_cons_zero, List.set_cons_succ]
          refine take_w 6 (some 32) (v := ?_) (by kernel_rfl) (by kernel_rfl) (by kernel_rfl) (by kernel_rfl) (by kernel_rfl) (fun _ _ _ h => h) (by rfl) ?_ (by assumption) ?_
          rotate_left
          · (intro w hSw; (try dsimp only at hSw); go_simp; try with_reducible rfl)
          try simp only [Act.put, List.setIfInBounds_toArray, List.set_cons_zero, List.set_cons_succ]
          refine take_w 7 (some 33) (v := ?_) (by kernel_rfl) (by kernel_rfl) (by kernel_rfl) (by kernel_rfl) (by kernel_rfl) (fun _ _ _ h => h) (by rfl) ?_ (by assumption) ?_
          rotate_left
          · (intro w hSw; (try dsimp only at hSw); go_simp; try with_reducible rfl)
          try simp only [Act.put, List.setIfInBounds_toArray, List.set_cons_zero, List.set_cons_succ]
          refine take_w 8 (some 34) (v := ?_) (by kernel_rfl) (by kernel_rfl) (by kernel_rfl) (by kernel_rfl) (by kernel_rfl) (fun _ _ _ h => h) (by rfl) ?_ (by assumption) ?_
          rotate_left
          · (intro w hSw; (try dsimp only at hSw); go_simp; try with_reducible rfl)
          try simp only [Act.put, List.setIfInBounds_toArray, List.set_cons_zero, List.set_cons_succ]
          refine take_w 9 (some 35) (v := ?_) (by kernel_rfl) (by kernel_rfl) (by kernel_rfl) (by kernel_rfl) (by kernel_rfl) (fun _ _ _ h => h) (by rfl) ?_ (by assumption) ?_
          rotate_left
          · (intro w hSw; (try dsimp only at hSw); go_simp; try with_reducible rfl)
          try simp only [Act.put, List.setIfInBounds_toArray, List.set_cons_zero, List.set_cons_succ]
          refine take_w 10 (some 36) (v := ?_) (by kernel_rfl) (by kernel_rfl) (by kernel_rfl) (by kernel_rfl) (by kernel_rfl) (fun _ _ _ h => h) (by rfl) ?_ (by assumption) ?_
          rotate_left
          · (intro w hSw; (try dsimp only at hSw); go_simp; try with_reducible rfl)
          try simp only [Act.put, List.setIfInBounds_toArray, List.set_cons_zero, List.set_cons_succ]
          refine take_w 11 (some 37) (v := ?_) (by kernel_rfl) (by kernel_rfl) (by kernel_rfl) (by kernel_rfl) (by kernel_rfl) (fun _ _ _ h => h) (by rfl) ?_ (by assumption) ?_
          rotate_left
          · (intro w hSw; (try dsimp only at hSw); go_simp; try with_reducible rfl)
          try simp only [Act.put, List.setIfInBounds_toArray, List.set_cons_zero, List.set_cons_succ]
          refine take_w 12 (some 38) (v := ?_) (by kernel_rfl) (by kernel_rfl) (by kernel_rfl) (by kernel_rfl) (by kernel_rfl) (fun _ _ _ h => h) (by rfl) ?_ (by assumption) ?_
          rotate_left
          · (intro w hSw; (try dsimp only at hSw); go_simp; try with_reducible rfl)
          try simp only [Act.put, List.setIfInBounds_toArray, List.set_cons_zero, List.set_cons_succ]
          refine take_w 14 (some 40) (v := ?_) (by kernel_rfl) (by kernel_rfl) (by kernel_rfl) (by kernel_rfl) (by kernel_rfl) (fun _ _ _ h => h) (by rfl) ?_ (by assumption) ?_
          rotate_left
          · (intro w hSw; (try dsimp only at hSw); go_simp; try with_reducible rfl)
          try simp only [Act.put, List.setIfInBounds_toArray, List.set_cons_zero, List.set_cons_succ]
          refine take_w 15 (some 41) (v := ?_) (by kernel_rfl) (by kernel_rfl) (by kernel_rfl) (by kernel_rfl) (by kernel_rfl) (fun _ _ _ h => h) (by rfl) ?_ (by assumption) ?_
          rotate_left
          · (intro w hSw; (try dsimp only at hSw); go_simp; try with_reducible rfl)
          try simp only [Act.put, List.setIfInBounds_toArray, List.set_cons_zero, List.set_cons_succ]
          refine ready_one 5 (by kernel_rfl) (by kernel_rfl) (by rfl) (fun Kc hKc => ?_)
          go_simp
          refine (HCA.out _ ED.out).mono ?_
          rintro e w4 ⟨rfl, hE4⟩
          have E4 := Lib.hid (ED.out.trans hE4)
          clear hE4
          try go_wp2_with fail
          refine hKc.out _ _ ?_ (fun hHeld => ?_)
          · (try dsimp only)
            (first | exact HS9.out | exact HS.out _ ED.out | exact HS.out _ E4.out | exact HS.out _ E5.out)
          clear hKc Kc
          try simp only [Act.put, List.setIfInBounds_toArray, List.set_cons_zero, List.set_cons_succ]
          refine ready_one 13 (by kernel_rfl) (by kernel_rfl) (by rfl) (fun Kc hKc => ?_)
          refine wp_appendS (.const (.slice none 0 0)) (.tmp 38) 41 (by rfl) elemint_F wr.heap.size (.slice none 0 0) 0 [] (by rfl) (World.ownsRow_nil _ _ _ _) (.slice A1 L1 C1) L1 (m.after.tail.map (Value.int .i64)) (by rfl) (HSrc.out _ E4.out) (by unfold maxLen; omega) (by omega) E4.out.size ?_
          rw [Nat.zero_add, List.nil_append]
          intro A C w5 hown hg hat5
          have E5 := Lib.hid (E4.out.grown hg (fun k hk => by cases hk))
          have HO5 := Lib.hid hown
          clear hown hg hat5
          refine hKc.out _ _ ?_ (fun hHeld => ?_)
          · (try dsimp only)
            (first | exact HS9.out | exact HS.out _ ED.out | exact HS.out _ E4.out | exact HS.out _ E5.out)
          clear hKc Kc
          try simp only [Act.put, List.setIfInBounds_toArray, List.set_cons_zero, List.set_cons_succ]
          refine take_w 16 (some 42) (v := ?_) (by kernel_rfl) (by kernel_rfl) (by kernel_rfl) (by kernel_rfl) (by kernel_rfl) (fun _ _ _ h => h) (by rfl) ?_ (by assumption) ?_
          rotate_left
          · (intro w hSw; (try dsimp only at hSw); go_simp; try with_reducible rfl)
          try simp only [Act.put, List.setIfInBounds_toArray, List.set_cons_zero, List.set_cons_succ]
          refine take_w 17 (some 43) (v := ?_) (by kernel_rfl) (by kernel_rfl) (by kernel_rfl) (by kernel_rfl) (by kernel_rfl) (fun _ _ _ h => h) (by rfl) ?_ (by assumption) ?_
          rotate_left
          · (intro w hSw; (try dsimp only at hSw); go_simp; try with_reducible rfl)
          try simp only [Act.put, List.setIfInBounds_toArray, List.set_cons_zero, List.set_cons_succ]
          refine ready_one 18 (by kernel_rfl) (by kernel_rfl) (by rfl) (fun Kc hKc => ?_)
          have HT5 := Lib.hid (HTH.out _ E5.out)
          have hBW := ((HB.out.ext E5.out).kept (setCells_grown G (ndCells (eachNd m at' j) (.slice A L1 C) (.int .u8 0) (.int .i64 0) (.string { data := #[] }) (.slice none 0 0)) (j * 16) w5) (fun e => by injection e with e; exact HGN.out e))
          have HS9 : Hid ((w5.setCells G (j * 16) (ndCells (eachNd m at' j) (.slice A L1 C) (.int .u8 0) (.int .i64 0) (.string { data := #[] }) (.slice none 0 0))).cell? ⟨w.heap.size, 0, none⟩ = some (.string (str m.id)) ∧ (w5.setCells G (j * 16) (ndCells (eachNd m at' j) (.slice A L1 C) (.int .u8 0) (.int .i64 0) (.string { data := #[] }) (.slice none 0 0))).cell? ⟨w.heap.size, 3, none⟩ = some (.int .i64 m.flow) ∧ (w5.setCells G (j * 16) (ndCells (eachNd m at' j) (.slice A L1 C) (.int .u8 0) (.int .i64 0) (.string { data := #[] }) (.slice none 0 0))).cell? ⟨w.heap.size, 6, none⟩ = some (.slice a m.after.length c) ∧ (w5.setCells G (j * 16) (ndCells (eachNd m at' j) (.slice A L1 C) (.int .u8 0) (.int .i64 0) (.string { data := #[] }) (.slice none 0 0))).cell? ⟨w.heap.size, 8, none⟩ = some (.int .i64 m.quota)) := Lib.hid ⟨hBW.cell 0 _ HCo.out.1, hBW.cell 3 _ HCo.out.2.1, hBW.cell 6 _ HCo.out.2.2.1, hBW.cell 8 _ HCo.out.2.2.2⟩
          have HBW := Lib.hid hBW
          clear hBW
          refine wp_storeM 46 (.tmp 43) (.tmp 42) (by rfl) G (j * 16) (ndCells (eachNd m at' j) (.slice A L1 C) (.int .u8 0) (.int .i64 0) (.string { data := #[] }) (.slice none 0 0)) (by rfl) (by rfl) (HLn.out A C) HT5.out sizenode_F (HN1.out A C) ?_
          refine hKc.out _ _ ?_ (fun hHeld => ?_)
          · (try dsimp only)
            (first | exact HS9.out | exact HS.out _ ED.out | exact HS.out _ E4.out | exact HS.out _ E5.out)
          clear hKc Kc
          try simp only [Act.put, List.setIfInBounds_toArray, List.set_cons_zero, List.set_cons_succ]
          refine wpAnyH_done (by kernel_rfl) ?_ _
          have hoi : OwnN 3 wr.heap.size w5 (.slice A L1 C) (eachNd m at' j).after := by
            show OwnN 3 wr.heap.size w5 (.slice A L1 C) m.after.tail
            unfold OwnN; rw [← HL1.out]; exact HO5.out
          have hov : Owns 44 w5 wr.heap.size (eachNd m at' j).val (.agg #[.int .u8 0, .int .i64 0, .string { data := #[] }, .slice none 0 0]) (fun _ => False) := Owns.mk (w := w5) (base := wr.heap.size) (k := 0) (n := 0) (s := []) (e := 44) (show isI64 0 by unfold isI64; omega) (by simp) (RowO.nil 44 w5 wr.heap.size)
          have hwn : ndWf (eachNd m at' j) := eachNd_wf HWF.out HAT.out (by have := HM1.out; omega) (by have := eachS_le m.id (j : Int); omega)
          have hst := HH.out.step hlt E5.out (F := fun _ => False) hoi (fun _ _ h => h) hov hwn
          have HST := Lib.hid hst
          have HE9 := Lib.hid ((HE.out.trans E5.out).grown (setCells_grown G (ndCells (eachNd m at' j) (.slice A L1 C) (.int .u8 0) (.int .i64 0) (.string { data := #[] }) (.slice none 0 0)) (j * 16) w5) (fun k hk => by injection hk with hk; have := HG.out; omega))
          clear hoi hov hwn hst HO5 HS HS9 HT5 HTH HSrc HSI HCA hsl p0 p3 p6 p8 ED E4 E5 HH HB HE HN1 HLn HL1
          generalize w5.setCells G (j * 16) (ndCells (eachNd m at' j) (.slice A L1 C) (.int .u8 0) (.int .i64 0) (.string { data := #[] }) (.slice none 0 0)) = W9 at *
          go_wp2
          go_roundw
          case rel => exact ⟨j + 1, by omega, by go_num, HE9, HBW, HST⟩
          case measure => simp [intOf]; omega
end Go.Proofs.YtpcgpcjleedilaaGreatDoor

namespace Fm
open Go Go.RowKit

/-- Nodes in a row of one's own, what they hold was there ahead. -/
def OldN (eN : TypeId) (w0 : World) (base : Nat) (w : World) (v : Value) (l : List Nd) : Prop :=
  ∃ cs : List (List Value), cs.length = l.length ∧ w.ownsRow base eN 16 v l.length cs.flatten ∧ ∀ (i : Nat) (hi : i < l.length) (hc : i < cs.length), ∀ W, Ext w0 W → NdV W l[i] (.agg cs[i].toArray)
theorem OldN.nil (eN : TypeId) (w0 : World) (base : Nat) (w : World) : OldN eN w0 base w (.slice none 0 0) [] := ⟨[], rfl, World.ownsRow_nil _ _ _ _, fun i hi => (by cases hi)⟩
theorem OldN.kept {eN : TypeId} {w0 w w' : World} {base : Nat} {v : Value} {l : List Nd} {row : Option Nat} (h : OldN eN w0 base w v l) (hg : w.grownBy w' row) (hr : ∀ b, v.ownBlock = some b → row ≠ some b) : OldN eN w0 base w' v l := by
  obtain ⟨cs, h1, h2, h3⟩ := h
  refine ⟨cs, h1, h2.kept hg ?_, h3⟩
  cases e : v.ownBlock with
  | none => exact .inl rfl
  | some b => exact .inr (fun h => hr b e h.symm)
theorem OldN.ext {eN : TypeId} {w0 w w' : World} {base : Nat} {v : Value} {l : List Nd} (h : OldN eN w0 base w v l) (hE : Ext w w') : OldN eN w0 base w' v l := h.kept hE.grownBy (fun b _ e => by cases e)
theorem OldN.held {eN : TypeId} {w0 w : World} {base : Nat} {v : Value} {l : List Nd} (h : OldN eN w0 base w v l) (hE : Ext w0 w) (hb : w0.heap.size ≤ base) : HeldN eN base w v l := by
  obtain ⟨cs, h1, h2, h3⟩ := h
  exact ⟨cs, h1, h2, fun i hi hc => farNd_of (fun w' hw' => h3 i hi hc w' (hE.grown hw' (fun k hk => by have := (World.ownsRow.lt h2 k hk).1; omega)))⟩
theorem OldN.rowOf {eN : TypeId} {w0 w : World} {base : Nat} {v : Value} {l : List Nd} (h : OldN eN w0 base w v l) : ∃ xs, w.ownsRow base eN 16 v l.length xs ∧ ∀ (w' : World) (v' : Value) (n : Nd) (C : List Value), C.length = 16 → w'.ownsRow base eN 16 v' (l.length + 1) (xs ++ C) → (∀ W, Ext w0 W → NdV W n (.agg C.toArray)) → OldN eN w0 base w' v' (l ++ [n]) := by
  obtain ⟨cs, h1, h2, h3⟩ := h
  refine ⟨_, h2, fun w' v' n C hC hrow hn => ⟨cs ++ [C], by simp [h1], by rw [List.length_append, List.flatten_append]; simpa using hrow, fun i hi hc => ?_⟩⟩
  by_cases hil : i < l.length
  · have hic : i < cs.length := by omega
    rw [List.getElem_append_left hil, List.getElem_append_left hic]
    exact h3 i hil hic
  · have hi' : i = l.length := by rw [List.length_append, List.length_singleton] at hi; omega
    subst hi'
    rw [List.getElem_append_right (by omega)]
    have e2 : (cs ++ [C])[l.length] = C := by rw [List.getElem_append_right (by omega)]; simp [h1]
    rw [e2]
    simpa using hn
/-- One node more that is held. -/
theorem HeldN.rowOf {eN : TypeId} {base : Nat} {w : World} {v : Value} {l : List Nd} (h : HeldN eN base w v l) : ∃ xs, w.ownsRow base eN 16 v l.length xs ∧
    (∀ (w' : World) (v' : Value) (m : List Nd) (ds : List (List Value)), ds.length = m.length → (∀ (i : Nat) (hi : i < m.length) (hc : i < ds.length), FarNd w v.ownBlock m[i] ds[i]) → w'.ownsRow base eN 16 v' (l.length + m.length) (xs ++ ds.flatten) → w.grownBy w' v.ownBlock → (v'.ownBlock = v.ownBlock ∨ v'.ownBlock = some w.heap.size) → HeldN eN base w' v' (l ++ m)) := by
  obtain ⟨cs, h1, h2, h3⟩ := h
  exact ⟨_, h2, fun w' v' m ds g1 g3 hrow hg hat => HeldN.app h1 h3 g1 g3 hrow hg hat⟩
theorem farNd_one {w : World} {row : Option Nat} {n : Nd} {C : List Value} (h : FarNd w row n C) : ∀ (i : Nat) (hi : i < [n].length) (hc : i < [C].length), FarNd w row [n][i] [C][i] := by
  intro i hi hc
  obtain rfl : i = 0 := by simpa using hi
  exact h
end Fm
namespace Fm
open Go Go.RowKit
/-- The nodes of a copy from the k-th on. -/
def TailN (eN eI eV : TypeId) (base : Nat) (w : World) (v : Value) (n : Nat) (f : Nat → Nd) (k : Nat) : Prop :=
  ∃ (cs : List (List Value)) (lo : Nat → Nat), cs.length = n ∧ w.ownsRow base eN 16 v n cs.flatten ∧ (∀ b, v.ownBlock = some b → b < lo k) ∧ base ≤ lo k ∧ (∀ i, k ≤ i → i < n → lo i ≤ lo (i + 1)) ∧ lo n ≤ w.heap.size ∧ (∀ C, C ∈ cs → C.length = 16) ∧
    ∀ (i : Nat) (_ : i < n) (hc : i < cs.length), k ≤ i → NdW eI eV (lo i) (lo (i + 1)) w (f i) cs[i]
theorem CopyN.tail {eN eI eV : TypeId} {base : Nat} {w : World} {v : Value} {n : Nat} {f : Nat → Nd} (h : CopyN eN eI eV base w v ((List.range n).map f)) : TailN eN eI eV base w v n f 0 := by
  obtain ⟨cs, lo, h1, h2, h3, h4, h5, h6, h7⟩ := h
  rw [List.length_map, List.length_range] at h1 h2 h5 h6
  have h8 : ∀ (i : Nat) (_ : i < n) (hc : i < cs.length), NdW eI eV (lo i) (lo (i + 1)) w (f i) cs[i] := fun i hi hc => by
    have := h7 i (by simpa using hi) hc
    simpa using this
  exact ⟨cs, lo, h1, h2, h3, h4, fun i _ hi => h5 i hi, h6, fun C hC => by
    obtain ⟨i, hi, rfl⟩ := List.getElem_of_mem hC
    exact (h8 i (by omega) hi).cells, fun i hi hc _ => h8 i hi hc⟩
theorem lo_le {n k : Nat} {lo : Nat → Nat} (h5 : ∀ i, k ≤ i → i < n → lo i ≤ lo (i + 1)) : ∀ j, k ≤ j → j ≤ n → lo j ≤ lo n ∧ lo k ≤ lo j := by
  have up : ∀ d j, j + d ≤ n → k ≤ j → lo j ≤ lo (j + d) := fun d => by
    induction d with
    | zero => intro j _ _; exact Nat.le_refl _
    | succ d ih => intro j h1 h2; exact Nat.le_trans (ih j (by omega) h2) (h5 (j + d) (by omega) (by omega))
  intro j h1 h2
  have a := up (n - j) j (by omega) h1
  have b := up (j - k) k (by omega) (Nat.le_refl _)
  rw [show j + (n - j) = n by omega] at a
  rw [show k + (j - k) = j by omega] at b
  exact ⟨a, b⟩
theorem TailN.ext {eN eI eV : TypeId} {base : Nat} {w w' : World} {v : Value} {n k : Nat} {f : Nat → Nd} (h : TailN eN eI eV base w v n f k) (hE : Ext w w') : TailN eN eI eV base w' v n f k := by
  obtain ⟨cs, lo, h1, h2, h3, h4, h5, h6, h7, h8⟩ := h
  refine ⟨cs, lo, h1, hE.own h2, h3, h4, h5, Nat.le_trans h6 hE.size, h7, fun i hi hc hk => (h8 i hi hc hk).far (fun b _ hb => ?_)⟩
  have := (lo_le h5 (i + 1) (by omega) (by omega)).1
  exact hE.grownBy.block b (by omega) (by simp)
theorem TailN.at {eN eI eV : TypeId} {base : Nat} {w : World} {g cap n k : Nat} {f : Nat → Nd} (h : TailN eN eI eV base w (.slice (some ⟨g, 0, none⟩) n cap) n f k) (hk : k < n) :
    ∃ (C : List Value) (p q : Nat), NdW eI eV p q w (f k) C ∧ w.rangeAt g (k * 16) C ∧ base ≤ p ∧ p ≤ q ∧ q ≤ w.heap.size ∧ g < p ∧ base ≤ g ∧
      ∀ w', w.heap.size ≤ w'.heap.size → (∀ b, b < w.heap.size → ¬ (p ≤ b ∧ b < q) → w'.heap[b]? = w.heap[b]?) → TailN eN eI eV base w' (.slice (some ⟨g, 0, none⟩) n cap) n f (k + 1) := by
  obtain ⟨cs, lo, h1, h2, h3, h4, h5, h6, h7, h8⟩ := h
  have hle := lo_le h5
  have hc : k < cs.length := by omega
  have hg := h3 g rfl
  have hl : cs.flatten.length = n * 16 := h2.1
  have q1 := hle (k + 1) (by omega) (by omega)
  refine ⟨cs[k], lo k, lo (k + 1), h8 k hk hc (Nat.le_refl _), fun j v hv => ?_, h4, h5 k (Nat.le_refl _) hk, by omega, hg, (World.ownsRow.lt h2 g rfl).1, fun w' hs hw' => ?_⟩
  · have hj : j < 16 := by
      have := (List.getElem?_eq_some_iff.1 hv).1
      have := h7 cs[k] (List.getElem_mem hc)
      omega
    rw [World.ownsRow.cellAt h2 _ (by omega), flat16 cs k j hc h7 hj]; exact hv
  · have hgw := (World.ownsRow.lt h2 g rfl).2
    refine ⟨cs, lo, h1, ownsRow_block h2 (fun b hb => hw' b (World.ownsRow.lt h2 b hb).2 (fun hh => ?_)), fun b hb => ?_, by omega, fun i hi hin => h5 i (by omega) hin, by omega, h7, fun i hi hci hki => (h8 i hi hci (by omega)).far (fun b hb1 hb2 => hw' b ?_ (fun hh => ?_))⟩
    · have : b = g := by simpa [Value.ownBlock] using hb.symm
      omega
    · have : b = g := by simpa [Value.ownBlock] using hb.symm
      have := h5 k (Nat.le_refl _) hk
      omega
    · have := (hle (i + 1) (by omega) (by omega)).1
      omega
    · have q2 := lo_le (k := k + 1) (n := n) (lo := lo) (fun i hi hin => h5 i (by omega) hin) i (by omega) (by omega)
      omega
end Fm

namespace Go.Proofs.YtpcgpcjleedilaaGreatDoor
open Go Go.Proofs Fm Go.RowKit

/-- How a pointer into block g reads: its cell. -/
def ptrR (g : Nat) : Value → Option (DataW Unit × List MemPlace)
  | .pointer none => some (.lit (.int .i64 (-1)), [])
  | .pointer (some ⟨b, o, none⟩) => if b = g then some (.lit (.int .i64 (o : Int)), []) else none
  | _ => none
def cellZ : Option Nat → Int
  | none => -1
  | some o => (o : Int)
theorem ptrR_inv {g o : Nat} {v : Value} {ps : List MemPlace} (h : ptrR g v = some (.lit (.int .i64 (o : Int)), ps)) : v = .pointer (some ⟨g, o, none⟩) := by
  unfold ptrR at h
  split at h
  · simp at h
  · split at h
    · next e =>
      simp at h
      rw [e, Int.ofNat.inj h.1]
    · cases h
  · cases h
theorem ptrR_none {g : Nat} {v : Value} {ps : List MemPlace} (h : ptrR g v = some (.lit (.int .i64 (-1)), ps)) : v = .pointer none := by
  unfold ptrR at h
  split at h
  · rfl
  · split at h
    · simp at h
    · cases h
  · cases h
/-- Block b is a map of numbers to cells of block g: what stands where (at most n entries). -/
def PMap (w : World) (g b n : Nat) (f : Int → Option Nat) : Prop :=
  ∃ D : DataW Unit, w.ownsMap Tryz.prog 3 (ptrR g) b n D ∧ (∀ k, Maps.has D (.int .i64 k) = (f k).isSome) ∧ ∀ k, D.atKey (.int .i64 k) (.lit (.int .i64 (-1))) = .lit (.int .i64 (cellZ (f k)))
def pupd (f : Int → Option Nat) (k : Int) (o : Nat) : Int → Option Nat := fun t => if t = k then some o else f t
theorem zero_ptr (w : World) : (zeroValue 107).run Tryz.prog w = .ok (.pointer none) w := Tryz.zeroValue107 w
theorem key_int {k : Int} (hk : isI64 k) : keyOf Tryz.prog 3 (.int .i64 k) = some (.int .i64 k) := by
  refine Maps.keyOf_int_mk Tryz.underlying3 ?_
  unfold isI64 at hk
  simp [Lit.wf, IntKind.min, IntKind.max, IntKind.signed, IntKind.bits]
  omega
theorem PMap.new (w : World) (g : Nat) : PMap (w.alloc (.map #[] 0)) g w.heap.size 0 (fun _ => none) :=
  ⟨.map [], World.ownsMap_made w _ _ _, fun _ => rfl, fun _ => rfl⟩
theorem PMap.kept {w w' : World} {g b n : Nat} {f : Int → Option Nat} {row : Option Nat} (h : PMap w g b n f) (hg : w.grownBy w' row) (hne : row ≠ some b) : PMap w' g b n f := by
  obtain ⟨D, h1, h2⟩ := h
  exact ⟨D, h1.kept hg (fun e => hne e.symm), h2⟩
theorem PMap.ext {w w' : World} {g b n : Nat} {f : Int → Option Nat} (h : PMap w g b n f) (hE : Ext w w') : PMap w' g b n f := h.kept hE.grownBy (by simp)
theorem PMap.lt {w : World} {g b n : Nat} {f : Int → Option Nat} (h : PMap w g b n f) : b < w.heap.size := by
  obtain ⟨D, h1, _⟩ := h
  exact h1.lt
/-- The look with its 'ok'. -/
theorem PMap.look {w : World} {g b n : Nat} {f : Int → Option Nat} (h : PMap w g b n f) {k : Int} (hk : isI64 k) :
    (Instr.lookup 104 (.map (some b)) (.int .i64 k) true).run Tryz.prog w = .ok (.tuple #[.pointer ((f k).map fun o => ⟨g, o, none⟩), .bool (f k).isSome]) w := by
  obtain ⟨D, h1, h2, h3⟩ := h
  obtain ⟨v, ps, hrun, hat⟩ := h1.look_ok (Maps.int_keyed Tryz.underlying3) Tryz.underlying104 (zero_ptr w) (zd := .lit (.int .i64 (-1))) (zp := []) rfl (key_int hk)
  rw [h3 k] at hat
  rw [hrun, h2 k]
  cases e : f k with
  | none =>
    rw [e] at hat
    rw [ptrR_none hat]; rfl
  | some o =>
    rw [e] at hat
    rw [ptrR_inv hat]; rfl
/-- A store into it. -/
theorem wpList_pput {w : World} {ops : Array Oper} {rest : List Oper} {o : Oper} {a : Act} {Q : Exit → Act → World → Prop} (hg : o.guard = none) (m x v : Operand) (hop : o.op = Op.mapUpdate 104 m x v)
    {g b n : Nat} {f : Int → Option Nat} (hm : a.eval m = .map (some b)) (h : PMap w g b n f) (hn : n < 9223372036854775807) (k : Int) (hx : a.eval x = .int .i64 k) (hk : isI64 k) (c : Nat) (hv : a.eval v = .pointer (some ⟨g, c, none⟩))
    (hK : ∀ w', PMap w' g b (n + 1) (pupd f k c) → w.grownBy w' (some b) → wpList Tryz.prog ops Q rest (a.put o.dst undef) w') : wpList Tryz.prog ops Q (o :: rest) a w := by
  obtain ⟨D, h1, h2, h3⟩ := h
  refine wpList_mapUpdate_own w hg m x v _ hop _ _ (Maps.int_keyed Tryz.underlying3) Tryz.underlying104 _ b n D hm h1 (by unfold maxLen; omega) _ _ (.int .i64 k) hx hv (key_int hk) (.lit (.int .i64 (c : Int))) [] (by unfold ptrR; simp) (fun w' hown hgrow => hK w' ⟨_, hown, fun t => ?_, fun t => ?_⟩ hgrow)
  · unfold pupd
    by_cases e : t = k
    · subst e
      rw [if_pos rfl, Maps.has_put_same h1.isMap (by trivial)]; rfl
    · rw [if_neg e, Maps.has_put_other (by simpa using e), h2]
  · unfold pupd
    by_cases e : t = k
    · subst e
      rw [if_pos rfl, Maps.atKey_put_same h1.isMap (by trivial)]; rfl
    · rw [if_neg e, Maps.atKey_put_other (by simpa using e), h3]
end Go.Proofs.YtpcgpcjleedilaaGreatDoor

open Go.RowKit Go.Shelf
namespace Fm
open Go Go.RowKit
/-- The last one done at a number, of the first so many. -/
def lastN (l : List Nd) (m k : Int) : Nat → Option Nat
  | 0 => none
  | j + 1 => if doneAt m k (l.getD j ndZero) then some j else lastN l m k j
theorem lastN_lt (l : List Nd) (m k : Int) : ∀ (j i : Nat), lastN l m k j = some i → i < j
  | 0, i, h => by cases h
  | j + 1, i, h => by
    unfold lastN at h
    split at h
    · injection h with h; omega
    · have := lastN_lt l m k j i h; omega
theorem take_snoc {α : Type} (l : List α) (j : Nat) (hj : j < l.length) : l.take (j + 1) = l.take j ++ [l[j]] := by
  rw [List.take_add_one, List.getElem?_eq_getElem hj]; rfl
theorem lastN_val (l : List Nd) (m k : Int) : ∀ j, j ≤ l.length → valAt (l.take j) m k = (lastN l m k j).map fun i => (l.getD i ndZero).val
  | 0, _ => rfl
  | j + 1, h => by
    have hg : l.getD j ndZero = l[j] := by rw [List.getD_eq_getElem?_getD, List.getElem?_eq_getElem (by omega)]; rfl
    unfold lastN
    have ih := lastN_val l m k j (by omega)
    unfold valAt at ih ⊢
    rw [take_snoc l j (by omega), List.filter_append, hg]
    by_cases hd : doneAt m k l[j] = true
    · rw [if_pos hd, Option.map_some, hg, show [l[j]].filter (doneAt m k) = [l[j]] by simp [hd], List.getLast?_append]; rfl
    · rw [if_neg hd, show [l[j]].filter (doneAt m k) = [] by simp [hd], List.append_nil]; exact ih
theorem lastN_all (l : List Nd) (m k : Int) : valAt l m k = (lastN l m k l.length).map fun i => (l.getD i ndZero).val := by
  have := lastN_val l m k l.length (Nat.le_refl _)
  rwa [List.take_length] at this
theorem eachs_succ (l : List Nd) (m : Int) (j : Nat) (hj : j < l.length) : ((l.take (j + 1)).filter (isEach m)).length = ((l.take j).filter (isEach m)).length + if isEach m l[j] then 1 else 0 := by
  rw [take_snoc l j hj, List.filter_append]
  by_cases h : isEach m l[j] = true <;> simp [h]
theorem lastN_succ (l : List Nd) (m k : Int) (j : Nat) (hj : j < l.length) : lastN l m k (j + 1) = if doneAt m k l[j] then some j else lastN l m k j := by
  conv => lhs; unfold lastN
  rw [List.getD_eq_getElem?_getD, List.getElem?_eq_getElem hj]; rfl
end Fm
namespace Go.Proofs.YtpcgpcjleedilaaGreatDoor
open Go Go.Proofs Fm

/-- What fan.each comes to. -/
def MapPost (w : World) (g off : Nat) (l : List Nd) (m : Int) (e : Ending) (w' : World) : Prop :=
  ∃ b n, e = .returned (.tuple #[.map (some b), .int .i64 ((l.filter (isEach m)).length : Nat)]) ∧ Ext w w' ∧ w.heap.size ≤ b ∧ PMap w' g b n (fun k => (lastN l m k l.length).map fun i => off + i * 16)
theorem pmap_skip {w : World} {g b n off : Nat} {l : List Nd} {m : Int} {j : Nat} (hj : j < l.length) (h : PMap w g b n (fun k => (lastN l m k j).map fun i => off + i * 16)) (hd : ∀ k, doneAt m k l[j] = false) : PMap w g b n (fun k => (lastN l m k (j + 1)).map fun i => off + i * 16) := by
  have e : (fun k => (lastN l m k (j + 1)).map fun i => off + i * 16) = (fun k => (lastN l m k j).map fun i => off + i * 16) := funext fun k => by
    rw [lastN_succ l m k j hj, hd k]; rfl
  rw [e]; exact h
theorem pmap_step {w : World} {g b n off : Nat} {l : List Nd} {m : Int} {j : Nat} (hj : j < l.length) (h : PMap w g b n (pupd (fun k => (lastN l m k j).map fun i => off + i * 16) l[j].place (off + j * 16))) (hd : isEach m l[j] = true) (hs : l[j].stand = 4) : PMap w g b n (fun k => (lastN l m k (j + 1)).map fun i => off + i * 16) := by
  have e : (fun k => (lastN l m k (j + 1)).map fun i => off + i * 16) = pupd (fun k => (lastN l m k j).map fun i => off + i * 16) l[j].place (off + j * 16) := funext fun k => by
    unfold pupd
    rw [lastN_succ l m k j hj]
    unfold doneAt
    rw [hd, hs]
    by_cases e : k = l[j].place
    · rw [if_pos e, if_pos (by simp [e])]; rfl
    · rw [if_neg e, if_neg (by simp; exact fun h => e h.symm)]
  rw [e]; exact h
set_option maxRecDepth 100000 in
set_option maxHeartbeats 4000000 in
theorem fmap_any (l : List Nd) (m : Int) (hl : 0 < l.length) (g off c : Nat) (w : World) (h : ndE.Row w l (.slice (some ⟨g, off, none⟩) l.length c)) :
    Calls Tryz.prog 71 #[.slice (some ⟨g, off, none⟩) l.length c, .int .i64 m] w (MapPost w g off l m) := by
  have HR := Lib.hid h
  have hcap : l.length ≤ c ∧ c ≤ 9223372036854775807 := by
    obtain ⟨a', c', e, h1, h2⟩ := h.slice
    injection e with e1 e2 e3
    subst e3
    exact ⟨h1, h2⟩
  have HM := Lib.hid (PMap.new w g)
  have HE := Lib.hid ((Ext.refl w).alloc (.map #[] 0))
  have hmm := @run_makeMap Tryz.prog
  clear h
  go_enter Tryz.func71, Tryz.ntmps71
  go_upto_region 2 with (fail)
  generalize w.alloc (.map #[] 0) = W1 at *
  clear hmm
  go_wp2_with fail
  go_loopw [13, 7] (fun i n wr => ∃ j : Nat, j ≤ l.length ∧ i = .int .i64 j ∧ n = .int .i64 (((l.take j).filter (isEach m)).length : Nat) ∧ Hid (Ext w wr) ∧ ∃ q, q ≤ j ∧ Hid (PMap wr g w.heap.size q (fun k => (lastN l m k j).map fun i => off + i * 16))) (fun i _ _ => l.length - (intOf i).toNat)
  case atStart => exact ⟨0, by omega, rfl, rfl, HE, 0, Nat.le_refl _, HM⟩
  case round =>
    clear HE HM
    obtain ⟨j, hj, rfl, rfl, HE, q, hq, HM⟩ := hrel
    by_cases hlt : j < l.length
    case neg =>
      obtain rfl : j = l.length := by omega
      have e : l.take l.length = l := List.take_length
      rw [e]
      clear e
      go_wp2
      go_ret2
      exact ⟨_, _, rfl, HE.out, Nat.le_refl _, HM.out⟩
    obtain ⟨b', off', e', hb', aa, ma, ca, K', N', S', D', ⟨y0, y1, c2, y3, c4, c5, y6, y7, y8, c9, y10, y11, y12, y13, y14, y15⟩, hnv⟩ := nd_at16 HR.out HE.out j hlt
    injection e' with e'
    injection e' with e1 e2
    subst e1 e2
    have hwf := hnv.wf
    have HPl := Lib.hid hwf.2.2.2.2.1
    have hj0 : (0 : Int) ≤ (j : Int) := by omega
    have hj1 : (j : Int) < (l.length : Int) := by omega
    have hcn : ((l.take j).filter (isEach m)).length ≤ j := Nat.le_trans (List.length_filter_le _ _) (by simp; omega)
    have HCS := Lib.hid (eachs_succ l m j hlt)
    have hk := u8_one (k := l[j].kind) 2
    rw [show (((2 : UInt8).toNat : Nat) : Int) = 2 from rfl] at hk
    have hs := u8_one (k := l[j].stand) 4
    rw [show (((4 : UInt8).toNat : Nat) : Int) = 4 from rfl] at hs
    clear y0 y1 y3 y6 y7 y8 y10 y11 y12 y13 y14 y15 hnv hwf hb'
    obtain ⟨cn, hcn'⟩ : ∃ cn, cn = ((l.take j).filter (isEach m)).length := ⟨_, rfl⟩
    rw [← hcn'] at hcn HCS ⊢
    obtain ⟨K, hK⟩ : ∃ K, K = (l[j].kind.toNat : Int) := ⟨_, rfl⟩
    rw [← hK] at c2 hk
    obtain ⟨S, hS⟩ : ∃ S, S = (l[j].stand.toNat : Int) := ⟨_, rfl⟩
    rw [← hS] at c9 hs
    obtain ⟨ow, how⟩ : ∃ ow, ow = l[j].owner := ⟨_, rfl⟩
    rw [← how] at c4
    obtain ⟨pl, hpl⟩ : ∃ pl, pl = l[j].place := ⟨_, rfl⟩
    rw [← hpl] at c5 HPl
    have HOw := Lib.hid how
    have HPe := Lib.hid hpl
    clear hK hS how hpl hcn'
    by_cases h1 : l[j].kind = 2
    · have f1 : (K == 2) = true := by rw [hk]; simpa using h1
      have f2 : (K != 2) = false := by rw [bne, f1]; rfl
      by_cases h2 : l[j].owner = m
      · have hie : isEach m l[j] = true := by unfold isEach; simp [h1, h2]
        have g1 : (ow == m) = true := by rw [HOw.out]; simpa using h2
        have g2 : (ow != m) = false := by rw [bne, g1]; rfl
        have HCS : Hid (((l.take (j + 1)).filter (isEach m)).length = cn + 1) := Lib.hid (by rw [HCS.out, hie]; rfl)
        have hb1 : cn + 1 ≤ 9223372036854775807 := by omega
        by_cases h3 : l[j].stand = 4
        · have f3 : (S == 4) = true := by rw [hs]; simpa using h3
          have HST := Lib.hid (fun w' n' (hp : PMap w' g w.heap.size n' (pupd (fun k => (lastN l m k j).map fun i => off + i * 16) l[j].place (off + j * 16))) => pmap_step hlt hp hie h3)
          rw [← HPe.out] at HST
          have hM := HM.out
          clear hk hs h1 h2 h3 hie HOw HPe
          go_wp2_with (at_mapUpdate; refine wpList_pput rfl _ _ _ rfl rfl hM (by omega) pl rfl HPl.out (off + j * 16) rfl ?_; intro w6 hp6 hg6)
          have HP6 := Lib.hid (HST.out w6 _ hp6)
          have HE6 := Lib.hid (HE.out.grown hg6 (fun k hk => by injection hk with hk; omega))
          clear hp6 hg6 HST hM HM HE c2 c4 c5 c9
          go_roundw
          case rel => exact ⟨j + 1, by omega, by go_num, by rw [HCS.out]; go_num, HE6, q + 1, by omega, HP6⟩
          case measure => simp [intOf]; omega
        · have f3 : (S == 4) = false := by rw [hs]; simpa using h3
          have HP6 := Lib.hid (pmap_skip hlt HM.out (fun k => by unfold doneAt; simp [h3]))
          clear hk hs h1 h2 h3 hie HOw HPe HM
          go_wp2
          go_roundw
          case rel => exact ⟨j + 1, by omega, by go_num, by rw [HCS.out]; go_num, HE, q, by omega, HP6⟩
          case measure => simp [intOf]; omega
      · have hie : isEach m l[j] = false := by unfold isEach; simp [h2]
        have g1 : (ow == m) = false := by rw [HOw.out]; simpa using h2
        have g2 : (ow != m) = true := by rw [bne, g1]; rfl
        have HCS : Hid (((l.take (j + 1)).filter (isEach m)).length = cn) := Lib.hid (by rw [HCS.out, hie]; rfl)
        have HP6 := Lib.hid (pmap_skip hlt HM.out (fun k => by unfold doneAt; simp [hie]))
        clear hk hs h1 h2 hie HOw HPe HM
        go_wp2
        go_roundw
        case rel => exact ⟨j + 1, by omega, by go_num, by rw [HCS.out], HE, q, by omega, HP6⟩
        case measure => simp [intOf]; omega
    · have f1 : (K == 2) = false := by rw [hk]; simpa using h1
      have f2 : (K != 2) = true := by rw [bne, f1]; rfl
      have hie : isEach m l[j] = false := by unfold isEach; simp [h1]
      have HCS : Hid (((l.take (j + 1)).filter (isEach m)).length = cn) := Lib.hid (by rw [HCS.out, hie]; rfl)
      have HP6 := Lib.hid (pmap_skip hlt HM.out (fun k => by unfold doneAt; simp [hie]))
      clear hk hs h1 hie HOw HPe HM
      go_wp2
      go_roundw
      case rel => exact ⟨j + 1, by omega, by go_num, by rw [HCS.out], HE, q, by omega, HP6⟩
      case measure => simp [intOf]; omega
/-- What Values comes to. -/
def ValuesPost (w : World) (l : List Nd) (m : Int) (e : Ending) (w' : World) : Prop :=
  ∃ v b, e = .returned (.tuple #[v, .bool b]) ∧ Ext w w' ∧ (∀ r, valuesF l m = some r → b = true ∧ OwnT 44 w' w.heap.size (listV r) v) ∧ (valuesF l m = none → b = false ∧ v = .agg #[.int .u8 0, .int .i64 0, .string { data := #[] }, .slice none 0 0])
theorem values_no {w w' : World} {l : List Nd} {m : Int} (hE : Ext w w') (h : valuesF l m = none) : ValuesPost w l m (.returned (.tuple #[.agg #[.int .u8 0, .int .i64 0, .string { data := #[] }, .slice none 0 0], .bool false])) w' :=
  ⟨_, _, rfl, hE, fun r hr => (by rw [h] at hr; cases hr), fun _ => ⟨rfl, rfl⟩⟩
theorem values_yes {w w' : World} {l : List Nd} {m : Int} {r : List Tr} {v : Value} (hE : Ext w w') (h : valuesF l m = some r) (ho : OwnT 44 w' w.heap.size (listV r) v) : ValuesPost w l m (.returned (.tuple #[v, .bool true])) w' :=
  ⟨_, _, rfl, hE, fun q hq => (by rw [h] at hq; injection hq with hq; subst hq; exact ⟨rfl, ho⟩), fun hn => (by rw [h] at hn; cases hn)⟩
set_option maxRecDepth 100000 in
set_option maxHeartbeats 4000000 in
theorem fvalues_any (l : List Nd) (m : Int) (hlen : l.length ≤ 100000) (hp : ∀ x, x ∈ l → partsT x.val ≤ 1000000) (w : World) (v : Value) (h : ndE.Row w l v) :
    Calls Tryz.prog 35 #[v, .int .i64 m] w (ValuesPost w l m) := by
  have HP := Lib.hid hp
  have HR := Lib.hid h
  obtain ⟨a, c, rfl, hc1, hc2⟩ := h.slice
  have HX := Lib.hid (show valuesF l m = if placeF l m && decide ((nthF l m).kind = 1) then valsF (l.filter (isEach m)).length l m else none from rfl)
  have hB0 := Box4.new w (.int .u8 0) (.int .i64 0) (.string { data := #[] }) (.slice none 0 0)
  have hE0 := (Ext.refl w).alloc (.cells #[.int .u8 0, .int .i64 0, .string { data := #[] }, .slice none 0 0] 44)
  clear hp h
  go_enter Tryz.func35, Tryz.ntmps35
  go_upto_region 1 with (fail)
  generalize w.alloc (.cells #[.int .u8 0, .int .i64 0, .string { data := #[] }, .slice none 0 0] 44) = W1 at *
  have HC := Lib.hid (fplace_any l m W1 _ (HR.out.ext hE0))
  have HE0 := Lib.hid hE0
  have HB0 := Lib.hid hB0
  have ⟨p0, p1, p2, p3⟩ := hB0.cells
  have ⟨z0, z1, z2, z3⟩ := hB0.frozen
  clear hE0 hB0
  go_wp2_with fail
  refine HC.out.mono ?_
  rintro e w1 ⟨rfl, rfl⟩
  clear HC
  cases hpl : placeF l m with
  | false =>
    have HY := Lib.hid (show valuesF l m = none by rw [HX.out, hpl]; rfl)
    clear hpl HX
    go_wp2
    change bodyPost _ _ _ _ _ (set4W W1 w.heap.size (.int .u8 0) (.int .i64 0) (.string { data := #[] }) (.slice none 0 0))
    obtain ⟨hE2, hb2, -⟩ := set4_facts (k := .int .u8 0) (n := .int .i64 0) (s := .string { data := #[] }) (d := .slice none 0 0) HE0.out HB0.out (Nat.le_refl _)
    generalize set4W W1 w.heap.size (.int .u8 0) (.int .i64 0) (.string { data := #[] }) (.slice none 0 0) = W3 at *
    obtain ⟨y0, y1, y2, y3⟩ := hb2.cells
    refine bodyPost_ret (v := .tuple #[.agg #[.int .u8 0, .int .i64 0, .string { data := #[] }, .slice none 0 0], .bool false]) (by simp [results, Tryz.results35, go_sem, y0, y1, y2, y3]) rfl ?_
    exact values_no hE2 HY.out
  | true =>
    obtain ⟨hm0, hm1⟩ := place_iff.1 hpl
    obtain ⟨i, rfl⟩ : ∃ i : Nat, m = (i : Int) := ⟨m.toNat, by omega⟩
    have hi : i < l.length := by omega
    have HX := Lib.hid (show valuesF l i = if l[i].kind = 1 then valsF (l.filter (isEach i)).length l i else none by rw [HX.out, hpl, nth_at hi]; simp)
    obtain ⟨b, off, rfl, hb, aa, ma, ca, K', N', S', D', ⟨y0, y1, c2, y3, y4, y5, y6, y7, y8, y9, y10, y11, y12, y13, y14, y15⟩, -⟩ := nd_at16 HR.out HE0.out i hi
    clear y0 y1 y3 y4 y5 y6 y7 y8 y9 y10 y11 y12 y13 y14 y15 hm0 hm1 hpl
    have hk := u8_one (k := l[i].kind) 1
    rw [show (((1 : UInt8).toNat : Nat) : Int) = 1 from rfl] at hk
    obtain ⟨K, hK⟩ : ∃ K, K = (l[i].kind.toNat : Int) := ⟨_, rfl⟩
    rw [← hK] at c2 hk
    clear hK
    by_cases h1 : l[i].kind = 1
    case neg =>
      have f1 : (K == 1) = false := by rw [hk]; simpa using h1
      have f2 : (K != 1) = true := by rw [bne, f1]; rfl
      have HY := Lib.hid (show valuesF l i = none by rw [HX.out, if_neg h1])
      clear hk h1 HX
      go_wp2
      change bodyPost _ _ _ _ _ (set4W W1 w.heap.size (.int .u8 0) (.int .i64 0) (.string { data := #[] }) (.slice none 0 0))
      obtain ⟨hE2, hb2, -⟩ := set4_facts (k := .int .u8 0) (n := .int .i64 0) (s := .string { data := #[] }) (d := .slice none 0 0) HE0.out HB0.out (Nat.le_refl _)
      generalize set4W W1 w.heap.size (.int .u8 0) (.int .i64 0) (.string { data := #[] }) (.slice none 0 0) = W3 at *
      obtain ⟨y0, y1, y2, y3⟩ := hb2.cells
      refine bodyPost_ret (v := .tuple #[.agg #[.int .u8 0, .int .i64 0, .string { data := #[] }, .slice none 0 0], .bool false]) (by simp [results, Tryz.results35, go_sem, y0, y1, y2, y3]) rfl ?_
      exact values_no hE2 HY.out
    have f1 : (K == 1) = true := by rw [hk]; simpa using h1
    have f2 : (K != 1) = false := by rw [bne, f1]; rfl
    have HX := Lib.hid (show valuesF l i = valsF (l.filter (isEach i)).length l i by rw [HX.out, if_pos h1])
    have HMC := Lib.hid (fmap_any l i (by omega) b off c W1 (HR.out.ext HE0.out))
    clear hk h1
    go_wp2_with fail
    refine HMC.out.mono ?_
    rintro e w2 ⟨mb, mn, rfl, hE2, hmb, hM⟩
    obtain ⟨N, hN⟩ : ∃ N, N = (l.filter (isEach i)).length := ⟨_, rfl⟩
    have HNl : Hid (N ≤ l.length) := Lib.hid (by rw [hN]; exact List.length_filter_le _ _)
    rw [← hN] at HX ⊢
    have HNe := Lib.hid hN
    have hb2 := HB0.out.ext hE2
    have hE3 := (Ext.refl w2).alloc (.cells #[.int .u8 2, .int .i64 0, .string { data := #[] }, .slice none 0 0] 44)
    have hV := Box4.new w2 (.int .u8 2) (.int .i64 0) (.string { data := #[] }) (.slice none 0 0)
    have hB3 := hb2.ext hE3
    have hM3 := hM.ext hE3
    have hmlt := hM.lt
    have hE03 := (HE0.out.trans hE2).trans hE3
    have hz2 : w.heap.size < w2.heap.size := Nat.lt_of_lt_of_le HB0.out.lt hE2.size
    clear hN p0 p1 p2 p3 z0 z1 z2 z3 c2 f1 f2 HMC hE2 hb2 hM
    go_upto_region 5 with (fail)
    generalize w2.alloc (.cells #[.int .u8 2, .int .i64 0, .string { data := #[] }, .slice none 0 0] 44) = W3 at *
    obtain ⟨V, hVe⟩ : ∃ V, V = w2.heap.size := ⟨_, rfl⟩
    rw [← hVe] at hV hmlt hz2 ⊢
    clear hVe
    go_wp2_with fail
    go_loopw [33] (fun i' wr => ∃ (j : Nat) (d : Value) (r : List Tr), j ≤ N ∧ i' = .int .i64 j ∧ Ext w wr ∧ Box4 wr V (.int .u8 2) (.int .i64 0) (.string { data := #[] }) d ∧ Box4 wr w.heap.size (.int .u8 0) (.int .i64 0) (.string { data := #[] }) (.slice none 0 0) ∧
      Hid (PMap wr b mb mn (fun k => (lastN l i k l.length).map fun i => off + i * 16)) ∧ Hid (valsF j l i = some r ∧ r.length = j) ∧ Hid (OwnL 44 wr (V + 1) r d) ∧ V + 1 ≤ wr.heap.size) (fun i' _ => N - (intOf i').toNat)
    case atStart => exact ⟨0, _, [], by omega, rfl, hE03, hV, hB3, Lib.hid hM3, Lib.hid ⟨rfl, rfl⟩, Lib.hid (OwnL.nil _ _ _), by have := hV.lt; omega⟩
    case round =>
      obtain ⟨j, d, r, hj, rfl, hE, hb4, hB, HM, HVs, HO, hbr⟩ := hrel
      clear hE03 hV hB3 hM3
      obtain ⟨ad, cd, rfl⟩ : ∃ a cap, d = .slice a j cap := by
        obtain ⟨F, h⟩ := HO.out
        obtain ⟨a, c, h⟩ := h.slice
        rw [HVs.out.2] at h
        exact ⟨a, c, h⟩
      have hlt0 := hb4.lt
      by_cases hlt : j < N
      case neg =>
        obtain rfl : j = N := by omega
        have HY := Lib.hid (show valuesF l i = some r by rw [HX.out, HVs.out.1])
        obtain ⟨d0, d1, d2, d3⟩ := hb4.cells
        obtain ⟨p0, p1, p2, p3⟩ := hB.cells
        obtain ⟨q0, q1, q2, q3⟩ := hB.frozen
        have HE := Lib.hid hE
        have HBB := Lib.hid hB
        clear hb4 hB hE HX HM HVs
        go_wp2
        change bodyPost _ _ _ _ _ (set4W wr w.heap.size (.int .u8 2) (.int .i64 0) (.string { data := #[] }) (.slice ad j cd))
        obtain ⟨hE2, hb2, hg2⟩ := set4_facts (k := .int .u8 2) (n := .int .i64 0) (s := .string { data := #[] }) (d := .slice ad j cd) HE.out HBB.out (Nat.le_refl _)
        have hO2 := HO.out.grown hg2 (fun b hb => by injection hb with hb; omega)
        generalize set4W wr w.heap.size (.int .u8 2) (.int .i64 0) (.string { data := #[] }) (.slice ad j cd) = W5 at *
        obtain ⟨y0, y1, y2, y3⟩ := hb2.cells
        refine bodyPost_ret (v := .tuple #[.agg #[.int .u8 2, .int .i64 0, .string { data := #[] }, .slice ad j cd], .bool true]) (by simp [results, Tryz.results35, go_sem, y0, y1, y2, y3]) rfl ?_
        exact values_yes hE2 HY.out ((OwnT.mk (k := 2) (n := 0) (s := []) (by unfold isI64; omega) (by simp) hO2).mono (by omega))
      have hlook := HM.out.look (k := (j : Int)) (by unfold isI64; have := HNl.out; omega)
      have hval := lastN_all l i j
      cases hla : lastN l i j l.length with
      | none =>
        rw [hla] at hlook hval
        have HY := Lib.hid (show valuesF l i = none by rw [HX.out]; exact valsF_dead hlt hval)
        obtain ⟨p0, p1, p2, p3⟩ := hB.cells
        obtain ⟨q0, q1, q2, q3⟩ := hB.frozen
        have HE := Lib.hid hE
        have HBB := Lib.hid hB
        clear hval hla hb4 hB hE HX HM HVs HO
        simp only [Option.map_none] at hlook
        go_wp2
        change bodyPost _ _ _ _ _ (set4W wr w.heap.size (.int .u8 0) (.int .i64 0) (.string { data := #[] }) (.slice none 0 0))
        obtain ⟨hE2, hb2, -⟩ := set4_facts (k := .int .u8 0) (n := .int .i64 0) (s := .string { data := #[] }) (d := .slice none 0 0) HE.out HBB.out (Nat.le_refl _)
        generalize set4W wr w.heap.size (.int .u8 0) (.int .i64 0) (.string { data := #[] }) (.slice none 0 0) = W5 at *
        obtain ⟨y0, y1, y2, y3⟩ := hb2.cells
        refine bodyPost_ret (v := .tuple #[.agg #[.int .u8 0, .int .i64 0, .string { data := #[] }, .slice none 0 0], .bool false]) (by simp [results, Tryz.results35, go_sem, y0, y1, y2, y3]) rfl ?_
        exact values_no hE2 HY.out
      | some q =>
        rw [hla] at hlook hval
        have hq := lastN_lt l i j _ q hla
        simp only [Option.map_some] at hlook hval
        have hgq : (l.getD q ndZero).val = l[q].val := by rw [List.getD_eq_getElem?_getD, List.getElem?_eq_getElem hq]; rfl
        rw [hgq] at hval
        obtain ⟨b', off', e', hb', aa', ma', ca', K'', N'', S'', D'', ⟨x0, x1, x2, x3, x4, x5, x6, x7, x8, x9, x10, x11, e0, e1, e2, e3⟩, hnv⟩ := nd_at16 HR.out hE q hq
        injection e' with e'
        injection e' with e1' e2'
        subst e1' e2'
        obtain ⟨k0, n0, s0, a0, m0, c0, rfl, rfl, rfl, rfl⟩ := hnv.four
        obtain ⟨-, hx, -⟩ := nd_parts hnv
        have hpj := HP.out l[q] (List.getElem_mem hq)
        obtain ⟨tt, htt⟩ : ∃ tt, tt = l[q].val := ⟨_, rfl⟩
        rw [← htt] at hx hpj hval
        have HV2 := Lib.hid (show valsF (j + 1) l i = some (r ++ [tt]) by rw [valsF, HVs.out.1, Option.bind_some, hval]; rfl)
        clear x0 x1 x2 x3 x4 x5 x6 x7 x8 x9 x10 x11 hnv htt hval hla hgq HX hb'
        obtain ⟨b0, b1, b2, b3⟩ := hb4.cells
        obtain ⟨z0, z1, z2, z3⟩ := hb4.frozen
        obtain ⟨xsr, hrow⟩ := HO.out.row
        have hrow0 : wr.ownsRow (V + 1) 44 4 (.slice ad j cd) j xsr := by
          rw [HVs.out.2] at hrow; exact hrow
        have hRo : ∀ k, (Value.slice ad j cd).ownBlock = some k → V + 1 ≤ k := fun k hk => (hrow0.lt k hk).1
        have HRow := Lib.hid hrow0
        have HRo := Lib.hid hRo
        obtain ⟨i0, hi0, hz0, hz1, hz2'⟩ := info_parts info_val
        have HL1 : Hid (j + 1 ≤ maxLen) := Lib.hid (by unfold maxLen; have := HNl.out; omega)
        have hj6 : j + 1 ≤ 1000000 := by have := HNl.out; omega
        obtain ⟨kt, nt, st, lt⟩ := tt
        have IH2 : Hid (∀ wx, Ext wr wx → Calls Tryz.prog 72 #[.agg #[.int .u8 k0, .int .i64 n0, .string s0, .slice a0 m0 c0]] wx (fun e w' =>
            ∃ (a4 : Option Addr) (n4 c4 : Nat), e = .returned (.agg #[.int .u8 (kt.toNat : Int), .int .i64 nt, .string (str st), .slice a4 n4 c4]) ∧ Ext wx w' ∧
              OwnT 44 w' wx.heap.size (.node kt nt st lt) (.agg #[.int .u8 (kt.toNat : Int), .int .i64 nt, .string (str st), .slice a4 n4 c4]))) :=
          Lib.hid (fun wx hEx => (copy_any _ wx _ (hx.ext (hE.trans hEx)) hpj).mono (fun e w' h => CopyPost.two h))
        have HZW := Lib.hid (Nat.le_refl wr.heap.size)
        clear hrow hrow0 hRo hx
        go_upto_region 11 with (fail)
        go_region_law (first
          | (refine step_append_lies _ (by rfl) _ _ _ (by rfl) (V + 1) 44 i0 _ 4 56 Tryz.underlying42 hi0 hz0 hz1 hz2' rfl (by omega) (.slice ad j cd) j xsr (by rfl) HR6.out ⟨w4.heap.size, 0, none⟩ 1 1 [.int .u8 (kt.toNat : Int), .int .i64 nt, .string (str st), .slice a4 n4 c4] (by rfl) (by rfl) (World.news_of_block (cs := #[.int .u8 (kt.toNat : Int), .int .i64 nt, .string (str st), .slice a4 n4 c4]) (t := 44) (fr := (0, 0)) (heap_alloc_new w4 _)) (by simp [Value.oneCell']) (by omega) HL1.out (by omega) (by simp; omega) (w4.heap.size + 1) (by simp) ?_
             intro gg cap6 w6 hown6 hgrow6 hat6 hlt6
             have S6 := (hgrow6.cell_far ⟨V, 3, none⟩ (by simp; omega) (fun e => by have := HRo.out _ e.symm; simp at this; omega)).trans ((((Ext.refl w4).alloc _).cell (p := ⟨V, 3, none⟩) hV4).trans S4)
             have S6' := (hgrow6.frozen_far ⟨V, 3, none⟩ (by simp; omega) (fun e => by have := HRo.out _ e.symm; simp at this; omega)).trans ((((Ext.refl w4).alloc _).frozen (p := ⟨V, 3, none⟩) hV4).trans S4'))
          | (go_simp
             go_at_call 72
             refine (IH2.out _ ?_).mono ?_
             · first | exact Ext.refl _ | exact (Ext.refl _).drew | exact (Ext.refl _).drewN _
             rintro e w4 ⟨a4, n4, c4, rfl, hE4', ho4⟩
             have hE4 : Ext wr w4 := Ext.trans (by first | exact Ext.refl _ | exact (Ext.refl _).drew | exact (Ext.refl _).drewN _) hE4'
             have hV4 : V < w4.heap.size := Nat.lt_of_lt_of_le hlt0 hE4.size
             have S4 := (hE4.cell (p := ⟨V, 3, none⟩) hlt0).trans b3
             have S4' := (hE4.frozen (p := ⟨V, 3, none⟩) hlt0).trans z3
             have hbr4 := hE4.size
             have HR6 : Hid ((w4.alloc (.cells #[.int .u8 (kt.toNat : Int), .int .i64 nt, .string (str st), .slice a4 n4 c4] 44)).ownsRow (V + 1) 44 4 (.slice ad j cd) j xsr) := Lib.hid ((hE4.own HRow.out).alloc _)
             have HO4 := Lib.hid ho4
             clear ho4 hE4'))
        all_goals
          have hmM := (((HM.out.ext hE4).ext ((Ext.refl w4).alloc (.cells #[.int .u8 (kt.toNat : Int), .int .i64 nt, .string (str st), .slice a4 n4 c4] 44))).kept hgrow6 (fun e => by have := HRo.out _ e; omega)).kept (grown_set w6 V 3 (.slice (some ⟨gg, 0, none⟩) (j + 1) cap6)) (fun e => by injection e with e; omega)
          have HM9 := Lib.hid hmM
          obtain ⟨y1, y2, y3, y4, y5⟩ := list_step2 (w0 := w) (V := V) (Pb := w.heap.size) (base := V + 1) (mid := wr.heap.size) (by omega) (by omega) (by omega) (by omega) hE hb4 hB HVs.out.2 HO.out hbr hE4
            (Nat.le_refl _) (HO4.out.mono (by first | exact Nat.le_refl _ | simp)) HR6.out hown6 hgrow6 hat6
          have Y4 := Lib.hid y4
          have Y5 : V + 1 ≤ (w6.setCell ⟨V, 3, none⟩ (.slice (some ⟨gg, 0, none⟩) (j + 1) cap6)).heap.size := by omega
          have HL9 : Hid (valsF (j + 1) l i = some (r ++ [.node kt nt st lt]) ∧ (r ++ [Tr.node kt nt st lt]).length = j + 1) := Lib.hid ⟨HV2.out, by rw [List.length_append, HVs.out.2]; rfl⟩
          clear y4 y5 S6 S6' S4 S4' HR6 HO4 hown6 hgrow6 hat6 hlt6 hV4 hE4 hbr4 HRow HRo HO IH2 b0 b1 b2 b3 z0 z1 z2 z3 hb4 hB hE e0 e1 e2 e3 HM hmM hlook HVs HV2
          go_wp2
          go_roundw
          case rel => exact ⟨j + 1, _, _, by omega, by go_num, y1, y2, y3, HM9, HL9, Y4, Y5⟩
          case measure => simp [intOf]; omega
end Go.Proofs.YtpcgpcjleedilaaGreatDoor

open Go.RowKit Go.Shelf
namespace Fm
open Go Go.RowKit
/-- An element of a list in memory of its own. -/
theorem ownL_at {e : TypeId} {w : World} {base : Nat} {l : List Tr} {a : Option Addr} {n c : Nat} (h : OwnL e w base l (.slice a n c)) {i : Nat} (hi : i < l.length) :
    ∃ g, a = some ⟨g, 0, none⟩ ∧ base ≤ g ∧ g < w.heap.size ∧ n = l.length ∧ ∃ (k0 n0 : Int) (s0 : ByteArray) (a0 : Option Addr) (m0 c0 : Nat), w.cell? ⟨g, i * 4, none⟩ = some (.int .u8 k0) ∧ w.cell? ⟨g, i * 4 + 1, none⟩ = some (.int .i64 n0) ∧ w.cell? ⟨g, i * 4 + 2, none⟩ = some (.string s0) ∧ w.cell? ⟨g, i * 4 + 3, none⟩ = some (.slice a0 m0 c0) ∧
      OwnT e w base l[i] (.agg #[.int .u8 k0, .int .i64 n0, .string s0, .slice a0 m0 c0]) := by
  obtain ⟨F, C, G, hrow, hch, -⟩ := h
  have hc := fun g => World.ownsRow.cells hrow (g := g)
  rcases hrow.2 with ⟨-, h0⟩ | ⟨g, cap, cur, e1, hb, hg, -⟩
  · omega
  · injection e1 with e1 e2 e3
    subst e1 e2 e3
    have hcell : ∀ j, j < 4 → w.cell? ⟨g, i * 4 + j, none⟩ = some (C i j) := fun j hj => by
      have := hc g rfl (i * 4 + j) (C i j) (cells4_at C l.length i j hi hj)
      rw [Addr.add_lit] at this
      simpa using this
    have hO := hch i hi
    generalize l[i] = t at hO
    obtain ⟨kk, nn, ss, ll⟩ := t
    obtain ⟨d', hd, -, -, hr⟩ := hO.parts
    obtain ⟨a0, c0, rfl⟩ := hr.slice
    injection hd with hd
    injection hd with hd
    simp only [List.cons.injEq, and_true] at hd
    obtain ⟨h0, h1, h2, h3⟩ := hd
    have k0 := hcell 0 (by omega)
    have k1 := hcell 1 (by omega)
    have k2 := hcell 2 (by omega)
    have k3 := hcell 3 (by omega)
    rw [h0] at k0 hO; rw [h1] at k1 hO; rw [h2] at k2 hO; rw [h3] at k3 hO
    exact ⟨g, rfl, hb, (Array.getElem?_eq_some_iff.1 hg).1, rfl, _, _, _, _, _, _, k0, k1, k2, k3, G i, hO⟩
theorem aft_drop_ok {l : List Nd} {xs : List Int} {j : Nat} (hj : j < xs.length) (h : placeF l xs[j] = true ∧ (nthF l xs[j]).stand = 4) (r : List Tr) {x : Option (List Tr)} (hx : x = (aftF l (xs.drop j)).map (r ++ ·)) : x = (aftF l (xs.drop (j + 1))).map ((r ++ [(nthF l xs[j]).val]) ++ ·) := by
  rw [hx, List.drop_eq_getElem_cons hj, aftF, if_pos h]
  cases aftF l (xs.drop (j + 1)) with
  | none => rfl
  | some q => simp
theorem aft_drop_no {l : List Nd} {xs : List Int} {j : Nat} (hj : j < xs.length) (h : ¬ (placeF l xs[j] = true ∧ (nthF l xs[j]).stand = 4)) (r : List Tr) {x : Option (List Tr)} (hx : x = (aftF l (xs.drop j)).map (r ++ ·)) : x = none := by
  rw [hx, List.drop_eq_getElem_cons hj, aftF, if_neg h]; rfl
theorem aft_drop_end {l : List Nd} {xs : List Int} (r : List Tr) {x : Option (List Tr)} (hx : x = (aftF l (xs.drop xs.length)).map (r ++ ·)) : x = some r := by
  rw [hx, List.drop_length]
  show some (r ++ []) = _
  rw [List.append_nil]
end Fm
namespace Go.Proofs.YtpcgpcjleedilaaGreatDoor
open Go Go.Proofs Fm

/-- What own comes to. -/
def OwnPost (w : World) (l : List Nd) (x : Nd) (e : Ending) (w' : World) : Prop :=
  ∃ (k0 n0 : Int) (s0 : ByteArray) (a0 : Option Addr) (m0 c0 : Nat) (b : Bool), e = .returned (.tuple #[.agg #[.int .u8 k0, .int .i64 n0, .string s0, .slice a0 m0 c0], .bool b]) ∧ Ext w w' ∧ (∀ t, ownF l x = some t → b = true ∧ OwnT 44 w' w.heap.size t (.agg #[.int .u8 k0, .int .i64 n0, .string s0, .slice a0 m0 c0])) ∧ (ownF l x = none → b = false)
theorem own_no {w w' : World} {l : List Nd} {x : Nd} (hE : Ext w w') (h : ownF l x = none) : OwnPost w l x (.returned (.tuple #[.agg #[.int .u8 0, .int .i64 0, .string { data := #[] }, .slice none 0 0], .bool false])) w' :=
  ⟨_, _, _, _, _, _, _, rfl, hE, fun r hr => (by rw [h] at hr; cases hr), fun _ => rfl⟩
theorem own_yes {w w' : World} {l : List Nd} {x : Nd} {t : Tr} {k0 n0 : Int} {s0 : ByteArray} {a0 : Option Addr} {m0 c0 : Nat} (hE : Ext w w') (h : ownF l x = some t) (ho : OwnT 44 w' w.heap.size t (.agg #[.int .u8 k0, .int .i64 n0, .string s0, .slice a0 m0 c0])) : OwnPost w l x (.returned (.tuple #[.agg #[.int .u8 k0, .int .i64 n0, .string s0, .slice a0 m0 c0], .bool true])) w' :=
  ⟨_, _, _, _, _, _, _, rfl, hE, fun q hq => (by rw [h] at hq; injection hq with hq; subst hq; exact ⟨rfl, ho⟩), fun hn => (by rw [h] at hn; cases hn)⟩
set_option maxRecDepth 100000 in
set_option maxHeartbeats 4000000 in
theorem fown_any (l : List Nd) (x : Nd) (hp : ∀ x, x ∈ l → partsT x.val ≤ 1000000) (w : World) (v : Value) (h : ndE.Row w l v) (Cs : List Value) (hx : NdV w x (.agg Cs.toArray)) :
    Calls Tryz.prog 73 #[v, .agg Cs.toArray] w (OwnPost w l x) := by
  have HP := Lib.hid hp
  have HR := Lib.hid h
  obtain ⟨a, c, rfl, hc1, hc2⟩ := h.slice
  have HX := Lib.hid (show ownF l x = if (listF l x.owner).2 = 0 ∧ 0 ≤ x.place ∧ x.place < (listF l x.owner).1.length then some ((listF l x.owner).1.getD x.place.toNat zT) else none from rfl)
  have HCo : Hid (Cs[4]? = some (.int .i64 x.owner) ∧ Cs[5]? = some (.int .i64 x.place)) := Lib.hid (by
    obtain ⟨a, m, c, k, N, s, l, e, -⟩ := hx
    injection e with e
    injection e with e
    rw [e]; exact ⟨rfl, rfl⟩)
  have hB := BoxL.new w Cs 46
  have hE := (Ext.refl w).alloc (.cells Cs.toArray 46)
  have HPl := Lib.hid hx.wf.2.2.2.2.1
  clear hp h hx
  go_enter Tryz.func73, Tryz.ntmps73
  go_upto_region 1 with (fail)
  have hBr := Box4.new (w.alloc (.cells Cs.toArray 46)) (.int .u8 0) (.int .i64 0) (.string { data := #[] }) (.slice none 0 0)
  have hEr := (Ext.refl (w.alloc (.cells Cs.toArray 46))).alloc (.cells #[.int .u8 0, .int .i64 0, .string { data := #[] }, .slice none 0 0] 44)
  have hz : (w.alloc (.cells Cs.toArray 46)).heap.size = w.heap.size + 1 := by simp
  rw [hz] at hBr
  have hE1 := hE.trans hEr
  have hB1 := hB.ext hEr
  clear hB hE hEr hz
  generalize (w.alloc (.cells Cs.toArray 46)).alloc (.cells #[.int .u8 0, .int .i64 0, .string { data := #[] }, .slice none 0 0] 44) = W1 at *
  have p4 := hB1.cell 4 _ HCo.out.1
  have HC := Lib.hid (flist_any l x.owner HP.out W1 _ (HR.out.ext hE1))
  have HE1 := Lib.hid hE1
  have HB1 := Lib.hid hB1
  have HBr := Lib.hid hBr
  clear hE1 hB1 hBr
  go_wp2_with fail
  refine HC.out.mono ?_
  rintro e w2 ⟨d, rfl, hE2, hO⟩
  obtain ⟨L, fv, hL⟩ : ∃ L fv, listF l x.owner = (L, fv) := ⟨_, _, rfl⟩
  rw [hL] at hO HX ⊢
  dsimp only at hO HX ⊢
  obtain ⟨a2, c2, rfl⟩ : ∃ a c, d = .slice a L.length c := by
    obtain ⟨F, h⟩ := hO
    exact h.slice
  have hB2 := HB1.out.ext hE2
  have hBr2 := HBr.out.ext hE2
  have hE02 := HE1.out.trans hE2
  have q5 := hB2.cell 5 _ HCo.out.2
  have ⟨r0, r1, r2, r3⟩ := hBr2.cells
  have ⟨s0, s1, s2, s3⟩ := hBr2.frozen
  have HE02 := Lib.hid hE02
  have HBr2 := Lib.hid hBr2
  have HO := Lib.hid hO
  have hz1 := HE1.out.size
  have hlt2 := hB2.lt
  have hlt1 := HBr.out.lt
  have hPl := HPl.out
  unfold isI64 at hPl
  clear HC hE2 p4 hL hO hB2 hBr2 hE02 HB1 HBr HPl
  by_cases hf : fv = 0
  case neg =>
    have HY := Lib.hid (show ownF l x = none by rw [HX.out, if_neg (fun h => hf h.1)])
    have g1 : (fv != 0) = true := by simp [hf]
    clear HX hf
    go_wp2
    change bodyPost _ _ _ _ _ (set4W w2 (w.heap.size + 1) (.int .u8 0) (.int .i64 0) (.string { data := #[] }) (.slice none 0 0))
    obtain ⟨hE2, hb2, -⟩ := set4_facts (k := .int .u8 0) (n := .int .i64 0) (s := .string { data := #[] }) (d := .slice none 0 0) HE02.out HBr2.out (by omega)
    generalize set4W w2 (w.heap.size + 1) (.int .u8 0) (.int .i64 0) (.string { data := #[] }) (.slice none 0 0) = W3 at *
    obtain ⟨y0, y1, y2, y3⟩ := hb2.cells
    refine bodyPost_ret (v := .tuple #[.agg #[.int .u8 0, .int .i64 0, .string { data := #[] }, .slice none 0 0], .bool false]) (by simp [results, Tryz.results73, go_sem, y0, y1, y2, y3]) rfl ?_
    exact own_no hE2 HY.out
  have g1 : (fv != 0) = false := by simp [hf]
  by_cases h1 : 0 ≤ x.place ∧ x.place < (L.length : Int)
  case neg =>
    have HY := Lib.hid (show ownF l x = none by rw [HX.out, if_neg (fun h => h1 h.2)])
    rcases Int.lt_or_le x.place 0 with h2 | h2
    · clear HX hf h1
      go_wp2
      change bodyPost _ _ _ _ _ (set4W w2 (w.heap.size + 1) (.int .u8 0) (.int .i64 0) (.string { data := #[] }) (.slice none 0 0))
      obtain ⟨hE2, hb2, -⟩ := set4_facts (k := .int .u8 0) (n := .int .i64 0) (s := .string { data := #[] }) (d := .slice none 0 0) HE02.out HBr2.out (by omega)
      generalize set4W w2 (w.heap.size + 1) (.int .u8 0) (.int .i64 0) (.string { data := #[] }) (.slice none 0 0) = W3 at *
      obtain ⟨y0, y1, y2, y3⟩ := hb2.cells
      refine bodyPost_ret (v := .tuple #[.agg #[.int .u8 0, .int .i64 0, .string { data := #[] }, .slice none 0 0], .bool false]) (by simp [results, Tryz.results73, go_sem, y0, y1, y2, y3]) rfl ?_
      exact own_no hE2 HY.out
    · have h3 : (L.length : Int) ≤ x.place := by omega
      clear HX hf h1
      go_wp2
      change bodyPost _ _ _ _ _ (set4W w2 (w.heap.size + 1) (.int .u8 0) (.int .i64 0) (.string { data := #[] }) (.slice none 0 0))
      obtain ⟨hE2, hb2, -⟩ := set4_facts (k := .int .u8 0) (n := .int .i64 0) (s := .string { data := #[] }) (d := .slice none 0 0) HE02.out HBr2.out (by omega)
      generalize set4W w2 (w.heap.size + 1) (.int .u8 0) (.int .i64 0) (.string { data := #[] }) (.slice none 0 0) = W3 at *
      obtain ⟨y0, y1, y2, y3⟩ := hb2.cells
      refine bodyPost_ret (v := .tuple #[.agg #[.int .u8 0, .int .i64 0, .string { data := #[] }, .slice none 0 0], .bool false]) (by simp [results, Tryz.results73, go_sem, y0, y1, y2, y3]) rfl ?_
      exact own_no hE2 HY.out
  obtain ⟨h1a, h1b⟩ := h1
  obtain ⟨p, hpp⟩ : ∃ p : Nat, x.place = (p : Int) := ⟨x.place.toNat, by omega⟩
  rw [hpp] at q5 h1a h1b HX hPl
  have hpl : p < L.length := by omega
  have HY := Lib.hid (show ownF l x = some L[p] by
    rw [HX.out, if_pos ⟨hf, h1a, h1b⟩]
    simp [hpl])
  obtain ⟨g, rfl, hbg, hg, -, k0, n0, t0, a0, m0, c0, e0, e1, e2, e3, hOt⟩ := ownL_at HO.out hpl
  have HOt := Lib.hid hOt
  clear HX hf hOt HO hpp
  go_wp2
  change bodyPost _ _ _ _ _ (set4W w2 (w.heap.size + 1) (.int .u8 k0) (.int .i64 n0) (.string t0) (.slice a0 m0 c0))
  obtain ⟨hE2, hb2, hg2⟩ := set4_facts (k := .int .u8 k0) (n := .int .i64 n0) (s := .string t0) (d := .slice a0 m0 c0) HE02.out HBr2.out (by omega)
  have hO2 := (HOt.out.grown hg2 (fun b hb => by injection hb with hb; omega)).mono hz1
  generalize set4W w2 (w.heap.size + 1) (.int .u8 k0) (.int .i64 n0) (.string t0) (.slice a0 m0 c0) = W3 at *
  obtain ⟨y0, y1, y2, y3⟩ := hb2.cells
  refine bodyPost_ret (v := .tuple #[.agg #[.int .u8 k0, .int .i64 n0, .string t0, .slice a0 m0 c0], .bool true]) (by simp [results, Tryz.results73, go_sem, y0, y1, y2, y3]) rfl ?_
  exact own_yes hE2 HY.out hO2
/-- A node of a row, whole. -/
theorem nd_range {w wr : World} {l : List Nd} {a : Option Addr} {n cap : Nat} (h : ndE.Row w l (.slice a n cap)) (hE : Ext w wr) (i : Nat) (hi : i < l.length) :
    ∃ (b off : Nat) (Cs : List Value) (aa : Option Addr) (ca : Nat) (k0 n0 : Int) (s0 : ByteArray) (a0 : Option Addr) (m0 c0 : Nat), a = some ⟨b, off, none⟩ ∧ b < w.heap.size ∧ Cs = ndCells l[i] (.slice aa l[i].after.length ca) (.int .u8 k0) (.int .i64 n0) (.string s0) (.slice a0 m0 c0) ∧ wr.rangeAt b (off + i * 16) Cs ∧ NdV w l[i] (.agg Cs.toArray) ∧
      Cs.length = 16 ∧ (∀ u, u ∈ Cs → u.oneCell' = true) ∧ intE.Row w l[i].after (.slice aa l[i].after.length ca) ∧ Lies w l[i].val (.agg #[.int .u8 k0, .int .i64 n0, .string s0, .slice a0 m0 c0]) := by
  obtain ⟨g, off, rfl, hb, aa, ma, ca, K', N', S', D', ⟨c0, c1, c2, c3, c4, c5, c6, c7, c8, c9, c10, c11, c12, c13, c14, c15⟩, hnv⟩ := nd_at16 h hE i hi
  obtain ⟨hrow, hlies, -⟩ := nd_parts hnv
  have hml : ma = l[i].after.length := by
    obtain ⟨_, _, e, _⟩ := hrow.slice
    injection e
  subst hml
  obtain ⟨k0, n0, s0, a0, m0, d0, rfl, rfl, rfl, rfl⟩ := hnv.four
  refine ⟨g, off, _, aa, ca, k0, n0, s0, a0, m0, d0, rfl, hb, rfl, ?_, hnv, rfl, ?_, hrow, hlies⟩
  · intro j v hv
    match j, hv with
    | 0, hv => (injection hv with hv; rw [← hv]; exact c0)
    | 1, hv => (injection hv with hv; rw [← hv]; exact c1)
    | 2, hv => (injection hv with hv; rw [← hv]; exact c2)
    | 3, hv => (injection hv with hv; rw [← hv]; exact c3)
    | 4, hv => (injection hv with hv; rw [← hv]; exact c4)
    | 5, hv => (injection hv with hv; rw [← hv]; exact c5)
    | 6, hv => (injection hv with hv; rw [← hv]; exact c6)
    | 7, hv => (injection hv with hv; rw [← hv]; exact c7)
    | 8, hv => (injection hv with hv; rw [← hv]; exact c8)
    | 9, hv => (injection hv with hv; rw [← hv]; exact c9)
    | 10, hv => (injection hv with hv; rw [← hv]; exact c10)
    | 11, hv => (injection hv with hv; rw [← hv]; exact c11)
    | 12, hv => (injection hv with hv; rw [← hv]; exact c12)
    | 13, hv => (injection hv with hv; rw [← hv]; exact c13)
    | 14, hv => (injection hv with hv; rw [← hv]; exact c14)
    | 15, hv => (injection hv with hv; rw [← hv]; exact c15)
    | j + 16, hv => cases hv
  · intro u hu
    simp only [ndCells, List.mem_cons, List.not_mem_nil, or_false] at hu
    rcases hu with rfl | rfl | rfl | rfl | rfl | rfl | rfl | rfl | rfl | rfl | rfl | rfl | rfl | rfl | rfl | rfl <;> rfl
/-- What Input comes to. -/
def InputPost (w : World) (l : List Nd) (i : Int) (e : Ending) (w' : World) : Prop :=
  ∃ (A : Option Addr) (m c : Nat) (b : Bool), e = .returned (.tuple #[.slice A m c, .bool b]) ∧ Ext w w' ∧ (∀ r, inputF l i = some r → b = true ∧ OwnL 44 w' w.heap.size r (.slice A m c)) ∧ (inputF l i = none → b = false ∧ A = none ∧ m = 0 ∧ c = 0)
theorem input_no {w w' : World} {l : List Nd} {i : Int} (hE : Ext w w') (h : inputF l i = none) : InputPost w l i (.returned (.tuple #[.slice none 0 0, .bool false])) w' :=
  ⟨_, _, _, _, rfl, hE, fun r hr => (by rw [h] at hr; cases hr), fun _ => ⟨rfl, rfl, rfl, rfl⟩⟩
theorem input_yes {w w' : World} {l : List Nd} {i : Int} {r : List Tr} {A : Option Addr} {m c : Nat} (hE : Ext w w') (h : inputF l i = some r) (ho : OwnL 44 w' w.heap.size r (.slice A m c)) : InputPost w l i (.returned (.tuple #[.slice A m c, .bool true])) w' :=
  ⟨_, _, _, _, rfl, hE, fun q hq => (by rw [h] at hq; injection hq with hq; subst hq; exact ⟨rfl, ho⟩), fun hn => (by rw [h] at hn; cases hn)⟩
set_option maxRecDepth 100000 in
set_option maxHeartbeats 8000000 in
theorem finput_any (l : List Nd) (i : Int) (hp : ∀ x, x ∈ l → partsT x.val ≤ 1000000 ∧ x.after.length ≤ 900) (w : World) (v : Value) (h : ndE.Row w l v) :
    Calls Tryz.prog 37 #[v, .int .i64 i] w (InputPost w l i) := by
  have HP := Lib.hid hp
  have HR := Lib.hid h
  obtain ⟨a, c, rfl, hc1, hc2⟩ := h.slice
  have HX := Lib.hid (show inputF l i = if placeF l i = true then
    if (nthF l i).kind = 2 then (ownF l (nthF l i)).bind fun v => (aftF l (nthF l i).after).map (v :: ·)
    else if (nthF l i).kind = 0 then aftF l (nthF l i).after else none
  else none from rfl)
  have HC := Lib.hid (fplace_any l i w _ h)
  clear hp h
  go_enter Tryz.func37, Tryz.ntmps37
  go_wp2_with fail
  refine HC.out.mono ?_
  rintro e w1 ⟨rfl, rfl⟩
  clear HC
  cases hpl : placeF l i with
  | false =>
    have HY := Lib.hid (show inputF l i = none by rw [HX.out, hpl]; rfl)
    clear hpl HX
    go_wp2
    go_ret2
    exact input_no (Ext.refl _) HY.out
  | true =>
    obtain ⟨hm0, hm1⟩ := place_iff.1 hpl
    obtain ⟨p, rfl⟩ : ∃ p : Nat, i = (p : Int) := ⟨i.toNat, by omega⟩
    have hi : p < l.length := by omega
    have HX := Lib.hid (show inputF l p = if l[p].kind = 2 then (ownF l l[p]).bind fun v => (aftF l l[p].after).map (v :: ·) else if l[p].kind = 0 then aftF l l[p].after else none by rw [HX.out, hpl, nth_at hi]; rfl)
    obtain ⟨g, off, Cs, aa, ca, k0, n0, s0, a0, m0, c0, rfl, hb, hCs, hrg, hnv, hl16, hone, hrow, -⟩ := nd_range HR.out (Ext.refl w) p hi
    have HRg := Lib.hid hrg
    have HLn : Hid ((Tryz.prog.info? 46).map (·.size) = some Cs.length) := Lib.hid (by rw [hl16]; exact sizenode_F)
    have HL16 := Lib.hid hl16
    have HN1 := Lib.hid hone
    have HCo : Hid (Cs[2]? = some (.int .u8 (l[p].kind.toNat : Int)) ∧ Cs[6]? = some (.slice aa l[p].after.length ca)) := Lib.hid (by rw [hCs]; exact ⟨rfl, rfl⟩)
    have HNV := Lib.hid hnv
    have HAR := Lib.hid hrow
    clear hrg hnv hCs hrow hm0 hm1 hpl hl16 hone
    go_upto_region 4 with (first | (refine wpList_load_mid rfl _ _ rfl _ _ rfl _ _ HRg.out Tryz.underlying46 rfl HLn.out ?_) | (refine wpList_storeBox rfl _ _ _ rfl _ _ _ _ rfl rfl rfl rfl sizenode_F rfl HL16.out HN1.out ?_))
    have hE1 := (Ext.refl w).alloc (.cells Cs.toArray 46)
    have hB1 := BoxL.new w Cs 46
    have HBr := Lib.hid (rangeAt_new w Cs 46)
    generalize w.alloc (.cells Cs.toArray 46) = W1 at *
    have q2 := hB1.cell 2 _ HCo.out.1
    have HE1 := Lib.hid hE1
    have HB1 := Lib.hid hB1
    have hk2 := u8_one (k := l[p].kind) 2
    rw [show (((2 : UInt8).toNat : Nat) : Int) = 2 from rfl] at hk2
    have hk0 := u8_one (k := l[p].kind) 0
    rw [show (((0 : UInt8).toNat : Nat) : Int) = 0 from rfl] at hk0
    obtain ⟨K, hK⟩ : ∃ K, K = (l[p].kind.toNat : Int) := ⟨_, rfl⟩
    rw [← hK] at q2 hk0 hk2
    clear hK hE1 hB1
    by_cases h2 : l[p].kind = 2
    case' pos =>
      have f2 : (K == 2) = true := by rw [hk2]; simpa using h2
      have HX := Lib.hid (show inputF l p = (ownF l l[p]).bind fun v => (aftF l l[p].after).map (v :: ·) by rw [HX.out, if_pos h2])
      have HOC := Lib.hid (fown_any l l[p] (fun x hx => (HP.out x hx).1) W1 _ (HR.out.ext HE1.out) Cs (HNV.out.ext HE1.out))
      clear hk0 hk2 h2
      go_wp2_with (refine wpList_load_mid rfl _ _ rfl _ _ rfl _ _ HBr.out Tryz.underlying46 rfl HLn.out ?_)
      refine HOC.out.mono ?_
      rintro e w2 ⟨x0, x1, x2, x3, x4, x5, bo, rfl, hE2, hyes, hno⟩
      have hE3 := (Ext.refl w2).alloc (.cells #[.int .u8 x0, .int .i64 x1, .string x2, .slice x3 x4 x5] 44)
      have hB3 := Box4.new w2 (.int .u8 x0) (.int .i64 x1) (.string x2) (.slice x3 x4 x5)
      have HE2 := Lib.hid (HE1.out.trans hE2)
      have HE12 := Lib.hid hE2
      have HB2 := Lib.hid (HB1.out.ext hE2)
      clear HOC q2 hE2
      cases ho : ownF l l[p]
      case none =>
        have HY := Lib.hid (show inputF l p = none by rw [HX.out, ho]; rfl)
        obtain rfl := hno ho
        have HE4 := Lib.hid (HE2.out.trans hE3)
        clear hyes hno ho HX hB3 hE3
        go_wp2
        go_ret2
        exact input_no HE4.out HY.out
      rename_i t
      obtain ⟨rfl, hOt⟩ := hyes t ho
      have HX := Lib.hid (show inputF l p = (aftF l (l[p].after.drop 0)).map ([t] ++ ·) by rw [HX.out, ho]; rfl)
      have HOt := Lib.hid ((hOt.mono HE1.out.size).ext hE3)
      have HE4 := Lib.hid (HE2.out.trans hE3)
      have HB4 := Lib.hid (HB2.out.ext hE3)
      clear hyes hno ho hOt HE12 HE2 HB2 HE1 HB1 hE3
      go_upto_region 9 with (fail)
      generalize hW3 : w2.alloc (.cells #[.int .u8 x0, .int .i64 x1, .string x2, .slice x3 x4 x5] 44) = W3 at *
      clear hW3
      have ⟨b0, b1, b2, b3⟩ := hB3.cells
      have hE5 := (Ext.refl W3).alloc (.cells #[.int .u8 x0, .int .i64 x1, .string x2, .slice x3 x4 x5] 44)
      have HBn := Lib.hid (heap_alloc_new W3 (.cells #[.int .u8 x0, .int .i64 x1, .string x2, .slice x3 x4 x5] 44))
      have HE5 := Lib.hid (HE4.out.trans hE5)
      have HOt5 := Lib.hid (HOt.out.ext hE5)
      have HB5 := Lib.hid (HB4.out.ext hE5)
      clear hB3 hE5 HOt HB4 HE4
      go_wp2_with (at_builtin; refine wpList_appOne elemval_F rfl _ _ rfl (base := w.heap.size) (k := 0) (xs := []) rfl (World.ownsRow_nil _ _ _ _) (news := [.int .u8 x0, .int .i64 x1, .string x2, .slice x3 x4 x5]) rfl HBn.out rfl (by simp [Value.oneCell']) (by omega) (by omega) HE5.out.size ?_)
      intro v6 w6 hown6 hgr6 hat6
      obtain ⟨gg, cap6, rfl, -, -⟩ := World.ownsRow.form hown6 (by omega)
      have HO := Lib.hid (OwnL.snoc (w0 := w) (mid := w.heap.size) (OwnL.nil 44 w w.heap.size) (Nat.le_refl _) (fun b h1 h2 => absurd h1 (by omega)) HOt5.out (Nat.le_refl _) hgr6 (World.ownsRow_nil _ _ _ _) hown6 (by rcases hat6 with h | h; exact .inl h; exact .inr (by rw [h]; simp)))
      have HE6 := Lib.hid (HE5.out.grown hgr6 (fun k hk => by cases hk))
      have HB6 := Lib.hid (HB5.out.kept hgr6 (by simp [Value.ownBlock]))
      clear hown6 hgr6 hat6 HBn HE5 HOt5 HB5 b0 b1 b2 b3
      have q6 := HB6.out.cell 6 _ HCo.out.2
      go_wp2_with fail
      clear f2
    case' neg =>
      have f2 : (K == 2) = false := by rw [hk2]; simpa using h2
      by_cases h0 : l[p].kind = 0
      case neg =>
        have f0 : (K == 0) = false := by rw [hk0]; simpa using h0
        have HY := Lib.hid (show inputF l p = none by rw [HX.out, if_neg h2, if_neg h0])
        clear hk0 hk2 h2 h0 HX
        go_wp2
        go_ret2
        exact input_no HE1.out HY.out
      have f0 : (K == 0) = true := by rw [hk0]; simpa using h0
      have HX := Lib.hid (show inputF l p = (aftF l (l[p].after.drop 0)).map ([] ++ ·) by
        rw [HX.out, if_neg h2, if_pos h0, List.drop_zero]
        cases aftF l l[p].after <;> rfl)
      have HO := Lib.hid (OwnL.nil 44 W1 w.heap.size)
      have HE6 := HE1
      have HB6 := HB1
      clear hk0 hk2 h2 h0 HE1 HB1
      have q6 := HB6.out.cell 6 _ HCo.out.2
      go_wp2_with fail
      clear f2 f0
    all_goals
      go_loopw [41, 7] (fun i' o wr => ∃ (j : Nat) (A : Option Addr) (n C : Nat) (r : List Tr), j ≤ l[p].after.length ∧ i' = .int .i64 j ∧ o = .slice A n C ∧ r.length ≤ j + 1 ∧ Hid (Ext w wr) ∧ Hid (OwnL 44 wr w.heap.size r (.slice A n C)) ∧ Hid (inputF l p = (aftF l (l[p].after.drop j)).map (r ++ ·))) (fun i' _ _ => l[p].after.length - (intOf i').toNat)
      case atStart => exact ⟨0, _, _, _, _, by omega, rfl, rfl, by simp, HE6, HO, HX⟩
      case round =>
        obtain ⟨j, A, n, C, r, hj, rfl, rfl, hrl, HE, HO, HX⟩ := hrel
        by_cases hlt : j < l[p].after.length
        case neg =>
          obtain rfl : j = l[p].after.length := by omega
          have HY := Lib.hid (aft_drop_end r HX.out)
          clear HX
          go_wp2
          go_ret2
          exact input_yes HE.out HY.out HO.out
        have haf9 := (HP.out l[p] (List.getElem_mem hi)).2
        have hrow := HAR.out
        obtain ⟨b3, o3, rfl, hb3, u0, hu0⟩ := int_at hrow HE.out j hlt
        have HOK := Lib.hid (fun h => aft_drop_ok hlt h r HX.out)
        have HNO := Lib.hid (fun h => aft_drop_no hlt h r HX.out)
        have HC2 := Lib.hid (fplace_any l l[p].after[j] wr _ (HR.out.ext HE.out))
        have hj0 : (0 : Int) ≤ (j : Int) := by omega
        have hj1 : (j : Int) < (l[p].after.length : Int) := by omega
        clear HX hrow
        generalize l[p].after[j] = y0 at *
        go_wp2_with fail
        refine HC2.out.mono ?_
        rintro e w3 ⟨rfl, rfl⟩
        clear HC2
        cases hpa : placeF l y0 with
        | false =>
          have HY := Lib.hid (HNO.out (fun h => by rw [hpa] at h; cases h.1))
          clear hpa HOK HNO
          go_wp2
          go_ret2
          exact input_no HE.out HY.out
        | true =>
          obtain ⟨hm0, hm1⟩ := place_iff.1 hpa
          obtain ⟨q, rfl⟩ : ∃ q : Nat, y0 = (q : Int) := ⟨y0.toNat, by omega⟩
          have hq : q < l.length := by omega
          obtain ⟨b', off', e', hb', aa', ma', ca', K', N', S', D', ⟨x0, x1, x2, x3, x4, x5, x6, x7, x8, c9, x10, x11, e0, e1, e2, e3⟩, hnv⟩ := nd_at16 HR.out HE.out q hq
          injection e' with e'
          injection e' with e1' e2'
          subst e1' e2'
          have hs := u8_one (k := l[q].stand) 4
          rw [show (((4 : UInt8).toNat : Nat) : Int) = 4 from rfl] at hs
          obtain ⟨S, hS⟩ : ∃ S, S = (l[q].stand.toNat : Int) := ⟨_, rfl⟩
          rw [← hS] at c9 hs
          have hnq : nthF l (q : Int) = l[q] := nth_at hq
          clear x0 x1 x2 x3 x4 x5 x6 x7 x8 x10 x11 hS hb'
          by_cases h4 : l[q].stand = 4
          case neg =>
            have s1 : (S == 4) = false := by rw [hs]; simpa using h4
            have s2 : (S != 4) = true := by rw [bne, s1]; rfl
            have HY := Lib.hid (HNO.out (fun h => h4 (by rw [hnq] at h; exact h.2)))
            clear hpa HOK HNO hs h4 hnq hnv
            go_wp2
            go_ret2
            exact input_no HE.out HY.out
          have s1 : (S == 4) = true := by rw [hs]; simpa using h4
          have s2 : (S != 4) = false := by rw [bne, s1]; rfl
          have HX := Lib.hid (HOK.out ⟨hpa, by rw [hnq]; exact h4⟩)
          rw [hnq] at HX
          obtain ⟨k0, n0, s0, a0, m0, c0, rfl, rfl, rfl, rfl⟩ := hnv.four
          obtain ⟨-, hx, -⟩ := nd_parts hnv
          have hpj := (HP.out l[q] (List.getElem_mem hq)).1
          obtain ⟨tt, htt⟩ : ∃ tt, tt = l[q].val := ⟨_, rfl⟩
          rw [← htt] at hx hpj HX
          obtain ⟨kt, nt, st, lt⟩ := tt
          have HCp := Lib.hid ((copy_any _ wr _ (hx.ext HE.out) hpj).mono (fun e w' h => CopyPost.two h))
          clear hpa HOK HNO hs h4 hnq hnv htt hx hpj hm0 hm1
          go_wp2_with fail
          refine HCp.out.mono ?_
          rintro e w4 ⟨a4, n4, c4, rfl, hE4, hO4⟩
          obtain ⟨xsr, hrow⟩ := HO.out.row
          have hnr : n = r.length := by
            obtain ⟨F, h⟩ := HO.out
            obtain ⟨a9, c9, h⟩ := h.slice
            injection h
          subst hnr
          have hEa := (Ext.refl w4).alloc (.cells #[.int .u8 (kt.toNat : Int), .int .i64 nt, .string (str st), .slice a4 n4 c4] 44)
          have HBn := Lib.hid (heap_alloc_new w4 (.cells #[.int .u8 (kt.toNat : Int), .int .i64 nt, .string (str st), .slice a4 n4 c4] 44))
          have HRw : Hid ((w4.alloc (.cells #[.int .u8 (kt.toNat : Int), .int .i64 nt, .string (str st), .slice a4 n4 c4] 44)).ownsRow w.heap.size 44 4 (.slice A r.length C) r.length xsr) := Lib.hid ((hE4.trans hEa).own hrow)
          have HOt5 := Lib.hid (hO4.ext hEa)
          have HE5 := Lib.hid (HE.out.trans (hE4.trans hEa))
          have HE45 := Lib.hid (hE4.trans hEa)
          have hEs := HE.out.size
          clear hE4 hEa hO4 hrow HCp
          go_wp2_with (at_builtin; refine wpList_appOne elemval_F rfl _ _ rfl rfl HRw.out (news := [.int .u8 (kt.toNat : Int), .int .i64 nt, .string (str st), .slice a4 n4 c4]) rfl HBn.out rfl (by simp [Value.oneCell']) (by omega) (by omega) HE5.out.size ?_)
          intro v6 w6 hown6 hgr6 hat6
          obtain ⟨gg, cap6, rfl⟩ := ownsRow_succ hown6
          have HO9 := Lib.hid (OwnL.snoc (w0 := wr) (mid := wr.heap.size) HO.out (Nat.le_refl _) (fun b h1 h2 => HE45.out.grownBy.block b h2 (by simp)) HOt5.out hEs hgr6 HRw.out hown6 (by rcases hat6 with h | h; exact .inl h; exact .inr (by rw [h]; simp)))
          have HE9 := Lib.hid (HE5.out.grown hgr6 (fun k hk => (World.ownsRow.lt HRw.out k hk).1))
          clear hown6 hgr6 hat6 HBn HE5 HOt5 HRw HE45 HO c9 e0 e1 e2 e3 u0 HE
          go_wp2
          go_roundw
          case rel => exact ⟨j + 1, _, _, _, _, by omega, by go_num, rfl, by rw [List.length_append]; simp; omega, HE9, HO9, HX⟩
          case measure => simp [intOf]; omega
end Go.Proofs.YtpcgpcjleedilaaGreatDoor

namespace Fm
open Go Go.RowKit

theorem itoa_sm {n : Nat} (h : n < 10) : Lib.itoa (n : Int) = [UInt8.ofNat (48 + n)] := by
  rw [itoa_decD (by omega), Int.toNat_natCast, Lib.decDigits_one h]
theorem itoa0 : Lib.itoa 0 = [48] := itoa_sm (n := 0) (by omega)
theorem itoa1 : Lib.itoa 1 = [49] := itoa_sm (n := 1) (by omega)
theorem idPof {p : Pth} {s : List UInt8} (h : pthB p = true) (hs : pthS p = s) (hl : s.length ≤ 400) : idP p = s := by
  unfold idP
  rw [showP_right h, hs, if_pos hl]
def awA : Nd := ⟨[48, 47, 97], [], 0, 0, -1, 0, [], 0, 0, 4, 0, 0, listV [numT 5, numT 7]⟩
def awM (w : Int) : Nd := ⟨[48, 47, 109], [], 1, 0, -1, 0, [0], w, 0, 0, 0, 0, zT⟩
def awE (k : Nat) : Nd := eachNd (awM 2) 1 k
def awD (k : Nat) (x : Int) : Nd := { awE k with stand := 4, val := numT x }
def aw0 : List Nd := [awA, awM 2, awE 0, awE 1]
def aw1 : List Nd := [awA, awM 2, awE 0, awD 1 70]
def aw2 : List Nd := [awA, awM 2, awD 0 50, awD 1 70]
def aw3 : List Nd := [awA, awM 1, awD 0 50, awD 1 70]
def aw4 : List Nd := [{ awA with val := numT 3 }, awM 1, awD 0 50, awD 1 70]
theorem p0m_s : pthS ⟨0, [⟨[109], -1⟩]⟩ = [48, 47, 109] := by unfold pthS; rw [itoa0]; rfl
theorem p0m0_s : pthS ⟨0, [⟨[109], 0⟩]⟩ = [48, 47, 109, 91, 48, 93] := by
  unfold pthS stepsS stpS placeS
  simp only [List.map_cons, List.map_nil, List.flatten_cons, List.flatten_nil, itoa0]
  rfl
theorem p0m1_s : pthS ⟨0, [⟨[109], 1⟩]⟩ = [48, 47, 109, 91, 49, 93] := by
  unfold pthS stepsS stpS placeS
  simp only [List.map_cons, List.map_nil, List.flatten_cons, List.flatten_nil, itoa0, itoa1]
  rfl
theorem p0m_p : parseP [48, 47, 109] = some ⟨0, [⟨[109], -1⟩]⟩ := parseP_iff.2 ⟨by decide, p0m_s, by decide⟩
theorem awE0_id : (awE 0).id = [48, 47, 109, 91, 48, 93] := by
  show eachS [48, 47, 109] 0 = _
  unfold eachS; rw [p0m_p]
  exact idPof (p := ⟨0, [⟨[109], 0⟩]⟩) (by decide) p0m0_s (by decide)
theorem awE1_id : (awE 1).id = [48, 47, 109, 91, 49, 93] := by
  show eachS [48, 47, 109] 1 = _
  unfold eachS; rw [p0m_p]
  exact idPof (p := ⟨0, [⟨[109], 1⟩]⟩) (by decide) p0m1_s (by decide)
theorem aw_eachF : eachF (awM 2) 1 2 = [awE 0, awE 1] := by rfl
theorem aw_in2 : inputF aw0 2 = some [numT 5] := by rfl
theorem aw_in3 : inputF aw0 3 = some [numT 7] := by rfl
theorem aw_v1 : valuesF aw1 1 = none := by rfl
theorem aw_v2 : valuesF aw2 1 = some [numT 50, numT 70] := by rfl
theorem aw_l3 : listF aw3 1 = ([], 24) := by rfl
theorem aw_l4 : listF aw4 1 = ([], 26) := by rfl
theorem partsT_num (n : Int) : partsT (numT n) = 1 := by unfold numT; rw [partsT_node]; rfl
theorem partsT_zT : partsT zT = 1 := by unfold zT; rw [partsT_node]; rfl
theorem partsT_awA : partsT awA.val = 3 := by
  show partsT (listV [numT 5, numT 7]) = 3
  unfold listV
  rw [partsT_node, partsL_cons, partsL_cons, partsL_nil, partsT_num, partsT_num]
/-- All of them are light. -/
theorem aw_light {l : List Nd} (h : l = aw0 ∨ l = aw1 ∨ l = aw2 ∨ l = aw3 ∨ l = aw4) : ∀ x, x ∈ l → partsT x.val ≤ 1000000 ∧ x.after.length ≤ 900 := by
  intro x hx
  have hb : ∀ y, y ∈ l → partsT y.val ≤ 3 ∧ y.after.length ≤ 1 := by
    rcases h with rfl | rfl | rfl | rfl | rfl <;>
    · intro y hy
      simp only [aw0, aw1, aw2, aw3, aw4, List.mem_cons, List.not_mem_nil, or_false] at hy
      rcases hy with rfl | rfl | rfl | rfl <;>
      refine ⟨?_, by decide⟩ <;> first | (rw [partsT_awA]; omega) | (show partsT zT ≤ 3; rw [partsT_zT]; omega) | (show partsT (numT _) ≤ 3; rw [partsT_num]; omega)
  have := hb x hx
  omega
end Fm
