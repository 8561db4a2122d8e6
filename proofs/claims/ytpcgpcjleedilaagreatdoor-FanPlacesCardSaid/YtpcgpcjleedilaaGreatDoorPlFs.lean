/- Nodes that stay in a row that is only read; a row of numbers' values that is written: plain facts. No program is imported. -/
import Derived.Test.YtpcgpcjleedilaaGreatDoorPlFj
import Derived.Test.YtpcgpcjleedilaaGreatDoorTake
import Derived.Deep.RegionLaw
open Go.RowKit Go.Shelf
namespace Fm
open Go Go.RowKit
/-- Two numbers in a block. -/
theorem liesS_two {w : World} {b : Nat} {x y : Int} {e : TypeId} {fr : Nat × Nat} (hx : isI64 x) (hy : isI64 y) (hb : w.heap[b]? = some (.cells #[.int .u8 0, .int .i64 x, .string { data := #[] }, .slice none 0 0, .int .u8 0, .int .i64 y, .string { data := #[] }, .slice none 0 0] e fr)) :
    LiesS w [numT x, numT y] (.slice (some ⟨b, 0, none⟩) 2 2) := by
  have hl : b < w.heap.size := (Array.getElem?_eq_some_iff.1 hb).1
  refine ⟨_, 2, rfl, by simp, by unfold maxLen; omega, (fun h => by cases h), (fun i j => (#[.int .u8 0, .int .i64 x, .string { data := #[] }, .slice none 0 0, .int .u8 0, .int .i64 y, .string { data := #[] }, .slice none 0 0] : Array Value).getD (i * 4 + j) .nilFunc), fun _ => ⟨b, 0, rfl, hl, fun i j hi hj => ?_⟩, fun i hi => ?_⟩
  · have hi : i < 2 := hi
    unfold World.cell?
    rw [hb]
    rcases (by omega : i = 0 ∨ i = 1) with rfl | rfl <;> rcases (by omega : j = 0 ∨ j = 1 ∨ j = 2 ∨ j = 3) with rfl | rfl | rfl | rfl <;> rfl
  · have hi : i < 2 := hi
    rcases (by omega : i = 0 ∨ i = 1) with rfl | rfl
    · exact (OwnT.mk (e := 0) (base := 0) (k := 0) (s := []) hx (by simp) (OwnL.nil _ _ _)).lies
    · exact (OwnT.mk (e := 0) (base := 0) (k := 0) (s := []) hy (by simp) (OwnL.nil _ _ _)).lies
theorem liesS_one {w : World} {b : Nat} {x : Int} {e : TypeId} {fr : Nat × Nat} (hx : isI64 x) (hb : w.heap[b]? = some (.cells #[.int .u8 0, .int .i64 x, .string { data := #[] }, .slice none 0 0] e fr)) :
    LiesS w [numT x] (.slice (some ⟨b, 0, none⟩) 1 1) := by
  have hl : b < w.heap.size := (Array.getElem?_eq_some_iff.1 hb).1
  refine ⟨_, 1, rfl, by simp, by unfold maxLen; omega, (fun h => by cases h), (fun i j => (#[.int .u8 0, .int .i64 x, .string { data := #[] }, .slice none 0 0] : Array Value).getD (i * 4 + j) .nilFunc), fun _ => ⟨b, 0, rfl, hl, fun i j hi hj => ?_⟩, fun i hi => ?_⟩
  · have hi : i < 1 := hi
    unfold World.cell?
    rw [hb]
    rcases (by omega : i = 0) with rfl
    rcases (by omega : j = 0 ∨ j = 1 ∨ j = 2 ∨ j = 3) with rfl | rfl | rfl | rfl <;> rfl
  · have hi : i < 1 := hi
    rcases (by omega : i = 0) with rfl
    exact (OwnT.mk (e := 0) (base := 0) (k := 0) (s := []) hx (by simp) (OwnL.nil _ _ _)).lies
/-- A copy's nodes, and a block behind it. -/
theorem CopyN.farN {eN eI eV : TypeId} {base : Nat} {w w' : World} {v : Value} {l : List Nd} (h : CopyN eN eI eV base w v l) (hE : Ext w w') {b : Nat} (hb : w.heap.size ≤ b) :
    ∃ ds : List (List Value), ds.length = l.length ∧ w'.ownsRow base eN 16 v l.length ds.flatten ∧ ∀ (i : Nat) (hi : i < l.length) (hc : i < ds.length), FarNd w' (some b) l[i] ds[i] := by
  obtain ⟨cs, lo, h1, h2, h3, h4, h5, h6, h7⟩ := h
  have hmon := lo_mono h5
  refine ⟨cs, h1, hE.own h2, fun i hi hc => farNd_of (fun w'' hw' => ((h7 i hi hc).far (fun c hb1 hb2 => ?_)).v)⟩
  have := hmon l.length (Nat.le_refl _) (i + 1) (by omega)
  rw [hw'.block c (by have := hE.size; omega) (fun e => by injection e with e; omega)]
  exact hE.grownBy.block c (by omega) (by simp)
end Fm
namespace Go.Proofs.YtpcgpcjleedilaaGreatDoor
open Go Go.Proofs Fm

theorem awA_v {w0 : World} {a : Option Addr} {n c : Nat} (h : LiesS w0 [numT 5, numT 7] (.slice a n c)) : ∀ W, Ext w0 W → NdV W awA (.agg #[.string { data := #[48, 47, 97] }, .string { data := #[] }, .int .u8 0, .int .i64 0, .int .i64 (-1), .int .i64 0, .slice none 0 0, .int .i64 0, .int .i64 0, .int .u8 4, .int .i64 0, .int .i64 0, .int .u8 2, .int .i64 0, .string { data := #[] }, .slice a n c]) := fun W hW => by
  have z : isI64 0 := by unfold isI64; omega
  exact ⟨none, 0, 0, .int .u8 2, .int .i64 0, .string { data := #[] }, .slice a n c, rfl, Elem.Row.void _ _ _, list18_lies (h.ext hW), by simp [awA], by simp [awA], z, by show isI64 (-1); unfold isI64; omega, z, z, z, z, z⟩
theorem awM_v {W : World} {wd : Int} (hwd : isI64 wd) {a : Option Addr} {n c : Nat} (h : intE.Row W [0] (.slice a n c)) : NdV W (awM wd) (.agg #[.string { data := #[48, 47, 109] }, .string { data := #[] }, .int .u8 1, .int .i64 0, .int .i64 (-1), .int .i64 0, .slice a n c, .int .i64 wd, .int .i64 0, .int .u8 0, .int .i64 0, .int .i64 0, .int .u8 0, .int .i64 0, .string { data := #[] }, .slice none 0 0]) := by
  have z : isI64 0 := by unfold isI64; omega
  exact ⟨a, n, c, .int .u8 0, .int .i64 0, .string { data := #[] }, .slice none 0 0, rfl, h, (num18_own z W 0).lies, by simp [awM], by simp [awM], z, by show isI64 (-1); unfold isI64; omega, z, hwd, z, z, z⟩
set_option maxRecDepth 100000 in
set_option maxHeartbeats 8000000 in
theorem awake18_any (w : World) (hw : KW w) :
    Calls Tryz.prog 29 #[] w fun e w' => e = .returned (.bool true) ∧ Ext w w' := by
  have HKW := Lib.hid hw
  clear hw
  go_enter Tryz.func29, Tryz.ntmps29
  go_wp2_with fail
  refine (num18_any 5 w).mono ?_
  rintro e w1 ⟨rfl, hE1⟩
  go_wp2_with fail
  refine (num18_any 7 w1).mono ?_
  rintro e w2 ⟨rfl, hE2⟩
  have hb3 := heap_alloc_new w2 (.cells #[.int .u8 0, .int .i64 5, .string { data := #[] }, .slice none 0 0, .int .u8 0, .int .i64 7, .string { data := #[] }, .slice none 0 0] 44)
  have hE3 := (Ext.refl w2).alloc (.cells #[.int .u8 0, .int .i64 5, .string { data := #[] }, .slice none 0 0, .int .u8 0, .int .i64 7, .string { data := #[] }, .slice none 0 0] 44)
  have hz3 : w2.heap.size < (w2.alloc (.cells #[.int .u8 0, .int .i64 5, .string { data := #[] }, .slice none 0 0, .int .u8 0, .int .i64 7, .string { data := #[] }, .slice none 0 0] 44)).heap.size := by simp
  go_wp2_with fail
  generalize w2.alloc (.cells #[.int .u8 0, .int .i64 5, .string { data := #[] }, .slice none 0 0, .int .u8 0, .int .i64 7, .string { data := #[] }, .slice none 0 0] 44) = W3 at *
  have HL := Lib.hid (liesS_two (by unfold isI64; omega) (by unfold isI64; omega) hb3)
  have HE3 := Lib.hid ((hE1.trans hE2).trans hE3)
  refine (list18_any _ 2 2 W3).mono ?_
  rintro e w4 ⟨rfl, hE4⟩
  generalize w2.heap.size = VB at *
  obtain ⟨Ca, hCa⟩ : ∃ Ca, Ca = ([.string { data := #[48, 47, 97] }, .string { data := #[] }, .int .u8 0, .int .i64 0, .int .i64 (-1), .int .i64 0, .slice none 0 0, .int .i64 0, .int .i64 0, .int .u8 4, .int .i64 0, .int .i64 0, .int .u8 2, .int .i64 0, .string { data := #[] }, .slice (some ⟨VB, 0, none⟩) 2 2] : List Value) := ⟨_, rfl⟩
  have HAG : Hid ((Value.agg #[.string { data := #[48, 47, 97] }, .string { data := #[] }, .int .u8 0, .int .i64 0, .int .i64 (-1), .int .i64 0, .slice none 0 0, .int .i64 0, .int .i64 0, .int .u8 4, .int .i64 0, .int .i64 0, .int .u8 2, .int .i64 0, .string { data := #[] }, .slice (some ⟨VB, 0, none⟩) 2 2]) = .agg Ca.toArray) := Lib.hid (by rw [hCa])
  have HLa : Hid (Ca.length = 16) := Lib.hid (by rw [hCa]; rfl)
  have HLna : Hid ((Tryz.prog.info? 46).map (·.size) = some Ca.length) := Lib.hid (by rw [hCa]; exact sizenode_F)
  have HVa : Hid (∀ W, Ext w4 W → NdV W awA (.agg Ca.toArray)) := Lib.hid (by rw [hCa]; exact fun W hW => awA_v HL.out W (hE4.trans hW))
  have HN1 := Lib.hid (ndV_one (HVa.out w4 (Ext.refl _))).2
  have HE4 := Lib.hid (HE3.out.trans hE4)
  clear hCa hE1 hE2 hE3 hE4 hb3 hz3 HL HE3
  go_upto_region 2 with (refine wpList_storeBox rfl _ _ _ rfl _ _ _ _ rfl rfl rfl (by exact HAG.out) sizenode_F rfl HLa.out HN1.out ?_)
  have hE5 := (Ext.refl w4).alloc (.cells Ca.toArray 46)
  have hR5 := rangeAt_new w4 Ca 46
  have hz5 : w4.heap.size < (w4.alloc (.cells Ca.toArray 46)).heap.size := by simp
  generalize w4.alloc (.cells Ca.toArray 46) = W5 at *
  generalize hB1 : w4.heap.size = B1 at *
  have hb6 := heap_alloc_new W5 (.cells #[.int .i64 0] 3)
  have hE6 := (Ext.refl W5).alloc (.cells #[.int .i64 0] 3)
  have ho6 := World.ownsRow_lit W5 #[.int .i64 0] 1 (base := 0) (e := 3) (size := 1) (Nat.zero_le _) (by unfold maxLen; omega) rfl
  have hz6 : (W5.alloc (.cells #[.int .i64 0] 3)).heap.size = W5.heap.size + 1 := by simp
  obtain ⟨AB, hAB⟩ : ∃ AB, AB = W5.heap.size := ⟨_, rfl⟩
  rw [← hAB] at ho6 hb6 hz6
  obtain ⟨Cm, hCm⟩ : ∃ Cm, Cm = ([.string { data := #[48, 47, 109] }, .string { data := #[] }, .int .u8 1, .int .i64 0, .int .i64 (-1), .int .i64 0, .slice (some ⟨AB, 0, none⟩) 1 1, .int .i64 2, .int .i64 0, .int .u8 0, .int .i64 0, .int .i64 0, .int .u8 0, .int .i64 0, .string { data := #[] }, .slice none 0 0] : List Value) := ⟨_, rfl⟩
  have HMG : Hid ((Value.agg #[.string { data := #[48, 47, 109] }, .string { data := #[] }, .int .u8 1, .int .i64 0, .int .i64 (-1), .int .i64 0, .slice (some ⟨AB, 0, none⟩) 1 1, .int .i64 2, .int .i64 0, .int .u8 0, .int .i64 0, .int .i64 0, .int .u8 0, .int .i64 0, .string { data := #[] }, .slice none 0 0]) = .agg Cm.toArray) := Lib.hid (by rw [hCm])
  have HLm : Hid (Cm.length = 16) := Lib.hid (by rw [hCm]; rfl)
  have HLnm : Hid ((Tryz.prog.info? 46).map (·.size) = some Cm.length) := Lib.hid (by rw [hCm]; exact sizenode_F)
  have HVm : Hid (∀ W, Ext (W5.alloc (.cells #[.int .i64 0] 3)) W → NdV W (awM 2) (.agg Cm.toArray)) := Lib.hid (by
    rw [hCm]
    exact fun W hW => awM_v (by unfold isI64; omega) (OwnN.row (e := 3) (base := 0) (hW.own ho6) (fun i hi => by rw [List.mem_singleton] at hi; subst hi; unfold isI64; omega)))
  have HM1 := Lib.hid (ndV_one (HVm.out _ (Ext.refl _))).2
  have HE6 := Lib.hid (HE4.out.trans (hE5.trans hE6))
  have HE46 := Lib.hid (hE5.trans hE6)
  have HR6 := Lib.hid (rangeAt_ext hR5 hE6 hz5)
  subst hAB
  have HZ6 := Lib.hid hz6
  clear hCm ho6 hb6 hE5 hE6 hR5 HAG
  go_upto_region 3 with (refine wpList_storeBox rfl _ _ _ rfl _ _ _ _ rfl (by exact HZ6.out.symm) rfl (by exact HMG.out) sizenode_F rfl HLm.out HM1.out ?_)
  have HZ1 := Lib.hid (show B1 < (W5.alloc (.cells #[.int .i64 0] 3)).heap.size by omega)
  generalize W5.alloc (.cells #[.int .i64 0] 3) = W6 at *
  have hE7 := (Ext.refl W6).alloc (.cells Cm.toArray 46)
  have hR7 := rangeAt_new W6 Cm 46
  have HZ2 := Lib.hid (show W6.heap.size < (W6.alloc (.cells Cm.toArray 46)).heap.size by simp)
  rw [← hz6]
  generalize W6.alloc (.cells Cm.toArray 46) = W at *
  generalize hB2 : W6.heap.size = B2 at *
  have HSZ := Lib.hid (Nat.le_refl W.heap.size)
  have HSS : Hid (∀ wx, Ext W wx → wx.rangeAt B1 0 Ca ∧ wx.rangeAt B2 0 Cm) := Lib.hid (fun wx hx => ⟨rangeAt_ext HR6.out (hE7.trans hx) (by rw [hB2]; exact HZ1.out), rangeAt_ext hR7 hx HZ2.out⟩)
  have HE7 := Lib.hid (HE6.out.trans hE7)
  have ED := Lib.hid (Ext.refl W).drew
  have HEC : Hid (∀ wx, Ext W wx → Calls Tryz.prog 30 #[.agg Cm.toArray, .int .i64 1, .int .i64 2] wx (EachPost wx (awM 2) 1 2)) := Lib.hid (fun wx hx => feach_any (awM 2) 1 2 (by unfold isI64; omega) (by simp [awM]) (by simp [awM]) wx (HKW.out.ext (HE7.out.trans hx)) _ (HVm.out wx (hE7.trans hx)))
  have HLam : Hid ((Ca ++ Cm).toArray.size = 2 * 16) := Lib.hid (by rw [List.size_toArray, List.length_append, HLa.out, HLm.out])
  have HFam : Hid (∀ wx, Ext W wx → ∀ row : Option Nat, (∀ b, row = some b → W.heap.size ≤ b) → ∀ (i : Nat) (hi : i < [awA, awM 2].length) (hc : i < [Ca, Cm].length), FarNd wx row [awA, awM 2][i] [Ca, Cm][i]) := Lib.hid (fun wx hx row hrow i hi hc => by
    refine farNd_of (fun w' hw' => ?_)
    have hX : Ext W w' := hx.grown hw' hrow
    have hi : i < 2 := hi
    rcases (by omega : i = 0 ∨ i = 1) with rfl | rfl
    · exact HVa.out w' (HE46.out.trans (hE7.trans hX))
    · exact HVm.out w' (hE7.trans hX))
  have HEF := Lib.hid aw_eachF
  clear hE7 hR7 hz6 HR6 HM1 HN1 HMG
  simp only [Act.put]
  go_cut [3] from 23 to 28 (fun l w' => ∃ A C, l = .slice A 4 C ∧ Hid (HeldN 46 w.heap.size w' (.slice A 4 C) aw0) ∧ Hid (Ext w w'))
  case first =>
   refine wp_region_held_drew (S := (fun w' => w'.rangeAt B1 0 Ca ∧ w'.rangeAt B2 0 Cm)) (by kernel_rfl) ?_ (fun hHeld => ?_)
   · (try dsimp only)
     (first | exact HSS.out _ ED.out | exact HSS.out _ E1.out | exact HSS.out _ E2.out | exact HSS.out _ E3.out)
   refine take_mid 0 (some 23) (cs := Ca) (by kernel_rfl) (by kernel_rfl) (by kernel_rfl) (by kernel_rfl) (by kernel_rfl) (fun _ _ _ h => h) (by rfl) 46 (.tmp 1) (by kernel_rfl) B1 0 (by rfl) _ (fun _ h => h.1) Tryz.underlying46 rfl HLna.out (by assumption) ?_
   try simp only [Act.put, List.setIfInBounds_toArray, List.set_cons_zero, List.set_cons_succ]
   refine take_mid 1 (some 24) (cs := Cm) (by kernel_rfl) (by kernel_rfl) (by kernel_rfl) (by kernel_rfl) (by kernel_rfl) (fun _ _ _ h => h) (by rfl) 46 (.tmp 2) (by kernel_rfl) B2 0 (by rfl) _ (fun _ h => h.2) Tryz.underlying46 rfl HLnm.out (by assumption) ?_
   try simp only [Act.put, List.setIfInBounds_toArray, List.set_cons_zero, List.set_cons_succ]
   refine take_mid 3 (some 26) (cs := Cm) (by kernel_rfl) (by kernel_rfl) (by kernel_rfl) (by kernel_rfl) (by kernel_rfl) (fun _ _ _ h => h) (by rfl) 46 (.tmp 2) (by kernel_rfl) B2 0 (by rfl) _ (fun _ h => h.2) Tryz.underlying46 rfl HLnm.out (by assumption) ?_
   try simp only [Act.put, List.setIfInBounds_toArray, List.set_cons_zero, List.set_cons_succ]
   refine ready_two 2 4 (by kernel_rfl) (by kernel_rfl) (by kernel_rfl) (by rfl) (by rfl) (fun Kc hKc => ?_) (fun Kc hKc => ?_)
   · refine wp_nodes2 (.tmp 23) (.tmp 24) (by rfl) (by kernel_rfl) (by kernel_rfl) HLa.out HLm.out ?_
     change Kc (Act.put _ (some 25) _) _
     have E1 := Lib.hid (ED.out.alloc (.cells (Ca ++ Cm).toArray 46))
     have HO1 : Hid ((W.drew.alloc (.cells (Ca ++ Cm).toArray 46)).ownsRow W.heap.size 46 16 (.slice (some ⟨W.heap.size, 0, none⟩) 2 2) 2 (Ca ++ Cm)) := Lib.hid (World.ownsRow_lit W.drew (Ca ++ Cm).toArray 2 (Nat.le_refl _) (by unfold maxLen; omega) HLam.out)
     refine hKc.out _ _ ?_ (fun hHeld => ?_)
     · (try dsimp only)
       (first | exact HSS.out _ ED.out | exact HSS.out _ E1.out | exact HSS.out _ E2.out | exact HSS.out _ E3.out)
     clear hKc Kc
     try simp only [Act.put, List.setIfInBounds_toArray, List.set_cons_zero, List.set_cons_succ]
     refine ready_one 4 (by kernel_rfl) (by kernel_rfl) (by rfl) (fun Kc hKc => ?_)
     go_simp
     refine (HEC.out _ E1.out).mono ?_
     rintro e w4 ⟨d, rfl, hE4, hC4⟩
     obtain ⟨a4, c4, rfl⟩ := hC4.slice
     have E2 := Lib.hid (E1.out.trans hE4)
     have HC4 := Lib.hid hC4
     have HO2 := Lib.hid (hE4.own HO1.out)
     clear hE4 hC4
     try go_wp2_with fail
     refine hKc.out _ _ ?_ (fun hHeld => ?_)
     · (try dsimp only)
       (first | exact HSS.out _ ED.out | exact HSS.out _ E1.out | exact HSS.out _ E2.out | exact HSS.out _ E3.out)
     clear hKc Kc
     try simp only [Act.put, List.setIfInBounds_toArray, List.set_cons_zero, List.set_cons_succ]
     refine ready_one 5 (by kernel_rfl) (by kernel_rfl) (by rfl) (fun Kc hKc => ?_)
     have hc4 := HC4.out
     have hz4 : W.heap.size ≤ (W.drew.alloc (.cells (Ca ++ Cm).toArray 46)).heap.size := by simp
     obtain ⟨ds, hds, hdrow, hdf⟩ := hc4.far (row := (Value.slice (some ⟨W.heap.size, 0, none⟩) 2 2).ownBlock) (fun b hb => by simp [Value.ownBlock] at hb; rw [← hb]; simp)
     have HSrc := Lib.hid (Src.nodes Tryz.underlying40 hdrow (fun D hD u hu => by
       obtain ⟨k, hk, rfl⟩ := List.getElem_of_mem hD
       exact (hdf k (by rw [← hds]; exact hk) hk).2.1 u hu))
     rw [HEF.out] at HSrc hdf hds
     refine wp_appendS (.tmp 25) (.tmp 27) 40 (by rfl) elemnode_F W.heap.size (.slice (some ⟨W.heap.size, 0, none⟩) 2 2) 2 (Ca ++ Cm) (by rfl) HO2.out _ 2 ds.flatten (by rw [HEF.out]; rfl) HSrc.out (by unfold maxLen; omega) (by omega) E2.out.size ?_
     intro A C w6 hown6 hgr6 hat6
     change Kc (Act.put _ (some 28) _) _
     have E3 := Lib.hid (E2.out.grown hgr6 (fun k hk => (World.ownsRow.lt HO2.out k hk).1))
     have hH6 : HeldN 46 W.heap.size w6 (.slice A (2 + 2) C) aw0 := HeldN.app (v := .slice (some ⟨W.heap.size, 0, none⟩) 2 2) (l := [awA, awM 2]) (m := [awE 0, awE 1]) (cs := [Ca, Cm]) rfl (HFam.out _ E2.out _ (fun b hb => by simp [Value.ownBlock] at hb; have := HSZ.out; omega)) hds hdf (by simpa using hown6) hgr6 hat6
     have HH6 := Lib.hid hH6
     clear hH6 hown6 hgr6 hat6 hds hdrow hdf
     refine hKc.out _ _ ?_ (fun hHeld => ?_)
     · (try dsimp only)
       (first | exact HSS.out _ ED.out | exact HSS.out _ E1.out | exact HSS.out _ E2.out | exact HSS.out _ E3.out)
     clear hKc Kc
     try simp only [Act.put, List.setIfInBounds_toArray, List.set_cons_zero, List.set_cons_succ]
     refine take_w 6 (some 3) (v := ?_) (by kernel_rfl) (by kernel_rfl) (by kernel_rfl) (by kernel_rfl) (by kernel_rfl) (fun _ _ _ h => h) (by rfl) ?_ (by assumption) ?_
     rotate_left
     · (intro w hSw; (try dsimp only at hSw); go_simp; try with_reducible rfl)
     try simp only [Act.put, List.setIfInBounds_toArray, List.set_cons_zero, List.set_cons_succ]
     refine wpAnyH_done (by kernel_rfl) ?_ _
     have HE6 := Lib.hid (HE7.out.trans E3.out)
     go_wp2_with fail
     go_meet
     case rel => exact ⟨_, _, rfl, Lib.hid (HH6.out.mono HE7.out.size), HE6⟩
   · go_simp
     refine (HEC.out _ ED.out).mono ?_
     rintro e w4 ⟨d, rfl, hE4, hC4⟩
     obtain ⟨a4, c4, rfl⟩ := hC4.slice
     have E1 := Lib.hid (ED.out.trans hE4)
     have HC4 := Lib.hid hC4
     have HZ4 := Lib.hid (Nat.le_refl w4.heap.size)
     clear hE4 hC4
     try go_wp2_with fail
     refine hKc.out _ _ ?_ (fun hHeld => ?_)
     · (try dsimp only)
       (first | exact HSS.out _ ED.out | exact HSS.out _ E1.out | exact HSS.out _ E2.out | exact HSS.out _ E3.out)
     clear hKc Kc
     try simp only [Act.put, List.setIfInBounds_toArray, List.set_cons_zero, List.set_cons_succ]
     refine ready_one 2 (by kernel_rfl) (by kernel_rfl) (by rfl) (fun Kc hKc => ?_)
     refine wp_nodes2 (.tmp 23) (.tmp 24) (by rfl) (by kernel_rfl) (by kernel_rfl) HLa.out HLm.out ?_
     change Kc (Act.put _ (some 25) _) _
     have E2 := Lib.hid (E1.out.alloc (.cells (Ca ++ Cm).toArray 46))
     have HO2 : Hid ((w4.alloc (.cells (Ca ++ Cm).toArray 46)).ownsRow W.heap.size 46 16 (.slice (some ⟨w4.heap.size, 0, none⟩) 2 2) 2 (Ca ++ Cm)) := Lib.hid (World.ownsRow_lit w4 (Ca ++ Cm).toArray 2 E1.out.size (by unfold maxLen; omega) HLam.out)
     have HE0 := Lib.hid ((Ext.refl w4).alloc (.cells (Ca ++ Cm).toArray 46))
     refine hKc.out _ _ ?_ (fun hHeld => ?_)
     · (try dsimp only)
       (first | exact HSS.out _ ED.out | exact HSS.out _ E1.out | exact HSS.out _ E2.out | exact HSS.out _ E3.out)
     clear hKc Kc
     try simp only [Act.put, List.setIfInBounds_toArray, List.set_cons_zero, List.set_cons_succ]
     refine ready_one 5 (by kernel_rfl) (by kernel_rfl) (by rfl) (fun Kc hKc => ?_)
     have hc4 := (CopyN.kept (HC4.out) HE0.out.grownBy (fun b hb => by cases hb))
     obtain ⟨ds, hds, hdrow, hdf⟩ := HC4.out.farN HE0.out (b := w4.heap.size) (Nat.le_refl _)
     have HSrc := Lib.hid (Src.nodes Tryz.underlying40 hdrow (fun D hD u hu => by
       obtain ⟨k, hk, rfl⟩ := List.getElem_of_mem hD
       exact (hdf k (by rw [← hds]; exact hk) hk).2.1 u hu))
     rw [HEF.out] at HSrc hdf hds
     refine wp_appendS (.tmp 25) (.tmp 27) 40 (by rfl) elemnode_F W.heap.size (.slice (some ⟨w4.heap.size, 0, none⟩) 2 2) 2 (Ca ++ Cm) (by rfl) HO2.out _ 2 ds.flatten (by rw [HEF.out]; rfl) HSrc.out (by unfold maxLen; omega) (by omega) E2.out.size ?_
     intro A C w6 hown6 hgr6 hat6
     change Kc (Act.put _ (some 28) _) _
     have E3 := Lib.hid (E2.out.grown hgr6 (fun k hk => (World.ownsRow.lt HO2.out k hk).1))
     have hH6 : HeldN 46 W.heap.size w6 (.slice A (2 + 2) C) aw0 := HeldN.app (v := .slice (some ⟨w4.heap.size, 0, none⟩) 2 2) (l := [awA, awM 2]) (m := [awE 0, awE 1]) (cs := [Ca, Cm]) rfl (HFam.out _ E2.out _ (fun b hb => by simp [Value.ownBlock] at hb; have := E1.out.size; omega)) hds hdf (by simpa using hown6) hgr6 hat6
     have HH6 := Lib.hid hH6
     clear hH6 hown6 hgr6 hat6 hds hdrow hdf
     refine hKc.out _ _ ?_ (fun hHeld => ?_)
     · (try dsimp only)
       (first | exact HSS.out _ ED.out | exact HSS.out _ E1.out | exact HSS.out _ E2.out | exact HSS.out _ E3.out)
     clear hKc Kc
     try simp only [Act.put, List.setIfInBounds_toArray, List.set_cons_zero, List.set_cons_succ]
     refine take_w 6 (some 3) (v := ?_) (by kernel_rfl) (by kernel_rfl) (by kernel_rfl) (by kernel_rfl) (by kernel_rfl) (fun _ _ _ h => h) (by rfl) ?_ (by assumption) ?_
     rotate_left
     · (intro w hSw; (try dsimp only at hSw); go_simp; try with_reducible rfl)
     try simp only [Act.put, List.setIfInBounds_toArray, List.set_cons_zero, List.set_cons_succ]
     refine wpAnyH_done (by kernel_rfl) ?_ _
     have HE6 := Lib.hid (HE7.out.trans E3.out)
     go_wp2_with fail
     go_meet
     case rel => exact ⟨_, _, rfl, Lib.hid (HH6.out.mono HE7.out.size), HE6⟩
  case rest =>
  obtain ⟨A, C, rfl, HH, HE⟩ := hcut
  rename World => WA
  obtain ⟨g, c, hA, hg1, hg2⟩ := HH.out.form (by decide)
  injection hA with hA1 hA2 hA3
  subst hA1 hA3
  clear hA2 HSS ED HEC HLam HFam HEF HSZ HZ2 HZ1 hB2 HLa HLm HLna HLnm HVa HVm HE4 HE6 HE46 HE7 HZ6
  have e2 : WA.cell? ⟨g, 32, none⟩ = some (.string { data := #[48, 47, 109, 91, 48, 93] }) := by
    have h := HH.out.idAt (i := 2) (by decide)
    rw [show aw0[2].id = [48, 47, 109, 91, 48, 93] from awE0_id] at h
    exact h
  have e3 : WA.cell? ⟨g, 48, none⟩ = some (.string { data := #[48, 47, 109, 91, 49, 93] }) := by
    have h := HH.out.idAt (i := 3) (by decide)
    rw [show aw0[3].id = [48, 47, 109, 91, 49, 93] from awE1_id] at h
    exact h
  go_wp2_with fail
  clear e2 e3
  refine (finput_any aw0 2 (aw_light (.inl rfl)) WA _ HH.out.row).mono ?_
  rintro e w5 ⟨A1, m1, c1, b1, rfl, hE5, hyes, -⟩
  obtain ⟨rfl, ho1⟩ := hyes _ aw_in2
  have HH5 := Lib.hid (HH.out.ext hE5)
  have HE5 := Lib.hid (HE.out.trans hE5)
  have HO1 := Lib.hid ho1.lies
  clear hyes ho1 hE5 HH HE
  go_wp2_with fail
  refine (finput_any aw0 3 (aw_light (.inl rfl)) w5 _ HH5.out.row).mono ?_
  rintro e w6 ⟨A2, m2, c2, b2, rfl, hE6, hyes, -⟩
  obtain ⟨rfl, ho2⟩ := hyes _ aw_in3
  have HH6 := Lib.hid (HH5.out.ext hE6)
  have HE6 := Lib.hid (HE5.out.trans hE6)
  have HO1 := Lib.hid (HO1.out.ext hE6)
  have HO2 := Lib.hid ho2.lies
  clear hyes ho2 hE6 HH5 HE5
  go_wp2_with fail
  refine (num18_any 5 w6).mono ?_
  rintro e w7 ⟨rfl, hE7⟩
  have hb8 := heap_alloc_new w7 (.cells #[.int .u8 0, .int .i64 5, .string { data := #[] }, .slice none 0 0] 44)
  have hE8 := (Ext.refl w7).alloc (.cells #[.int .u8 0, .int .i64 5, .string { data := #[] }, .slice none 0 0] 44)
  have HV8 := Lib.hid (values18_any [numT 5] [numT 5] _ _ _ _ _ _ _ (HO1.out.ext (hE7.trans hE8)) (liesS_one (by unfold isI64; omega) hb8))
  have HH8 := Lib.hid (HH6.out.ext (hE7.trans hE8))
  have HE8 := Lib.hid (HE6.out.trans (hE7.trans hE8))
  have HO2 := Lib.hid (HO2.out.ext (hE7.trans hE8))
  clear hb8 hE8 hE7 HH6 HE6 HO1
  go_wp2_with fail
  refine HV8.out.mono ?_
  rintro e w9 ⟨rfl, hE9⟩
  rw [eqT_self]
  have HH9 := Lib.hid (HH8.out.ext hE9)
  have HE9 := Lib.hid (HE8.out.trans hE9)
  have HO2 := Lib.hid (HO2.out.ext hE9)
  clear HV8 hE9 HH8 HE8
  go_wp2_with fail
  refine (num18_any 7 w9).mono ?_
  rintro e w10 ⟨rfl, hE7⟩
  have hb8 := heap_alloc_new w10 (.cells #[.int .u8 0, .int .i64 7, .string { data := #[] }, .slice none 0 0] 44)
  have hE8 := (Ext.refl w10).alloc (.cells #[.int .u8 0, .int .i64 7, .string { data := #[] }, .slice none 0 0] 44)
  have HV8 := Lib.hid (values18_any [numT 7] [numT 7] _ _ _ _ _ _ _ (HO2.out.ext (hE7.trans hE8)) (liesS_one (by unfold isI64; omega) hb8))
  have HH10 := Lib.hid (HH9.out.ext (hE7.trans hE8))
  have HE10 := Lib.hid (HE9.out.trans (hE7.trans hE8))
  clear hb8 hE8 hE7 HH9 HE9 HO2
  go_wp2_with fail
  refine HV8.out.mono ?_
  rintro e w11 ⟨rfl, hE9⟩
  rw [eqT_self]
  have HH11 := Lib.hid (HH10.out.ext hE9)
  have HE11 := Lib.hid (HE10.out.trans hE9)
  clear HV8 hE9 HH10 HE10
  go_wp2_with fail
  refine (num18_any 70 w11).mono ?_
  rintro e w12 ⟨rfl, hE7⟩
  have HE12 := Lib.hid (HE11.out.trans hE7)
  have hH := HH11.out.ext hE7
  have ⟨⟨u9, c9⟩, f9⟩ := hH.spot (i := 3) (by decide) 9 (by omega)
  have ⟨⟨u12, c12⟩, f12⟩ := hH.spot (i := 3) (by decide) 12 (by omega)
  have ⟨⟨u13, c13⟩, f13⟩ := hH.spot (i := 3) (by decide) 13 (by omega)
  have ⟨⟨u14, c14⟩, f14⟩ := hH.spot (i := 3) (by decide) 14 (by omega)
  have ⟨⟨u15, c15⟩, f15⟩ := hH.spot (i := 3) (by decide) 15 (by omega)
  simp only [Nat.reduceMul, Nat.reduceAdd] at c9 f9 c12 f12 c13 f13 c14 f14 c15 f15
  obtain ⟨HH13, hgr⟩ : Hid (HeldN 46 w.heap.size (((((w12.setCell ⟨g, 57, none⟩ (.int .u8 4)).setCell ⟨g, 60, none⟩ (.int .u8 0)).setCell ⟨g, 61, none⟩ (.int .i64 70)).setCell ⟨g, 62, none⟩ (.string { data := #[] })).setCell ⟨g, 63, none⟩ (.slice none 0 0)) (.slice (some ⟨g, 0, none⟩) aw0.length C) aw1) ∧ w12.grownBy (((((w12.setCell ⟨g, 57, none⟩ (.int .u8 4)).setCell ⟨g, 60, none⟩ (.int .u8 0)).setCell ⟨g, 61, none⟩ (.int .i64 70)).setCell ⟨g, 62, none⟩ (.string { data := #[] })).setCell ⟨g, 63, none⟩ (.slice none 0 0)) (some g) := by
    obtain ⟨q1, q2⟩ := hH.put (i := 3) (by decide) 9 (by omega) (.int .u8 4) { awE 1 with stand := 4 } (fun w' C h => ndV_stand h 4)
    obtain ⟨q3, q4⟩ := q1.putV (i := 3) (by decide) (numT 70) (.int .u8 0) (.int .i64 70) (.string { data := #[] }) (.slice none 0 0) (fun w' _ => (num18_own (by unfold isI64; omega) w' 0).lies)
    exact ⟨Lib.hid q3, grown_trans q2 q4⟩
  have HE13 := Lib.hid (HE12.out.grown hgr (fun k hk => by injection hk with hk; omega))
  clear hgr hH hE7 HH11 HE11 HE12
  go_upto_region 11 with (fail)
  generalize ((((w12.setCell ⟨g, 57, none⟩ (.int .u8 4)).setCell ⟨g, 60, none⟩ (.int .u8 0)).setCell ⟨g, 61, none⟩ (.int .i64 70)).setCell ⟨g, 62, none⟩ (.string { data := #[] })).setCell ⟨g, 63, none⟩ (.slice none 0 0) = w13 at *
  clear c9 f9 c12 f12 c13 f13 c14 f14 c15 f15
  go_wp2_with fail
  refine (fvalues_any aw1 1 (by decide) (fun x hx => (aw_light (.inr (.inl rfl)) x hx).1) w13 _ HH13.out.row).mono ?_
  rintro e w14 ⟨v14, b14, rfl, hE14, -, hno⟩
  obtain ⟨rfl, rfl⟩ := hno aw_v1
  have hEa := (Ext.refl w14).alloc (.cells #[.int .u8 0, .int .i64 0, .string { data := #[] }, .slice none 0 0] 44)
  have HH14 := Lib.hid (HH13.out.ext (hE14.trans hEa))
  have HE14 := Lib.hid (HE13.out.trans (hE14.trans hEa))
  clear hno hE14 hEa HH13 HE13
  go_upto_region 12 with (fail)
  generalize w14.alloc (.cells #[.int .u8 0, .int .i64 0, .string { data := #[] }, .slice none 0 0] 44) = w15 at *
  go_wp2_with fail
  refine (num18_any 50 w15).mono ?_
  rintro e w16 ⟨rfl, hE7⟩
  have HE16 := Lib.hid (HE14.out.trans hE7)
  have hH := HH14.out.ext hE7
  have ⟨⟨u9, c9⟩, f9⟩ := hH.spot (i := 2) (by decide) 9 (by omega)
  have ⟨⟨u12, c12⟩, f12⟩ := hH.spot (i := 2) (by decide) 12 (by omega)
  have ⟨⟨u13, c13⟩, f13⟩ := hH.spot (i := 2) (by decide) 13 (by omega)
  have ⟨⟨u14, c14⟩, f14⟩ := hH.spot (i := 2) (by decide) 14 (by omega)
  have ⟨⟨u15, c15⟩, f15⟩ := hH.spot (i := 2) (by decide) 15 (by omega)
  simp only [Nat.reduceMul, Nat.reduceAdd] at c9 f9 c12 f12 c13 f13 c14 f14 c15 f15
  obtain ⟨HH17, hgr⟩ : Hid (HeldN 46 w.heap.size (((((w16.setCell ⟨g, 41, none⟩ (.int .u8 4)).setCell ⟨g, 44, none⟩ (.int .u8 0)).setCell ⟨g, 45, none⟩ (.int .i64 50)).setCell ⟨g, 46, none⟩ (.string { data := #[] })).setCell ⟨g, 47, none⟩ (.slice none 0 0)) (.slice (some ⟨g, 0, none⟩) aw1.length C) aw2) ∧ w16.grownBy (((((w16.setCell ⟨g, 41, none⟩ (.int .u8 4)).setCell ⟨g, 44, none⟩ (.int .u8 0)).setCell ⟨g, 45, none⟩ (.int .i64 50)).setCell ⟨g, 46, none⟩ (.string { data := #[] })).setCell ⟨g, 47, none⟩ (.slice none 0 0)) (some g) := by
    obtain ⟨q1, q2⟩ := hH.put (i := 2) (by decide) 9 (by omega) (.int .u8 4) { awE 0 with stand := 4 } (fun w' C h => ndV_stand h 4)
    obtain ⟨q3, q4⟩ := q1.putV (i := 2) (by decide) (numT 50) (.int .u8 0) (.int .i64 50) (.string { data := #[] }) (.slice none 0 0) (fun w' _ => (num18_own (by unfold isI64; omega) w' 0).lies)
    exact ⟨Lib.hid q3, grown_trans q2 q4⟩
  have HE17 := Lib.hid (HE16.out.grown hgr (fun k hk => by injection hk with hk; omega))
  clear hgr hH hE7 HH14 HE14 HE16
  go_upto_region 13 with (fail)
  generalize ((((w16.setCell ⟨g, 41, none⟩ (.int .u8 4)).setCell ⟨g, 44, none⟩ (.int .u8 0)).setCell ⟨g, 45, none⟩ (.int .i64 50)).setCell ⟨g, 46, none⟩ (.string { data := #[] })).setCell ⟨g, 47, none⟩ (.slice none 0 0) = w17 at *
  clear c9 f9 c12 f12 c13 f13 c14 f14 c15 f15
  go_wp2_with fail
  refine (fvalues_any aw2 1 (by decide) (fun x hx => (aw_light (.inr (.inr (.inl rfl))) x hx).1) w17 _ HH17.out.row).mono ?_
  rintro e w18 ⟨v18, b18, rfl, hE18, hyes, -⟩
  obtain ⟨rfl, ho18⟩ := hyes _ aw_v2
  obtain ⟨d18, rfl, -, -, hl18⟩ := ho18.lies.parts
  obtain ⟨a18, cap18, rfl, -⟩ := id hl18
  have hEa := (Ext.refl w18).alloc (.cells #[.int .u8 ((2 : UInt8).toNat : Int), .int .i64 0, .string (str []), .slice a18 [numT 50, numT 70].length cap18] 44)
  have HB18 := Lib.hid (Box4.new w18 (.int .u8 ((2 : UInt8).toNat : Int)) (.int .i64 0) (.string (str [])) (.slice a18 [numT 50, numT 70].length cap18))
  have HV18 := Lib.hid (ho18.ext hEa)
  have hgB : g < w17.heap.size := (HH17.out.lt g rfl).2
  have hgB' : w17.heap.size ≤ w18.heap.size := hE18.size
  have HH18 := Lib.hid (HH17.out.ext (hE18.trans hEa))
  have HE18 := Lib.hid (HE17.out.trans (hE18.trans hEa))
  generalize hx18 : ((2 : UInt8).toNat : Int) = X18 at *
  generalize hy18 : str [] = Y18 at *
  generalize hz18 : [numT 50, numT 70].length = Z18 at *
  clear hE18 hEa HH17 HE17 hyes ho18 hl18
  go_upto_region 14 with (fail)
  generalize hBV : w18.heap.size = BV at *
  generalize w18.alloc (.cells #[.int .u8 X18, .int .i64 0, .string Y18, .slice a18 Z18 cap18] 44) = w19 at *
  have ⟨⟨u7, c7⟩, f7⟩ := HH18.out.spot (i := 1) (by decide) 7 (by omega)
  simp only [Nat.reduceMul, Nat.reduceAdd] at c7 f7
  obtain ⟨HH20, hgr⟩ : Hid (HeldN 46 w.heap.size (w19.setCell ⟨g, 23, none⟩ (.int .i64 1)) (.slice (some ⟨g, 0, none⟩) aw2.length C) aw3) ∧ w19.grownBy (w19.setCell ⟨g, 23, none⟩ (.int .i64 1)) (some g) := by
    obtain ⟨q1, q2⟩ := HH18.out.put (i := 1) (by decide) 7 (by omega) (.int .i64 1) (awM 1) (fun w' C h => ndV_width h (by unfold isI64; omega))
    exact ⟨Lib.hid q1, q2⟩
  have HE20 := Lib.hid (HE18.out.grown hgr (fun k hk => by injection hk with hk; omega))
  have HB20 := Lib.hid (HB18.out.kept hgr (fun e => by injection e with e; omega))
  have HV20 := Lib.hid (HV18.out.grown hgr (fun b hb => by injection hb with hb; omega))
  clear hgr HH18 HE18 HB18 HV18
  go_upto_region 15 with (fail)
  generalize w19.setCell ⟨g, 23, none⟩ (.int .i64 1) = w20 at *
  clear c7 f7
  go_wp2_with fail
  refine (flist_any aw3 1 (fun x hx => (aw_light (.inr (.inr (.inr (.inl rfl)))) x hx).1) w20 _ HH20.out.row).mono ?_
  rintro e w21 ⟨d21, rfl, hE21, ho21⟩
  rw [aw_l3] at ho21 ⊢
  dsimp only at ho21 ⊢
  obtain ⟨a21, m21, c21, rfl⟩ : ∃ a m c, d21 = .slice a m c := by
    obtain ⟨F, h⟩ := ho21
    obtain ⟨a, c, h⟩ := h.slice
    exact ⟨_, _, _, h⟩
  have HH21 := Lib.hid (HH20.out.ext hE21)
  have HE21 := Lib.hid (HE20.out.trans hE21)
  have HB21 := Lib.hid (HB20.out.ext hE21)
  have HV21 := Lib.hid (HV20.out.ext hE21)
  clear ho21 hE21 HH20 HE20 HB20 HV20
  go_wp2_with fail
  refine (num18_any 3 w21).mono ?_
  rintro e w22 ⟨rfl, hE7⟩
  have HE22 := Lib.hid (HE21.out.trans hE7)
  have HB22 := Lib.hid (HB21.out.ext hE7)
  have HV22 := Lib.hid (HV21.out.ext hE7)
  have hH := HH21.out.ext hE7
  have ⟨⟨u12, c12⟩, f12⟩ := hH.spot (i := 0) (by decide) 12 (by omega)
  have ⟨⟨u13, c13⟩, f13⟩ := hH.spot (i := 0) (by decide) 13 (by omega)
  have ⟨⟨u14, c14⟩, f14⟩ := hH.spot (i := 0) (by decide) 14 (by omega)
  have ⟨⟨u15, c15⟩, f15⟩ := hH.spot (i := 0) (by decide) 15 (by omega)
  simp only [Nat.reduceMul, Nat.reduceAdd, Nat.zero_mul, Nat.zero_add] at c12 f12 c13 f13 c14 f14 c15 f15
  obtain ⟨HH23, hgr⟩ : Hid (HeldN 46 w.heap.size (((((w22).setCell ⟨g, 12, none⟩ (.int .u8 0)).setCell ⟨g, 13, none⟩ (.int .i64 3)).setCell ⟨g, 14, none⟩ (.string { data := #[] })).setCell ⟨g, 15, none⟩ (.slice none 0 0)) (.slice (some ⟨g, 0, none⟩) aw3.length C) aw4) ∧ w22.grownBy (((((w22).setCell ⟨g, 12, none⟩ (.int .u8 0)).setCell ⟨g, 13, none⟩ (.int .i64 3)).setCell ⟨g, 14, none⟩ (.string { data := #[] })).setCell ⟨g, 15, none⟩ (.slice none 0 0)) (some g) := by
    obtain ⟨q3, q4⟩ := hH.putV (i := 0) (by decide) (numT 3) (.int .u8 0) (.int .i64 3) (.string { data := #[] }) (.slice none 0 0) (fun w' _ => (num18_own (by unfold isI64; omega) w' 0).lies)
    exact ⟨Lib.hid q3, q4⟩
  have HE23 := Lib.hid (HE22.out.grown hgr (fun k hk => by injection hk with hk; omega))
  have HB23 := Lib.hid (HB22.out.kept hgr (fun e => by injection e with e; omega))
  have HV23 := Lib.hid (HV22.out.grown hgr (fun b hb => by injection hb with hb; omega))
  clear hgr hH hE7 HH21 HE21 HE22 HB21 HB22 HV21 HV22
  go_upto_region 17 with (fail)
  generalize ((((w22).setCell ⟨g, 12, none⟩ (.int .u8 0)).setCell ⟨g, 13, none⟩ (.int .i64 3)).setCell ⟨g, 14, none⟩ (.string { data := #[] })).setCell ⟨g, 15, none⟩ (.slice none 0 0) = w23 at *
  clear c12 f12 c13 f13 c14 f14 c15 f15
  go_wp2_with fail
  refine (flist_any aw4 1 (fun x hx => (aw_light (.inr (.inr (.inr (.inr rfl)))) x hx).1) w23 _ HH23.out.row).mono ?_
  rintro e w24 ⟨d24, rfl, hE24, ho24⟩
  rw [aw_l4] at ho24 ⊢
  dsimp only at ho24 ⊢
  obtain ⟨a24, m24, c24, rfl⟩ : ∃ a m c, d24 = .slice a m c := by
    obtain ⟨F, h⟩ := ho24
    obtain ⟨a, c, h⟩ := h.slice
    exact ⟨_, _, _, h⟩
  have HE24 := Lib.hid (HE23.out.trans hE24)
  have HB24 := Lib.hid (HB23.out.ext hE24)
  have HV24 := Lib.hid (HV23.out.ext hE24)
  clear ho24 hE24 HH23 HE23 HB23 HV23
  go_wp2_with fail
  have HS : Hid (∀ wx, Ext w24 wx → wx.cell? ⟨BV, 0, none⟩ = some (.int .u8 X18) ∧ wx.cell? ⟨BV, 1, none⟩ = some (.int .i64 0) ∧ wx.cell? ⟨BV, 2, none⟩ = some (.string Y18) ∧ wx.cell? ⟨BV, 3, none⟩ = some (.slice a18 Z18 cap18)) := Lib.hid (fun wx hx => (HB24.out.ext hx).cells)
  have ED := Lib.hid (Ext.refl w24).drew
  refine wp_region_held_drew (S := (fun w' => w'.cell? ⟨BV, 0, none⟩ = some (.int .u8 X18) ∧ w'.cell? ⟨BV, 1, none⟩ = some (.int .i64 0) ∧ w'.cell? ⟨BV, 2, none⟩ = some (.string Y18) ∧ w'.cell? ⟨BV, 3, none⟩ = some (.slice a18 Z18 cap18))) (by kernel_rfl) ?_ (fun hHeld => ?_)
  · (try dsimp only)
    (first | exact HS.out _ ED.out | exact HS.out _ E1.out | exact HS.out _ E2.out | exact HS.out _ E3.out | exact HS.out _ E4.out | exact HS.out _ E5.out)
  refine take_w 0 (some 117) (v := ?_) (by kernel_rfl) (by kernel_rfl) (by kernel_rfl) (by kernel_rfl) (by kernel_rfl) (fun _ _ _ h => h) (by rfl) ?_ (by assumption) ?_
  rotate_left
  · (intro w hSw; (try dsimp only at hSw); go_simp; try with_reducible rfl)
  try simp only [Act.put, List.setIfInBounds_toArray, List.set_cons_zero, List.set_cons_succ]
  refine take_w 1 (some 118) (v := ?_) (by kernel_rfl) (by kernel_rfl) (by kernel_rfl) (by kernel_rfl) (by kernel_rfl) (fun _ _ _ h => h) (by rfl) ?_ (by assumption) ?_
  rotate_left
  · (intro w hSw; (try dsimp only at hSw); go_simp; try with_reducible rfl)
  try simp only [Act.put, List.setIfInBounds_toArray, List.set_cons_zero, List.set_cons_succ]
  refine take_w 2 (some 119) (v := ?_) (by kernel_rfl) (by kernel_rfl) (by kernel_rfl) (by kernel_rfl) (by kernel_rfl) (fun _ _ _ h => h) (by rfl) ?_ (by assumption) ?_
  rotate_left
  · (intro w hSw; (try dsimp only at hSw); go_simp; try with_reducible rfl)
  try simp only [Act.put, List.setIfInBounds_toArray, List.set_cons_zero, List.set_cons_succ]
  refine take_w 3 (some 120) (v := ?_) (by kernel_rfl) (by kernel_rfl) (by kernel_rfl) (by kernel_rfl) (by kernel_rfl) (fun _ _ _ h => h) (by rfl) ?_ (by assumption) ?_
  rotate_left
  · (intro w hSw; (try dsimp only at hSw); go_simp; try with_reducible rfl)
  try simp only [Act.put, List.setIfInBounds_toArray, List.set_cons_zero, List.set_cons_succ]
  refine take_w 4 (some 121) (v := ?_) (by kernel_rfl) (by kernel_rfl) (by kernel_rfl) (by kernel_rfl) (by kernel_rfl) (fun _ _ _ h => h) (by rfl) ?_ (by assumption) ?_
  rotate_left
  · (intro w hSw; (try dsimp only at hSw); go_simp; try with_reducible rfl)
  try simp only [Act.put, List.setIfInBounds_toArray, List.set_cons_zero, List.set_cons_succ]
  refine take_w 5 (some 122) (v := ?_) (by kernel_rfl) (by kernel_rfl) (by kernel_rfl) (by kernel_rfl) (by kernel_rfl) (fun _ _ _ h => h) (by rfl) ?_ (by assumption) ?_
  rotate_left
  · (intro w hSw; (try dsimp only at hSw); go_simp; try with_reducible rfl)
  try simp only [Act.put, List.setIfInBounds_toArray, List.set_cons_zero, List.set_cons_succ]
  refine take_w 6 (some 123) (v := ?_) (by kernel_rfl) (by kernel_rfl) (by kernel_rfl) (by kernel_rfl) (by kernel_rfl) (fun _ _ _ h => h) (by rfl) ?_ (by assumption) ?_
  rotate_left
  · (intro w hSw; (try dsimp only at hSw); go_simp; try with_reducible rfl)
  try simp only [Act.put, List.setIfInBounds_toArray, List.set_cons_zero, List.set_cons_succ]
  refine ready_one 7 (by kernel_rfl) (by kernel_rfl) (by rfl) (fun Kc hKc => ?_)
  go_simp
  refine (num18_any 50 _).mono ?_
  rintro e y1 ⟨rfl, hE1⟩
  have E1 := Lib.hid (ED.out.trans hE1)
  clear hE1
  try go_wp2_with fail
  refine hKc.out _ _ ?_ (fun hHeld => ?_)
  · (try dsimp only)
    (first | exact HS.out _ ED.out | exact HS.out _ E1.out | exact HS.out _ E2.out | exact HS.out _ E3.out | exact HS.out _ E4.out | exact HS.out _ E5.out)
  clear hKc Kc
  try simp only [Act.put, List.setIfInBounds_toArray, List.set_cons_zero, List.set_cons_succ]
  refine ready_one 8 (by kernel_rfl) (by kernel_rfl) (by rfl) (fun Kc hKc => ?_)
  go_simp
  refine (num18_any 70 _).mono ?_
  rintro e y2 ⟨rfl, hE2⟩
  have E2 := Lib.hid (E1.out.trans hE2)
  clear hE2
  try go_wp2_with fail
  refine hKc.out _ _ ?_ (fun hHeld => ?_)
  · (try dsimp only)
    (first | exact HS.out _ ED.out | exact HS.out _ E1.out | exact HS.out _ E2.out | exact HS.out _ E3.out | exact HS.out _ E4.out | exact HS.out _ E5.out)
  clear hKc Kc
  try simp only [Act.put, List.setIfInBounds_toArray, List.set_cons_zero, List.set_cons_succ]
  refine ready_one 9 (by kernel_rfl) (by kernel_rfl) (by rfl) (fun Kc hKc => ?_)
  go_simp
  have HLn := Lib.hid (liesS_two (x := 50) (y := 70) (by unfold isI64; omega) (by unfold isI64; omega) (heap_alloc_new y2 (.cells #[.int .u8 0, .int .i64 50, .string { data := #[] }, .slice none 0 0, .int .u8 0, .int .i64 70, .string { data := #[] }, .slice none 0 0] 44)))
  have E3 := Lib.hid (E2.out.alloc (.cells #[.int .u8 0, .int .i64 50, .string { data := #[] }, .slice none 0 0, .int .u8 0, .int .i64 70, .string { data := #[] }, .slice none 0 0] 44))
  try go_wp2_with fail
  refine hKc.out _ _ ?_ (fun hHeld => ?_)
  · (try dsimp only)
    (first | exact HS.out _ ED.out | exact HS.out _ E1.out | exact HS.out _ E2.out | exact HS.out _ E3.out | exact HS.out _ E4.out | exact HS.out _ E5.out)
  clear hKc Kc
  try simp only [Act.put, List.setIfInBounds_toArray, List.set_cons_zero, List.set_cons_succ]
  refine ready_one 10 (by kernel_rfl) (by kernel_rfl) (by rfl) (fun Kc hKc => ?_)
  go_simp
  refine (list18_any _ 2 2 _).mono ?_
  rintro e y4 ⟨rfl, hE4⟩
  have E4 := Lib.hid (E3.out.trans hE4)
  have HL4 := Lib.hid (list18_lies (HLn.out.ext hE4))
  clear hE4 HLn
  try go_wp2_with fail
  refine hKc.out _ _ ?_ (fun hHeld => ?_)
  · (try dsimp only)
    (first | exact HS.out _ ED.out | exact HS.out _ E1.out | exact HS.out _ E2.out | exact HS.out _ E3.out | exact HS.out _ E4.out | exact HS.out _ E5.out)
  clear hKc Kc
  try simp only [Act.put, List.setIfInBounds_toArray, List.set_cons_zero, List.set_cons_succ]
  refine ready_one 11 (by kernel_rfl) (by kernel_rfl) (by rfl) (fun Kc hKc => ?_)
  go_simp
  refine (vsame_any (listV [numT 50, numT 70]) (listV [numT 50, numT 70]) _ _ _ (HV24.out.ext E4.out).lies HL4.out).mono ?_
  rintro e y5 ⟨rfl, hE5⟩
  rw [eqT_self]
  have E5 := Lib.hid (E4.out.trans hE5)
  clear hE5
  try go_wp2_with fail
  refine hKc.out _ _ ?_ (fun hHeld => ?_)
  · (try dsimp only)
    (first | exact HS.out _ ED.out | exact HS.out _ E1.out | exact HS.out _ E2.out | exact HS.out _ E3.out | exact HS.out _ E4.out | exact HS.out _ E5.out)
  clear hKc Kc
  try simp only [Act.put, List.setIfInBounds_toArray, List.set_cons_zero, List.set_cons_succ]
  refine take_w 12 (some 129) (v := ?_) (by kernel_rfl) (by kernel_rfl) (by kernel_rfl) (by kernel_rfl) (by kernel_rfl) (fun _ _ _ h => h) (by rfl) ?_ (by assumption) ?_
  rotate_left
  · (intro w hSw; (try dsimp only at hSw); go_simp; try with_reducible rfl)
  try simp only [Act.put, List.setIfInBounds_toArray, List.set_cons_zero, List.set_cons_succ]
  refine take_w 13 (some 130) (v := ?_) (by kernel_rfl) (by kernel_rfl) (by kernel_rfl) (by kernel_rfl) (by kernel_rfl) (fun _ _ _ h => h) (by rfl) ?_ (by assumption) ?_
  rotate_left
  · (intro w hSw; (try dsimp only at hSw); go_simp; try with_reducible rfl)
  try simp only [Act.put, List.setIfInBounds_toArray, List.set_cons_zero, List.set_cons_succ]
  refine take_w 14 (some 131) (v := ?_) (by kernel_rfl) (by kernel_rfl) (by kernel_rfl) (by kernel_rfl) (by kernel_rfl) (fun _ _ _ h => h) (by rfl) ?_ (by assumption) ?_
  rotate_left
  · (intro w hSw; (try dsimp only at hSw); go_simp; try with_reducible rfl)
  try simp only [Act.put, List.setIfInBounds_toArray, List.set_cons_zero, List.set_cons_succ]
  refine take_w 15 (some 132) (v := ?_) (by kernel_rfl) (by kernel_rfl) (by kernel_rfl) (by kernel_rfl) (by kernel_rfl) (fun _ _ _ h => h) (by rfl) ?_ (by assumption) ?_
  rotate_left
  · (intro w hSw; (try dsimp only at hSw); go_simp; try with_reducible rfl)
  try simp only [Act.put, List.setIfInBounds_toArray, List.set_cons_zero, List.set_cons_succ]
  refine take_w 16 (some 133) (v := ?_) (by kernel_rfl) (by kernel_rfl) (by kernel_rfl) (by kernel_rfl) (by kernel_rfl) (fun _ _ _ h => h) (by rfl) ?_ (by assumption) ?_
  rotate_left
  · (intro w hSw; (try dsimp only at hSw); go_simp; try with_reducible rfl)
  try simp only [Act.put, List.setIfInBounds_toArray, List.set_cons_zero, List.set_cons_succ]
  refine take_w 17 (some 134) (v := ?_) (by kernel_rfl) (by kernel_rfl) (by kernel_rfl) (by kernel_rfl) (by kernel_rfl) (fun _ _ _ h => h) (by rfl) ?_ (by assumption) ?_
  rotate_left
  · (intro w hSw; (try dsimp only at hSw); go_simp; try with_reducible rfl)
  try simp only [Act.put, List.setIfInBounds_toArray, List.set_cons_zero, List.set_cons_succ]
  refine take_w 18 (some 135) (v := ?_) (by kernel_rfl) (by kernel_rfl) (by kernel_rfl) (by kernel_rfl) (by kernel_rfl) (fun _ _ _ h => h) (by rfl) ?_ (by assumption) ?_
  rotate_left
  · (intro w hSw; (try dsimp only at hSw); go_simp; try with_reducible rfl)
  try simp only [Act.put, List.setIfInBounds_toArray, List.set_cons_zero, List.set_cons_succ]
  refine take_w 19 (some 136) (v := ?_) (by kernel_rfl) (by kernel_rfl) (by kernel_rfl) (by kernel_rfl) (by kernel_rfl) (fun _ _ _ h => h) (by rfl) ?_ (by assumption) ?_
  rotate_left
  · (intro w hSw; (try dsimp only at hSw); go_simp; try with_reducible rfl)
  try simp only [Act.put, List.setIfInBounds_toArray, List.set_cons_zero, List.set_cons_succ]
  refine take_w 20 (some 137) (v := ?_) (by kernel_rfl) (by kernel_rfl) (by kernel_rfl) (by kernel_rfl) (by kernel_rfl) (fun _ _ _ h => h) (by rfl) ?_ (by assumption) ?_
  rotate_left
  · (intro w hSw; (try dsimp only at hSw); go_simp; try with_reducible rfl)
  try simp only [Act.put, List.setIfInBounds_toArray, List.set_cons_zero, List.set_cons_succ]
  refine take_w 21 (some 0) (v := ?_) (by kernel_rfl) (by kernel_rfl) (by kernel_rfl) (by kernel_rfl) (by kernel_rfl) (fun _ _ _ h => h) (by rfl) ?_ (by assumption) ?_
  rotate_left
  · (intro w hSw; (try dsimp only at hSw); go_simp; try with_reducible rfl)
  try simp only [Act.put, List.setIfInBounds_toArray, List.set_cons_zero, List.set_cons_succ]
  refine wpAnyH_done (by kernel_rfl) ?_ _
  have HE9 := Lib.hid (HE24.out.trans E5.out)
  go_wp2
  go_ret
  exact ⟨rfl, HE9.out⟩
end Go.Proofs.YtpcgpcjleedilaaGreatDoor

namespace Fm
open Go Go.RowKit

/-- 'append(s, x...)' where s has no room. -/
theorem run_append_full {P : Program} (w : World) {t e : TypeId} {z : Value} {size bytes : Nat} (he : ElemOf P t e z size bytes) (ty : TypeId) (B off n : Nat) (olds : List Value) (hlo : olds.length = n * size) (holds : ∀ j u, olds[j]? = some u → w.cell? ⟨B, off + j, none⟩ = some u)
    (ad : Addr) (m c : Nat) (news : List Value) (hl : news.length = m * size) (hnews : ∀ j u, news[j]? = some u → w.cell? (ad.add j) = some u) (h1 : ∀ u ∈ news, u.oneCell' = true) (b1 : n + m ≤ maxLen) (b2 : (n + m) * bytes ≤ 140737488355328) :
    ∃ A C w', (Builtin.append_ #[t, t] ty #[.slice (some ⟨B, off, none⟩) n n, .slice (some ad) m c]).run P w = .ok (.slice A (n + m) C) w' ∧ Ext w w' ∧
      ((m = 0 ∧ A = some ⟨B, off, none⟩ ∧ C = n ∧ w' = w) ∨ (0 < m ∧ w'.ownsRow w.heap.size e size (.slice A (n + m) C) (n + m) (olds ++ news))) := by
  obtain ⟨ht, hinfo, hzs, hsz⟩ := he
  obtain ⟨i, hi, hz, hsize, hby⟩ := info_parts hinfo
  by_cases hm : m = 0
  · subst hm
    have hn : news = [] := List.eq_nil_of_length_eq_zero (by simpa using hl)
    subst hn
    have hr := run_append_room_cells (P := P) w t ty e i ht hi B off n n ad 0 c [] (by simp) hnews h1 (Nat.le_refl _) (fun j hj => by cases hj) (fun j hj => by cases hj)
    exact ⟨_, _, _, hr, Ext.refl w, .inl ⟨rfl, rfl, rfl, rfl⟩⟩
  · obtain ⟨v', w', hr, ho, hg⟩ := run_append_arg_grows (P := P) w t ty e i z size bytes ht hi hz hsize hby hzs hsz ⟨B, off, none⟩ n n olds hlo (fun j u hu => by rw [Addr.add_lit]; exact holds j u hu) ad m c news hl hnews (by omega) b1 b2
    obtain ⟨g, cap, rfl, -, -⟩ := World.ownsRow.form ho (by omega)
    exact ⟨_, _, _, hr, grown_none hg, .inr ⟨by omega, ho⟩⟩
/-- .. at an operation that comes up. -/
theorem wp_appFull {P : Program} {w : World} {o : Oper} {a : Act} {K : Act → World → Prop} {Q : Exit → Act → World → Prop} (s x : Operand) {t e : TypeId} {z : Value} {size bytes : Nat}
    (ho : o.op = .call { callee := .builtin .append, args := #[s, x], argTypes := #[t, t] }) (he : ElemOf P t e z size bytes) (B off n : Nat) (olds : List Value) (hs : a.eval s = .slice (some ⟨B, off, none⟩) n n) (hlo : olds.length = n * size) (holds : ∀ j u, olds[j]? = some u → w.cell? ⟨B, off + j, none⟩ = some u)
    (ad : Addr) (m c : Nat) (news : List Value) (hx : a.eval x = .slice (some ad) m c) (hl : news.length = m * size) (hnews : ∀ j u, news[j]? = some u → w.cell? (ad.add j) = some u) (h1 : ∀ u ∈ news, u.oneCell' = true) (b1 : n + m ≤ maxLen) (b2 : (n + m) * bytes ≤ 140737488355328)
    (h : ∀ A C w', Ext w w' → ((m = 0 ∧ A = some ⟨B, off, none⟩ ∧ C = n ∧ w' = w) ∨ (0 < m ∧ w'.ownsRow w.heap.size e size (.slice A (n + m) C) (n + m) (olds ++ news))) → K (a.put o.dst (.slice A (n + m) C)) w') : Oper.wp P o a w K Q := by
  obtain ⟨A, C, w', hrun, hE, hc⟩ := run_append_full w he o.type B off n olds hlo holds ad m c news hl hnews h1 b1 b2
  unfold Oper.wp
  simp [execOp, ho, resolve, invoke, builtin, hs, hx, hrun, Result.andThen]
  exact h A C w' hE hc
/-- Numbers that stay, whatever becomes of that block. -/
def FarI (w : World) (row : Option Nat) (l : List Int) (v : Value) : Prop := ∀ w', w.grownBy w' row → intE.Row w' l v
theorem FarI.row {w : World} {row : Option Nat} {l : List Int} {v : Value} (h : FarI w row l v) : intE.Row w l v := h w (grown_ext (Ext.refl w) row)
theorem FarI.then {w w' : World} {row row' : Option Nat} {l : List Int} {v : Value} (h : FarI w row l v) (hg : w.grownBy w' row) (hr : row' = row ∨ ∃ g, row' = some g ∧ w.heap.size ≤ g) : FarI w' row' l v := fun w'' hg' => h w'' (grown_row hg hg' hr)
theorem FarI.ext {w w' : World} {row : Option Nat} {l : List Int} {v : Value} (h : FarI w row l v) (hE : Ext w w') : FarI w' row l v := h.then (grown_ext hE row) (.inl rfl)
end Fm
namespace Fm
open Go Go.RowKit
/-! ### instances done one by one -/
def stB (ins : List Tr) (pend : List Nat) : Nat → Option Tr := fun j => if j ∈ pend then none else some (ins.getD j zT)
theorem open_light {ins : List Tr} {os : List Int} {pend : List Nat} (h : ∀ t, t ∈ ins → partsT t ≤ 600) (hl : ins.length ≤ 20) (hos : os.length ≤ 40) : ∀ x, x ∈ openO ins os (stB ins pend) → partsT x.val ≤ 1000000 ∧ x.after.length ≤ 900 := by
  have hz : partsT zT = 1 := by unfold zT; rw [partsT_node]; rfl
  have hsum : partsL ins ≤ 600 * ins.length := by
    unfold partsL
    clear hl
    induction ins with
    | nil => simp
    | cons t l ih =>
      have := ih (fun u hu => h u (List.mem_cons_of_mem _ hu))
      have := h t List.mem_cons_self
      simp only [List.map_cons, List.sum_cons, List.length_cons]
      omega
  intro x hx
  unfold openO at hx
  rcases List.mem_append.1 hx with hx | hx
  · unfold baseO at hx
    simp only [List.mem_cons, List.mem_append, List.mem_map, List.not_mem_nil, or_false] at hx
    rcases hx with rfl | ⟨n, _, rfl⟩ | rfl
    · refine ⟨?_, by simp [ndOA]⟩
      show partsT (listV ins) ≤ _
      unfold listV
      rw [partsT_node]; omega
    · refine ⟨?_, by simp [ndOB]⟩
      show partsT (numT n) ≤ _
      unfold numT
      rw [partsT_node]; show 1 + 0 ≤ _; omega
    · refine ⟨by show partsT zT ≤ _; omega, ?_⟩
      show (aftO os.length).length ≤ 900
      rw [aftO_len]; omega
  · obtain ⟨i, hi, rfl⟩ := List.mem_map.1 hx
    have hi := List.mem_range.1 hi
    have ha : (ndOE ins.length os.length (stB ins pend) i).after.length ≤ 900 := by
      obtain ⟨_, _, _, d⟩ := ndOE_kind ins.length os.length (stB ins pend) i
      rw [d, List.length_tail, aftO_len]; omega
    refine ⟨?_, ha⟩
    unfold ndOE stB
    by_cases hp : i ∈ pend
    · rw [if_pos hp]; show partsT zT ≤ _; omega
    · rw [if_neg hp]
      have := h (ins.getD i zT) (by rw [List.getD_eq_getElem?_getD, List.getElem?_eq_getElem hi]; exact List.getElem_mem hi)
      show partsT (ins.getD i zT) ≤ _
      omega
end Fm
namespace Fm
open Go Go.RowKit
/-- An element of a list that lies somewhere. -/
theorem liesS_at {w : World} {l : List Tr} {a : Option Addr} {n c : Nat} (h : LiesS w l (.slice a n c)) {j : Nat} (hj : j < l.length) :
    ∃ (b off : Nat) (k0 n0 : Int) (s0 : ByteArray) (a0 : Option Addr) (m0 c0 : Nat), a = some ⟨b, off, none⟩ ∧ b < w.heap.size ∧ (∀ W, Ext w W → W.cell? ⟨b, off + j * 4, none⟩ = some (.int .u8 k0) ∧ W.cell? ⟨b, off + j * 4 + 1, none⟩ = some (.int .i64 n0) ∧ W.cell? ⟨b, off + j * 4 + 2, none⟩ = some (.string s0) ∧ W.cell? ⟨b, off + j * 4 + 3, none⟩ = some (.slice a0 m0 c0)) ∧
      Lies w l[j] (.agg #[.int .u8 k0, .int .i64 n0, .string s0, .slice a0 m0 c0]) := by
  obtain ⟨a', c', e, h1, h2, h3, C, h4, h5⟩ := h
  injection e with e1 e2 e3
  subst e1 e2 e3
  obtain ⟨b, off, rfl, hb, hc⟩ := h4 (by omega)
  obtain ⟨k0, n0, s0, a0, m0, c0, e0, e1, e2, e3, hx⟩ := elem4o (Ext.refl w) hb hc h5 j hj
  exact ⟨b, off, k0, n0, s0, a0, m0, c0, rfl, hb, fun W hW => ⟨(hW.cell (p := ⟨b, _, none⟩) hb).trans e0, (hW.cell (p := ⟨b, _, none⟩) hb).trans e1, (hW.cell (p := ⟨b, _, none⟩) hb).trans e2, (hW.cell (p := ⟨b, _, none⟩) hb).trans e3⟩, hx⟩
end Fm

namespace Fm
open Go Go.RowKit

/-! ### a row of values, numbers all -/
def numCell (f : Nat → Int) (p : Nat) : Value := if p % 4 = 0 then .int .u8 0 else if p % 4 = 1 then .int .i64 (f (p / 4)) else if p % 4 = 2 then .string { data := #[] } else .slice none 0 0
def wantC (n : Nat) (f : Nat → Int) : List Value := (List.range (n * 4)).map (numCell f)
theorem wantC_get {n : Nat} {f : Nat → Int} {p : Nat} (h : p < n * 4) : (wantC n f)[p]? = some (numCell f p) := by unfold wantC; simp [h]
theorem range_set {α : Type} (g : Nat → α) (N p : Nat) (v : α) : ((List.range N).map g).set p v = (List.range N).map (fun q => if q = p then v else g q) := by
  apply List.ext_getElem (by simp)
  intro i h1 h2
  rw [List.getElem_set]
  simp only [List.getElem_map, List.getElem_range]
  by_cases e : p = i
  · rw [if_pos e, if_pos e.symm]
  · rw [if_neg e, if_neg (fun h => e h.symm)]
def updI (f : Nat → Int) (j : Nat) (x : Int) : Nat → Int := fun i => if i = j then x else f i
theorem wantC_set (n : Nat) (f : Nat → Int) (j : Nat) (x : Int) : ((((wantC n f).set (j * 4) (.int .u8 0)).set (j * 4 + 1) (.int .i64 x)).set (j * 4 + 2) (.string { data := #[] })).set (j * 4 + 3) (.slice none 0 0) = wantC n (updI f j x) := by
  unfold wantC
  rw [range_set, range_set, range_set, range_set]
  apply List.map_congr_left
  intro p _
  unfold numCell updI
  by_cases h3 : p = j * 4 + 3
  · rw [if_pos h3, if_neg (by omega), if_neg (by omega), if_neg (by omega)]
  rw [if_neg h3]
  by_cases h2 : p = j * 4 + 2
  · rw [if_pos h2, if_neg (by omega), if_neg (by omega), if_pos (by omega)]
  rw [if_neg h2]
  by_cases h1 : p = j * 4 + 1
  · rw [if_pos h1, if_neg (by omega), if_pos (by omega), if_pos (by omega)]
  rw [if_neg h1]
  by_cases h0 : p = j * 4
  · rw [if_pos h0, if_pos (by omega)]
  rw [if_neg h0]
  by_cases e : p % 4 = 1
  · rw [if_neg (show ¬ p % 4 = 0 by omega), if_pos e, if_neg (show ¬ p % 4 = 0 by omega), if_pos e, if_neg (show ¬ p / 4 = j by omega)]
  · by_cases e0 : p % 4 = 0
    · rw [if_pos e0, if_pos e0]
    · rw [if_neg e0, if_neg e, if_neg e0, if_neg e]
def WantV (eV : TypeId) (base : Nat) (w : World) (g n : Nat) (f : Nat → Int) : Prop := w.ownsRow base eV 4 (.slice (some ⟨g, 0, none⟩) n n) n (wantC n f)
theorem WantV.lt {eV : TypeId} {base : Nat} {w : World} {g n : Nat} {f : Nat → Int} (h : WantV eV base w g n f) : base ≤ g ∧ g < w.heap.size := World.ownsRow.lt h g rfl
theorem WantV.kept {eV : TypeId} {base : Nat} {w w' : World} {g n : Nat} {f : Nat → Int} {row : Option Nat} (h : WantV eV base w g n f) (hg : w.grownBy w' row) (hr : row ≠ some g) : WantV eV base w' g n f := World.ownsRow.kept h hg (.inr (fun e => hr e.symm))
theorem WantV.ext {eV : TypeId} {base : Nat} {w w' : World} {g n : Nat} {f : Nat → Int} (h : WantV eV base w g n f) (hE : Ext w w') : WantV eV base w' g n f := h.kept hE.grownBy (by simp)
theorem WantV.cells {eV : TypeId} {base : Nat} {w : World} {g n : Nat} {f : Nat → Int} (h : WantV eV base w g n f) {j : Nat} (hj : j < n) : w.cell? ⟨g, j * 4, none⟩ = some (.int .u8 0) ∧ w.cell? ⟨g, j * 4 + 1, none⟩ = some (.int .i64 (f j)) ∧ w.cell? ⟨g, j * 4 + 2, none⟩ = some (.string { data := #[] }) ∧ w.cell? ⟨g, j * 4 + 3, none⟩ = some (.slice none 0 0) := by
  have c : ∀ p, p < n * 4 → w.cell? ⟨g, p, none⟩ = some (numCell f p) := fun p hp => by rw [World.ownsRow.cellAt h p hp, wantC_get hp]
  refine ⟨?_, ?_, ?_, ?_⟩
  · rw [c _ (by omega)]; unfold numCell; rw [if_pos (by omega)]
  · rw [c _ (by omega)]; unfold numCell; rw [if_neg (by omega), if_pos (by omega), show (j * 4 + 1) / 4 = j by omega]
  · rw [c _ (by omega)]; unfold numCell; rw [if_neg (by omega), if_neg (by omega), if_pos (by omega)]
  · rw [c _ (by omega)]; unfold numCell; rw [if_neg (by omega), if_neg (by omega), if_neg (by omega)]
theorem WantV.free {eV : TypeId} {base : Nat} {w : World} {g n : Nat} {f : Nat → Int} (h : WantV eV base w g n f) (p : Nat) : w.frozen? ⟨g, p, none⟩ = false := World.ownsRow.frozenAt h p
def putNum (w : World) (g o : Nat) (x : Int) : World := (((w.setCell ⟨g, o, none⟩ (.int .u8 0)).setCell ⟨g, o + 1, none⟩ (.int .i64 x)).setCell ⟨g, o + 2, none⟩ (.string { data := #[] })).setCell ⟨g, o + 3, none⟩ (.slice none 0 0)
theorem WantV.put {eV : TypeId} {base : Nat} {w : World} {g n : Nat} {f : Nat → Int} (h : WantV eV base w g n f) (j : Nat) (x : Int) : WantV eV base (putNum w g (j * 4) x) g n (updI f j x) ∧ w.grownBy (putNum w g (j * 4) x) (some g) := by
  obtain ⟨p1, g1⟩ := World.ownsRow.stored h (j * 4) (.int .u8 0)
  obtain ⟨p2, g2⟩ := World.ownsRow.stored p1 (j * 4 + 1) (.int .i64 x)
  obtain ⟨p3, g3⟩ := World.ownsRow.stored p2 (j * 4 + 2) (.string { data := #[] })
  obtain ⟨p4, g4⟩ := World.ownsRow.stored p3 (j * 4 + 3) (.slice none 0 0)
  rw [wantC_set] at p4
  exact ⟨p4, grown_trans (grown_trans (grown_trans (setOne_grown w g _ _) (setOne_grown _ g _ _)) (setOne_grown _ g _ _)) (setOne_grown _ g _ _)⟩
theorem numT_lies {x : Int} (hx : isI64 x) (w : World) : Lies w (numT x) (.agg #[.int .u8 0, .int .i64 x, .string { data := #[] }, .slice none 0 0]) := Lies.mk (k := 0) (s := []) hx (by simp) (LiesS.nil w none)
theorem WantV.lies {eV : TypeId} {base : Nat} {w : World} {g n : Nat} {f : Nat → Int} (h : WantV eV base w g n f) (hn : n ≤ 1000000) (hf : ∀ j, j < n → isI64 (f j)) : LiesS w ((List.range n).map fun j => numT (f j)) (.slice (some ⟨g, 0, none⟩) n n) := by
  refine ⟨some ⟨g, 0, none⟩, n, by simp, by simp, by unfold maxLen; omega, (fun e => by cases e), fun i j => numCell f (i * 4 + j), fun _ => ⟨g, 0, rfl, h.lt.2, fun i j hi hj => ?_⟩, fun i hi => ?_⟩
  · have hi : i < n := by simpa using hi
    rw [Nat.zero_add, World.ownsRow.cellAt h _ (by omega), wantC_get (by omega)]
  · have hi : i < n := by simpa using hi
    have e0 : numCell f (i * 4 + 0) = .int .u8 0 := by unfold numCell; rw [if_pos (by omega)]
    have e1 : numCell f (i * 4 + 1) = .int .i64 (f i) := by unfold numCell; rw [if_neg (by omega), if_pos (by omega), show (i * 4 + 1) / 4 = i by omega]
    have e2 : numCell f (i * 4 + 2) = .string { data := #[] } := by unfold numCell; rw [if_neg (by omega), if_neg (by omega), if_pos (by omega)]
    have e3 : numCell f (i * 4 + 3) = .slice none 0 0 := by unfold numCell; rw [if_neg (by omega), if_neg (by omega), if_neg (by omega)]
    dsimp only
    rw [e0, e1, e2, e3]
    simpa using numT_lies (hf i hi) w
theorem madeCells4 (n : Nat) : (madeCells #[.int .u8 0, .int .i64 0, .string { data := #[] }, .slice none 0 0] (n * 4)).toList = wantC n (fun _ => 0) := by
  apply List.ext_getElem (by simp [madeCells, wantC])
  intro p h1 h2
  have hp : p < n * 4 := by simpa [wantC] using h2
  unfold wantC
  simp [madeCells]
  unfold numCell
  have : p % 4 = 0 ∨ p % 4 = 1 ∨ p % 4 = 2 ∨ p % 4 = 3 := by omega
  rcases this with h | h | h | h <;> simp [h]

/-! ### nodes that are only read -/
/-- Nodes in a block, what they hold was there ahead. -/
def LeftN (w0 w : World) (B off m C : Nat) (l : List Nd) : Prop :=
  m = l.length ∧ m ≤ C ∧ C ≤ maxLen ∧ w0.heap.size ≤ B ∧ B < w.heap.size ∧ ∃ ds : List (List Value), ds.length = m ∧ (∀ (j : Nat) (u : Value), ds.flatten[j]? = some u → w.cell? ⟨B, off + j, none⟩ = some u) ∧ ∀ (i : Nat) (hi : i < l.length) (hd : i < ds.length), ∀ W, Ext w0 W → NdV W l[i] (.agg ds[i].toArray)
theorem LeftN.kept {w0 w w' : World} {B off m C : Nat} {l : List Nd} {row : Option Nat} (h : LeftN w0 w B off m C l) (hg : w.grownBy w' row) (hr : row ≠ some B) : LeftN w0 w' B off m C l := by
  obtain ⟨h1, h2, h3, h4, h5, ds, h6, h7, h8⟩ := h
  exact ⟨h1, h2, h3, h4, Nat.lt_of_lt_of_le h5 hg.size, ds, h6, fun j u hu => hg.cell (h7 j u hu) (fun e => hr e.symm), h8⟩
theorem LeftN.ext {w0 w w' : World} {B off m C : Nat} {l : List Nd} (h : LeftN w0 w B off m C l) (hE : Ext w w') : LeftN w0 w' B off m C l := h.kept hE.grownBy (by simp)
theorem LeftN.at {w0 w : World} {B off m C : Nat} {l : List Nd} (h : LeftN w0 w B off m C l) (h0 : Ext w0 w) {i : Nat} (hi : i < l.length) :
    ∃ D : List Value, D.length = 16 ∧ (∀ u, u ∈ D → u.oneCell' = true) ∧ w.rangeAt B (off + i * 16) D ∧ ∀ W, Ext w0 W → NdV W l[i] (.agg D.toArray) := by
  obtain ⟨h1, h2, h3, h4, h5, ds, h6, h7, h8⟩ := h
  have hd : i < ds.length := by omega
  have h16 : ∀ D, D ∈ ds → D.length = 16 := fun D hD => by
    obtain ⟨j, hj, rfl⟩ := List.getElem_of_mem hD
    exact (ndV_one (h8 j (by omega) hj w h0)).1
  obtain ⟨q1, q2⟩ := ndV_one (h8 i hi hd w h0)
  refine ⟨ds[i], q1, q2, fun j v hv => ?_, h8 i hi hd⟩
  have hj : j < 16 := by
    have := (List.getElem?_eq_some_iff.1 hv).1
    omega
  have := flat16 ds i j hd h16 hj
  rw [Nat.add_assoc off]
  exact h7 _ v (by rw [this]; exact hv)
/-- Both parts, ahead of the append. -/
theorem LeftN.parts {w0 w : World} {B off m C : Nat} {l : List Nd} (h : LeftN w0 w B off m C l) (h0 : Ext w0 w) {q : Nat} (hq : q < l.length) :
    ∃ (AD : Addr) (xs ys : List Value), (if C = q + 1 then some (⟨B, off, none⟩ : Addr) else (some (⟨B, off, none⟩ : Addr)).map (·.add ((q + 1) * 16))) = some AD ∧ xs.length = q * 16 ∧ ys.length = (m - (q + 1)) * 16 ∧ (∀ u, u ∈ ys → u.oneCell' = true) ∧
      (∀ (w' : World), Ext w w' → ∀ (j : Nat) (u : Value), xs[j]? = some u → w'.cell? ⟨B, off + j, none⟩ = some u) ∧ (∀ (w' : World), Ext w w' → ∀ (j : Nat) (u : Value), ys[j]? = some u → w'.cell? (AD.add j) = some u) ∧
      ∀ (w' : World) (A : Option Addr) (C' : Nat) (eN : TypeId), Ext w w' → (((m - (q + 1)) = 0 ∧ A = some ⟨B, off, none⟩ ∧ C' = q ∧ w' = w) ∨ (0 < m - (q + 1) ∧ w'.ownsRow w.heap.size eN 16 (.slice A (q + (m - (q + 1))) C') (q + (m - (q + 1))) (xs ++ ys))) →
        ∃ B' off', A = some ⟨B', off', none⟩ ∧ (B' = B ∨ w.heap.size ≤ B') ∧ LeftN w0 w' B' off' (q + (m - (q + 1))) C' (l.take q ++ l.drop (q + 1)) := by
  obtain ⟨h1, h2, h3, h4, h5, ds, h6, h7, h8⟩ := h
  subst h1
  have hd : q < ds.length := by omega
  have h16 : ∀ D, D ∈ ds → D.length = 16 := fun D hD => by
    obtain ⟨j, hj, rfl⟩ := List.getElem_of_mem hD
    exact (ndV_one (h8 j (by omega) hj w h0)).1
  have hfl : (ds.take q).flatten.length = q * 16 := by
    rw [flat16_all _ (fun D hD => h16 D (List.mem_of_mem_take hD)), List.length_take]; congr 1; omega
  have hsplit : ds.flatten = (ds.take (q + 1)).flatten ++ (ds.drop (q + 1)).flatten := by rw [← List.flatten_append, List.take_append_drop]
  have hsplit0 : ds.flatten = (ds.take q).flatten ++ (ds.drop q).flatten := by rw [← List.flatten_append, List.take_append_drop]
  have hfl1 : (ds.take (q + 1)).flatten.length = (q + 1) * 16 := by
    rw [flat16_all _ (fun D hD => h16 D (List.mem_of_mem_take hD)), List.length_take]; congr 1; omega
  have hfl2 : (ds.drop (q + 1)).flatten.length = (l.length - (q + 1)) * 16 := by
    rw [flat16_all _ (fun D hD => h16 D (List.mem_of_mem_drop hD)), List.length_drop]; congr 1; omega
  have hone : ∀ u, u ∈ (ds.drop (q + 1)).flatten → u.oneCell' = true := fun u hu => by
    obtain ⟨D, hD, hu⟩ := List.mem_flatten.1 hu
    obtain ⟨j, hj, rfl⟩ := List.getElem_of_mem (List.mem_of_mem_drop hD)
    exact (ndV_one (h8 j (by omega) hj w h0)).2 u hu
  have hx : ∀ (w' : World), Ext w w' → ∀ (j : Nat) (u : Value), (ds.take q).flatten[j]? = some u → w'.cell? ⟨B, off + j, none⟩ = some u := fun w' hE j u hu => by
    rw [hE.cell (p := ⟨B, off + j, none⟩) h5]
    refine h7 j u ?_
    rw [hsplit0, List.getElem?_append_left (List.getElem?_eq_some_iff.1 hu).1]
    exact hu
  have hy : ∀ (w' : World), Ext w w' → ∀ (j : Nat) (u : Value), (ds.drop (q + 1)).flatten[j]? = some u → w'.cell? ⟨B, off + (q + 1) * 16 + j, none⟩ = some u := fun w' hE j u hu => by
    rw [hE.cell (p := ⟨B, off + (q + 1) * 16 + j, none⟩) h5, Nat.add_assoc off]
    refine h7 _ u ?_
    rw [hsplit, List.getElem?_append_right (by omega), hfl1, show (q + 1) * 16 + j - (q + 1) * 16 = j by omega]
    exact hu
  have hnew : ∀ (w' : World) (A : Option Addr) (C' : Nat) (eN : TypeId), Ext w w' → (((l.length - (q + 1)) = 0 ∧ A = some ⟨B, off, none⟩ ∧ C' = q ∧ w' = w) ∨ (0 < l.length - (q + 1) ∧ w'.ownsRow w.heap.size eN 16 (.slice A (q + (l.length - (q + 1))) C') (q + (l.length - (q + 1))) ((ds.take q).flatten ++ (ds.drop (q + 1)).flatten))) →
        ∃ B' off', A = some ⟨B', off', none⟩ ∧ (B' = B ∨ w.heap.size ≤ B') ∧ LeftN w0 w' B' off' (q + (l.length - (q + 1))) C' (l.take q ++ l.drop (q + 1)) := by
    intro w' A C' eN hE hc
    have hnv : ∀ (i : Nat) (hi : i < (l.take q ++ l.drop (q + 1)).length) (hd : i < (ds.take q ++ ds.drop (q + 1)).length), ∀ W, Ext w0 W → NdV W (l.take q ++ l.drop (q + 1))[i] (.agg (ds.take q ++ ds.drop (q + 1))[i].toArray) := by
      intro i hi hdi W hW
      by_cases hiq : i < q
      · have e1 : (l.take q ++ l.drop (q + 1))[i] = l[i]'(by omega) := by rw [List.getElem_append_left (by rw [List.length_take]; omega), List.getElem_take]
        have e2 : (ds.take q ++ ds.drop (q + 1))[i] = ds[i]'(by omega) := by rw [List.getElem_append_left (by rw [List.length_take]; omega), List.getElem_take]
        rw [e1, e2]
        exact h8 i (by omega) (by omega) W hW
      · have hlt : i + 1 < l.length := by
          rw [List.length_append, List.length_take, List.length_drop] at hi; omega
        have e1 : (l.take q ++ l.drop (q + 1))[i] = l[i + 1] := by
          rw [List.getElem_append_right (by rw [List.length_take]; omega), List.getElem_drop]
          congr 1; rw [List.length_take]; omega
        have e2 : (ds.take q ++ ds.drop (q + 1))[i] = ds[i + 1]'(by omega) := by
          rw [List.getElem_append_right (by rw [List.length_take]; omega), List.getElem_drop]
          congr 1; rw [List.length_take]; omega
        rw [e1, e2]
        exact h8 (i + 1) hlt (by omega) W hW
    have hlen : q + (l.length - (q + 1)) = (l.take q ++ l.drop (q + 1)).length := by rw [List.length_append, List.length_take, List.length_drop]; omega
    have hdl : (ds.take q ++ ds.drop (q + 1)).length = q + (l.length - (q + 1)) := by rw [List.length_append, List.length_take, List.length_drop]; omega
    rcases hc with ⟨z, rfl, rfl, rfl⟩ | ⟨z, ho⟩
    · refine ⟨B, off, rfl, .inl rfl, hlen, by omega, by omega, h4, h5, _, hdl, fun j u hu => ?_, hnv⟩
      have hdn : ds.drop (C' + 1) = [] := List.drop_eq_nil_of_le (by omega)
      rw [hdn, List.append_nil] at hu
      exact hx _ (Ext.refl _) j u hu
    · obtain ⟨g, c, e, hb, hlt⟩ := World.ownsRow.form ho (by omega)
      injection e with e1 e2 e3
      subst e1 e3
      obtain ⟨hm1, hm2⟩ : q + (l.length - (q + 1)) ≤ C' ∧ C' ≤ maxLen := by
        rcases ho.2 with ⟨e, _⟩ | ⟨g', cap, cur, e, _, _, a1, a2, _⟩
        · cases e
        · injection e with e1 e2 e3
          subst e3
          exact ⟨a1, a2⟩
      refine ⟨g, 0, rfl, .inr hb, hlen, hm1, hm2, Nat.le_trans (Nat.le_trans h4 (Nat.le_of_lt h5)) hb, hlt, _, hdl, fun j u hu => ?_, hnv⟩
      rw [List.flatten_append] at hu
      have hj : j < (q + (l.length - (q + 1))) * 16 := by
        have := (List.getElem?_eq_some_iff.1 hu).1
        rw [List.length_append, hfl, hfl2] at this
        omega
      rw [Nat.zero_add, World.ownsRow.cellAt ho j hj]
      exact hu
  by_cases hc : C = q + 1
  · refine ⟨⟨B, off, none⟩, _, _, if_pos hc, hfl, hfl2, hone, hx, fun w' hE j u hu => ?_, hnew⟩
    have : ds.drop (q + 1) = [] := List.drop_eq_nil_of_le (by omega)
    rw [this] at hu
    simp at hu
  · refine ⟨⟨B, off + (q + 1) * 16, none⟩, _, _, ?_, hfl, hfl2, hone, hx, fun w' hE j u hu => ?_, hnew⟩
    · rw [if_neg hc]; simp [Addr.add]
    · rw [Addr.add_lit]
      exact hy w' hE j u hu
/-- A node's value is written. -/
theorem ndV_val {w : World} {n : Nd} {C : List Value} (h : NdV w n (.agg C.toArray)) {t : Tr} {c0 c1 c2 c3 : Value} (hT : Lies w t (.agg #[c0, c1, c2, c3])) : NdV w { n with val := t } (.agg ((((C.set 12 c0).set 13 c1).set 14 c2).set 15 c3).toArray) := by
  obtain ⟨a, m, c, k, N, s, d, e, h1, h2, h3⟩ := h
  injection e with e
  injection e with e
  subst e
  exact ⟨a, m, c, c0, c1, c2, c3, rfl, h1, hT, h3⟩
/-- More nodes behind. -/
theorem OldN.app {eN : TypeId} {w0 w : World} {base : Nat} {v : Value} {l : List Nd} (h : OldN eN w0 base w v l) : ∃ xs, w.ownsRow base eN 16 v l.length xs ∧ ∀ (w' : World) (v' : Value) (m : List Nd) (es : List (List Value)), es.length = m.length → w'.ownsRow base eN 16 v' (l.length + m.length) (xs ++ es.flatten) →
    (∀ (i : Nat) (hi : i < m.length) (hc : i < es.length), ∀ W, Ext w0 W → NdV W m[i] (.agg es[i].toArray)) → OldN eN w0 base w' v' (l ++ m) := by
  obtain ⟨cs, h1, h2, h3⟩ := h
  refine ⟨_, h2, fun w' v' m es hl hrow hn => ⟨cs ++ es, by simp [h1, hl], by rw [List.length_append, List.flatten_append]; exact hrow, fun i hi hc => ?_⟩⟩
  by_cases hil : i < l.length
  · have hic : i < cs.length := by omega
    rw [List.getElem_append_left hil, List.getElem_append_left hic]
    exact h3 i hil hic
  · have hi' : i - l.length < m.length := by rw [List.length_append] at hi; omega
    have e1 : (l ++ m)[i] = m[i - l.length] := List.getElem_append_right (by omega)
    have e2 : (cs ++ es)[i] = es[i - l.length]'(by omega) := by rw [List.getElem_append_right (by omega)]; simp [h1]
    rw [e1, e2]
    exact hn _ hi' (by omega)
/-- Nodes of one's own, cut in two: as the source of two appends. -/
theorem HeldN.split2 {eN : TypeId} {base : Nat} {w : World} {g n cap : Nat} {l : List Nd} (h : HeldN eN base w (.slice (some ⟨g, 0, none⟩) n cap) l) (hn : n = l.length) {k : Nat} (hk : k ≤ n) :
    n ≤ cap ∧ cap ≤ maxLen ∧ ∃ (AD : Addr) (xs ys : List Value), (if cap = k then some (⟨g, 0, none⟩ : Addr) else (some (⟨g, 0, none⟩ : Addr)).map (·.add (k * 16))) = some AD ∧ xs.length = k * 16 ∧ ys.length = (n - k) * 16 ∧ (∀ u, u ∈ xs → u.oneCell' = true) ∧ (∀ u, u ∈ ys → u.oneCell' = true) ∧
      (∀ (w' : World), Ext w w' → ∀ (j : Nat) (u : Value), xs[j]? = some u → w'.cell? ⟨g, 0 + j, none⟩ = some u) ∧ (∀ (w' : World), Ext w w' → ∀ (j : Nat) (u : Value), ys[j]? = some u → w'.cell? (AD.add j) = some u) ∧
      (∀ (w' : World) (v' : Value) (base' : Nat), w'.ownsRow base' eN 16 v' k xs → OldN eN w base' w' v' (l.take k)) ∧
      (∀ (w' : World) (B base' C : Nat), w.heap.size ≤ base' → w'.ownsRow base' eN 16 (.slice (some ⟨B, 0, none⟩) (n - k) C) (n - k) ys → LeftN w w' B 0 (n - k) C (l.drop k)) := by
  subst hn
  have hgl := (h.lt g rfl).2
  obtain ⟨ds, h6, h2, h3⟩ := h
  have h8 : ∀ (i : Nat) (hi : i < l.length) (hd : i < ds.length), ∀ W, Ext w W → NdV W l[i] (.agg ds[i].toArray) := fun i hi hd W hW => (h3 i hi hd).2.2 W (grown_ext hW _)
  obtain ⟨hm1, hm2⟩ : l.length ≤ cap ∧ cap ≤ maxLen := by
    rcases h2.2 with ⟨e, _⟩ | ⟨g', cap', cur, e, _, _, a1, a2, _⟩
    · cases e
    · injection e with e1 e2 e3
      subst e3
      exact ⟨a1, a2⟩
  refine ⟨hm1, hm2, ?_⟩
  have h16 : ∀ D, D ∈ ds → D.length = 16 := fun D hD => by
    obtain ⟨j, hj, rfl⟩ := List.getElem_of_mem hD
    exact (h3 j (by omega) hj).1
  have hcell : ∀ (j : Nat) (u : Value), ds.flatten[j]? = some u → w.cell? ⟨g, j, none⟩ = some u := fun j u hu => by
    have hj := (List.getElem?_eq_some_iff.1 hu).1
    have hl : ds.flatten.length = l.length * 16 := h2.1
    rw [World.ownsRow.cellAt h2 j (by omega)]
    exact hu
  have hsplit : ds.flatten = (ds.take k).flatten ++ (ds.drop k).flatten := by rw [← List.flatten_append, List.take_append_drop]
  have hfl1 : (ds.take k).flatten.length = k * 16 := by
    rw [flat16_all _ (fun D hD => h16 D (List.mem_of_mem_take hD)), List.length_take]; congr 1; omega
  have hfl2 : (ds.drop k).flatten.length = (l.length - k) * 16 := by
    rw [flat16_all _ (fun D hD => h16 D (List.mem_of_mem_drop hD)), List.length_drop]; congr 1; omega
  have hone : ∀ D, D ∈ ds → ∀ u, u ∈ D → u.oneCell' = true := fun D hD u hu => by
    obtain ⟨j, hj, rfl⟩ := List.getElem_of_mem hD
    exact (h3 j (by omega) hj).2.1 u hu
  have o1 : ∀ u, u ∈ (ds.take k).flatten → u.oneCell' = true := fun u hu => by
    obtain ⟨D, hD, hu⟩ := List.mem_flatten.1 hu
    exact hone D (List.mem_of_mem_take hD) u hu
  have o2 : ∀ u, u ∈ (ds.drop k).flatten → u.oneCell' = true := fun u hu => by
    obtain ⟨D, hD, hu⟩ := List.mem_flatten.1 hu
    exact hone D (List.mem_of_mem_drop hD) u hu
  have hx : ∀ (w' : World), Ext w w' → ∀ (j : Nat) (u : Value), (ds.take k).flatten[j]? = some u → w'.cell? ⟨g, 0 + j, none⟩ = some u := fun w' hE j u hu => by
    rw [hE.cell (p := ⟨g, 0 + j, none⟩) hgl, Nat.zero_add]
    refine hcell j u ?_
    rw [hsplit, List.getElem?_append_left (List.getElem?_eq_some_iff.1 hu).1]
    exact hu
  have hy : ∀ (w' : World), Ext w w' → ∀ (j : Nat) (u : Value), (ds.drop k).flatten[j]? = some u → w'.cell? ⟨g, 0 + k * 16 + j, none⟩ = some u := fun w' hE j u hu => by
    rw [hE.cell (p := ⟨g, 0 + k * 16 + j, none⟩) hgl, Nat.zero_add]
    refine hcell _ u ?_
    rw [hsplit, List.getElem?_append_right (by omega), hfl1, show k * 16 + j - k * 16 = j by omega]
    exact hu
  have hold : ∀ (w' : World) (v' : Value) (base' : Nat), w'.ownsRow base' eN 16 v' k (ds.take k).flatten → OldN eN w base' w' v' (l.take k) := fun w' v' base' ho =>
    ⟨ds.take k, by rw [List.length_take, List.length_take]; omega, by rw [show (l.take k).length = k by rw [List.length_take]; omega]; exact ho, fun i hi hc W hW => by
      rw [List.getElem_take, List.getElem_take]
      exact h8 i (by rw [List.length_take] at hi; omega) _ W hW⟩
  have hleft : ∀ (w' : World) (B base' C : Nat), w.heap.size ≤ base' → w'.ownsRow base' eN 16 (.slice (some ⟨B, 0, none⟩) (l.length - k) C) (l.length - k) (ds.drop k).flatten → LeftN w w' B 0 (l.length - k) C (l.drop k) := fun w' B base' C hb ho => by
    obtain ⟨q1, q2⟩ : l.length - k ≤ C ∧ C ≤ maxLen := by
      rcases ho.2 with ⟨e, _⟩ | ⟨g', cap', cur, e, _, _, a1, a2, _⟩
      · cases e
      · injection e with e1 e2 e3
        subst e3
        exact ⟨a1, a2⟩
    have hlt := World.ownsRow.lt ho B rfl
    refine ⟨by rw [List.length_drop], q1, q2, Nat.le_trans hb hlt.1, hlt.2, ds.drop k, by rw [List.length_drop]; omega, fun j u hu => ?_, fun i hi hd W hW => ?_⟩
    · have hj := (List.getElem?_eq_some_iff.1 hu).1
      rw [Nat.zero_add, World.ownsRow.cellAt ho j (by omega)]
      exact hu
    · rw [List.getElem_drop, List.getElem_drop]
      exact h8 (k + i) (by rw [List.length_drop] at hi; omega) _ W hW
  by_cases hc : cap = k
  · refine ⟨⟨g, 0, none⟩, _, _, if_pos hc, hfl1, hfl2, o1, o2, hx, fun w' hE j u hu => ?_, hold, hleft⟩
    have : ds.drop k = [] := List.drop_eq_nil_of_le (by omega)
    rw [this] at hu
    simp at hu
  · refine ⟨⟨g, 0 + k * 16, none⟩, _, _, ?_, hfl1, hfl2, o1, o2, hx, fun w' hE j u hu => ?_, hold, hleft⟩
    · rw [if_neg hc, Option.map_some, Addr.add_lit]
    · rw [Addr.add_lit]
      exact hy w' hE j u hu
theorem OldN.lt {eN : TypeId} {w0 w : World} {base : Nat} {v : Value} {l : List Nd} (h : OldN eN w0 base w v l) : ∀ k, v.ownBlock = some k → base ≤ k ∧ k < w.heap.size := by
  obtain ⟨cs, h1, h2, h3⟩ := h
  exact World.ownsRow.lt h2
end Fm
