/- From a row's reading of data in slices to what the contracts ask. No program is imported. -/
import Derived.Test.YtpcgpcjleedilaaGreatDoorPlFj
import Derived.Test.YtpcgpcjleedilaaGreatDoorTake
import Derived.Deep.RegionLaw
import Derived.Test.YtpcgpcjleedilaaGreatDoorPlO
import Derived.ProofKit
import Derived.OpenShut
import Derived.ShutString
import Derived.ChangeOld
import Derived.Test.YtpcgpcjleedilaaGreatDoorFaA
import Derived.LaidLaws
import Derived.Lib.LaidTab
open Go.RowKit Go.Shelf
namespace Fm
open Go Go.RowKit
/-- Two numbers in a block. -/
theorem liesS_two {w : World} {b : Nat} {x y : Int} {e : TypeId} {fr : Nat × Nat} (hx : isI64 x) (hy : isI64 y) (hb : w.heap[b]? = some (.cells #[.int .u8 0, .int .i64 x, .string { data := #[] }, .slice none 0 0, .int .u8 0, .int .i64 y, .string { data := #[] }, .slice none 0 0] e fr)) :
    LiesS w [numT x, numT y] (.slice (some ⟨b, 0, none⟩) 2 2) := by
  have hl : b < w.heap.size := (Array.getElem?_eq_some_iff.1 hb).1
  refine ⟨_, 2, rfl, by simp, by unfold maxLen; omega, (fun h => by cases h), (fun i j => (#[.int .u8 0, .int .i64 x, .string { data := #[] }, .slice none 0 0, .int .u8 0, .int .i64 y, .string { data := #[] }, .slice none 0 0] : Array Value).getD (i * 4 + j) .nilFunc), fun _ => ⟨b, 0, rfl, hl, fun i j hi hj => ?_⟩, fun i hi => ?_⟩
  · have hi : i < 2 := hi
    unfold World.cell?
    rw [hb]
    rcases (by omega : i = 0 ∨ i = 1) with rfl | rfl <;> rcases (by omega : j = 0 ∨ j = 1 ∨ j = 2 ∨ j = 3) with rfl | rfl | rfl | rfl <;> rfl
  · have hi : i < 2 := hi
    rcases (by omega : i = 0 ∨ i = 1) with rfl | rfl
    · exact (OwnT.mk (e := 0) (base := 0) (k := 0) (s := []) hx (by simp) (OwnL.nil _ _ _)).lies
    · exact (OwnT.mk (e := 0) (base := 0) (k := 0) (s := []) hy (by simp) (OwnL.nil _ _ _)).lies
theorem liesS_one {w : World} {b : Nat} {x : Int} {e : TypeId} {fr : Nat × Nat} (hx : isI64 x) (hb : w.heap[b]? = some (.cells #[.int .u8 0, .int .i64 x, .string { data := #[] }, .slice none 0 0] e fr)) :
    LiesS w [numT x] (.slice (some ⟨b, 0, none⟩) 1 1) := by
  have hl : b < w.heap.size := (Array.getElem?_eq_some_iff.1 hb).1
  refine ⟨_, 1, rfl, by simp, by unfold maxLen; omega, (fun h => by cases h), (fun i j => (#[.int .u8 0, .int .i64 x, .string { data := #[] }, .slice none 0 0] : Array Value).getD (i * 4 + j) .nilFunc), fun _ => ⟨b, 0, rfl, hl, fun i j hi hj => ?_⟩, fun i hi => ?_⟩
  · have hi : i < 1 := hi
    unfold World.cell?
    rw [hb]
    rcases (by omega : i = 0) with rfl
    rcases (by omega : j = 0 ∨ j = 1 ∨ j = 2 ∨ j = 3) with rfl | rfl | rfl | rfl <;> rfl
  · have hi : i < 1 := hi
    rcases (by omega : i = 0) with rfl
    exact (OwnT.mk (e := 0) (base := 0) (k := 0) (s := []) hx (by simp) (OwnL.nil _ _ _)).lies
/-- A copy's nodes, and a block behind it. -/
theorem CopyN.farN {eN eI eV : TypeId} {base : Nat} {w w' : World} {v : Value} {l : List Nd} (h : CopyN eN eI eV base w v l) (hE : Ext w w') {b : Nat} (hb : w.heap.size ≤ b) :
    ∃ ds : List (List Value), ds.length = l.length ∧ w'.ownsRow base eN 16 v l.length ds.flatten ∧ ∀ (i : Nat) (hi : i < l.length) (hc : i < ds.length), FarNd w' (some b) l[i] ds[i] := by
  obtain ⟨cs, lo, h1, h2, h3, h4, h5, h6, h7⟩ := h
  have hmon := lo_mono h5
  refine ⟨cs, h1, hE.own h2, fun i hi hc => farNd_of (fun w'' hw' => ((h7 i hi hc).far (fun c hb1 hb2 => ?_)).v)⟩
  have := hmon l.length (Nat.le_refl _) (i + 1) (by omega)
  rw [hw'.block c (by have := hE.size; omega) (fun e => by injection e with e; omega)]
  exact hE.grownBy.block c (by omega) (by simp)
end Fm
namespace Go.Proofs.YtpcgpcjleedilaaGreatDoor
open Go Go.Proofs Fm

theorem awA_v {w0 : World} {a : Option Addr} {n c : Nat} (h : LiesS w0 [numT 5, numT 7] (.slice a n c)) : ∀ W, Ext w0 W → NdV W awA (.agg #[.string { data := #[48, 47, 97] }, .string { data := #[] }, .int .u8 0, .int .i64 0, .int .i64 (-1), .int .i64 0, .slice none 0 0, .int .i64 0, .int .i64 0, .int .u8 4, .int .i64 0, .int .i64 0, .int .u8 2, .int .i64 0, .string { data := #[] }, .slice a n c]) := fun W hW => by
  have z : isI64 0 := by unfold isI64; omega
  exact ⟨none, 0, 0, .int .u8 2, .int .i64 0, .string { data := #[] }, .slice a n c, rfl, Elem.Row.void _ _ _, list18_lies (h.ext hW), by simp [awA], by simp [awA], z, by show isI64 (-1); unfold isI64; omega, z, z, z, z, z⟩
theorem awM_v {W : World} {wd : Int} (hwd : isI64 wd) {a : Option Addr} {n c : Nat} (h : intE.Row W [0] (.slice a n c)) : NdV W (awM wd) (.agg #[.string { data := #[48, 47, 109] }, .string { data := #[] }, .int .u8 1, .int .i64 0, .int .i64 (-1), .int .i64 0, .slice a n c, .int .i64 wd, .int .i64 0, .int .u8 0, .int .i64 0, .int .i64 0, .int .u8 0, .int .i64 0, .string { data := #[] }, .slice none 0 0]) := by
  have z : isI64 0 := by unfold isI64; omega
  exact ⟨a, n, c, .int .u8 0, .int .i64 0, .string { data := #[] }, .slice none 0 0, rfl, h, (num18_own z W 0).lies, by simp [awM], by simp [awM], z, by show isI64 (-1); unfold isI64; omega, z, hwd, z, z, z⟩
set_option maxRecDepth 100000 in
set_option maxHeartbeats 8000000 in
theorem awake18_any (w : World) (hw : KW w) :
    Calls Tryz.prog 29 #[] w fun e w' => e = .returned (.bool true) ∧ Ext w w' := by
  have HKW := Lib.hid hw
  clear hw
  go_enter Tryz.func29, Tryz.ntmps29
  go_wp2_with fail
  refine (num18_any 5 w).mono ?_
  rintro e w1 ⟨rfl, hE1⟩
  go_wp2_with fail
  refine (num18_any 7 w1).mono ?_
  rintro e w2 ⟨rfl, hE2⟩
  have hb3 := heap_alloc_new w2 (.cells #[.int .u8 0, .int .i64 5, .string { data := #[] }, .slice none 0 0, .int .u8 0, .int .i64 7, .string { data := #[] }, .slice none 0 0] 44)
  have hE3 := (Ext.refl w2).alloc (.cells #[.int .u8 0, .int .i64 5, .string { data := #[] }, .slice none 0 0, .int .u8 0, .int .i64 7, .string { data := #[] }, .slice none 0 0] 44)
  have hz3 : w2.heap.size < (w2.alloc (.cells #[.int .u8 0, .int .i64 5, .string { data := #[] }, .slice none 0 0, .int .u8 0, .int .i64 7, .string { data := #[] }, .slice none 0 0] 44)).heap.size := by simp
  go_wp2_with fail
  generalize w2.alloc (.cells #[.int .u8 0, .int .i64 5, .string { data := #[] }, .slice none 0 0, .int .u8 0, .int .i64 7, .string { data := #[] }, .slice none 0 0] 44) = W3 at *
  have HL := Lib.hid (liesS_two (by unfold isI64; omega) (by unfold isI64; omega) hb3)
  have HE3 := Lib.hid ((hE1.trans hE2).trans hE3)
  refine (list18_any _ 2 2 W3).mono ?_
  rintro e w4 ⟨rfl, hE4⟩
  generalize w2.heap.size = VB at *
  obtain ⟨Ca, hCa⟩ : ∃ Ca, Ca = ([.string { data := #[48, 47, 97] }, .string { data := #[] }, .int .u8 0, .int .i64 0, .int .i64 (-1), .int .i64 0, .slice none 0 0, .int .i64 0, .int .i64 0, .int .u8 4, .int .i64 0, .int .i64 0, .int .u8 2, .int .i64 0, .string { data := #[] }, .slice (some ⟨VB, 0, none⟩) 2 2] : List Value) := ⟨_, rfl⟩
  have HAG : Hid ((Value.agg #[.string { data := #[48, 47, 97] }, .string { data := #[] }, .int .u8 0, .int .i64 0, .int .i64 (-1), .int .i64 0, .slice none 0 0, .int .i64 0, .int .i64 0, .int .u8 4, .int .i64 0, .int .i64 0, .int .u8 2, .int .i64 0, .string { data := #[] }, .slice (some ⟨VB, 0, none⟩) 2 2]) = .agg Ca.toArray) := Lib.hid (by rw [hCa])
  have HLa : Hid (Ca.length = 16) := Lib.hid (by rw [hCa]; rfl)
  have HLna : Hid ((Tryz.prog.info? 46).map (·.size) = some Ca.length) := Lib.hid (by rw [hCa]; exact sizenode_F)
  have HVa : Hid (∀ W, Ext w4 W → NdV W awA (.agg Ca.toArray)) := Lib.hid (by rw [hCa]; exact fun W hW => awA_v HL.out W (hE4.trans hW))
  have HN1 := Lib.hid (ndV_one (HVa.out w4 (Ext.refl _))).2
  have HE4 := Lib.hid (HE3.out.trans hE4)
  clear hCa hE1 hE2 hE3 hE4 hb3 hz3 HL HE3
  go_upto_region 2 with (refine wpList_storeBox rfl _ _ _ rfl _ _ _ _ rfl rfl rfl (by exact HAG.out) sizenode_F rfl HLa.out HN1.out ?_)
  have hE5 := (Ext.refl w4).alloc (.cells Ca.toArray 46)
  have hR5 := rangeAt_new w4 Ca 46
  have hz5 : w4.heap.size < (w4.alloc (.cells Ca.toArray 46)).heap.size := by simp
  generalize w4.alloc (.cells Ca.toArray 46) = W5 at *
  generalize hB1 : w4.heap.size = B1 at *
  have hb6 := heap_alloc_new W5 (.cells #[.int .i64 0] 3)
  have hE6 := (Ext.refl W5).alloc (.cells #[.int .i64 0] 3)
  have ho6 := World.ownsRow_lit W5 #[.int .i64 0] 1 (base := 0) (e := 3) (size := 1) (Nat.zero_le _) (by unfold maxLen; omega) rfl
  have hz6 : (W5.alloc (.cells #[.int .i64 0] 3)).heap.size = W5.heap.size + 1 := by simp
  obtain ⟨AB, hAB⟩ : ∃ AB, AB = W5.heap.size := ⟨_, rfl⟩
  rw [← hAB] at ho6 hb6 hz6
  obtain ⟨Cm, hCm⟩ : ∃ Cm, Cm = ([.string { data := #[48, 47, 109] }, .string { data := #[] }, .int .u8 1, .int .i64 0, .int .i64 (-1), .int .i64 0, .slice (some ⟨AB, 0, none⟩) 1 1, .int .i64 2, .int .i64 0, .int .u8 0, .int .i64 0, .int .i64 0, .int .u8 0, .int .i64 0, .string { data := #[] }, .slice none 0 0] : List Value) := ⟨_, rfl⟩
  have HMG : Hid ((Value.agg #[.string { data := #[48, 47, 109] }, .string { data := #[] }, .int .u8 1, .int .i64 0, .int .i64 (-1), .int .i64 0, .slice (some ⟨AB, 0, none⟩) 1 1, .int .i64 2, .int .i64 0, .int .u8 0, .int .i64 0, .int .i64 0, .int .u8 0, .int .i64 0, .string { data := #[] }, .slice none 0 0]) = .agg Cm.toArray) := Lib.hid (by rw [hCm])
  have HLm : Hid (Cm.length = 16) := Lib.hid (by rw [hCm]; rfl)
  have HLnm : Hid ((Tryz.prog.info? 46).map (·.size) = some Cm.length) := Lib.hid (by rw [hCm]; exact sizenode_F)
  have HVm : Hid (∀ W, Ext (W5.alloc (.cells #[.int .i64 0] 3)) W → NdV W (awM 2) (.agg Cm.toArray)) := Lib.hid (by
    rw [hCm]
    exact fun W hW => awM_v (by unfold isI64; omega) (OwnN.row (e := 3) (base := 0) (hW.own ho6) (fun i hi => by rw [List.mem_singleton] at hi; subst hi; unfold isI64; omega)))
  have HM1 := Lib.hid (ndV_one (HVm.out _ (Ext.refl _))).2
  have HE6 := Lib.hid (HE4.out.trans (hE5.trans hE6))
  have HE46 := Lib.hid (hE5.trans hE6)
  have HR6 := Lib.hid (rangeAt_ext hR5 hE6 hz5)
  subst hAB
  have HZ6 := Lib.hid hz6
  clear hCm ho6 hb6 hE5 hE6 hR5 HAG
  go_upto_region 3 with (refine wpList_storeBox rfl _ _ _ rfl _ _ _ _ rfl (by exact HZ6.out.symm) rfl (by exact HMG.out) sizenode_F rfl HLm.out HM1.out ?_)
  have HZ1 := Lib.hid (show B1 < (W5.alloc (.cells #[.int .i64 0] 3)).heap.size by omega)
  generalize W5.alloc (.cells #[.int .i64 0] 3) = W6 at *
  have hE7 := (Ext.refl W6).alloc (.cells Cm.toArray 46)
  have hR7 := rangeAt_new W6 Cm 46
  have HZ2 := Lib.hid (show W6.heap.size < (W6.alloc (.cells Cm.toArray 46)).heap.size by simp)
  rw [← hz6]
  generalize W6.alloc (.cells Cm.toArray 46) = W at *
  generalize hB2 : W6.heap.size = B2 at *
  have HSZ := Lib.hid (Nat.le_refl W.heap.size)
  have HSS : Hid (∀ wx, Ext W wx → wx.rangeAt B1 0 Ca ∧ wx.rangeAt B2 0 Cm) := Lib.hid (fun wx hx => ⟨rangeAt_ext HR6.out (hE7.trans hx) (by rw [hB2]; exact HZ1.out), rangeAt_ext hR7 hx HZ2.out⟩)
  have HE7 := Lib.hid (HE6.out.trans hE7)
  have ED := Lib.hid (Ext.refl W).drew
  have HEC : Hid (∀ wx, Ext W wx → Calls Tryz.prog 30 #[.agg Cm.toArray, .int .i64 1, .int .i64 2] wx (EachPost wx (awM 2) 1 2)) := Lib.hid (fun wx hx => feach_any (awM 2) 1 2 (by unfold isI64; omega) (by simp [awM]) (by simp [awM]) wx (HKW.out.ext (HE7.out.trans hx)) _ (HVm.out wx (hE7.trans hx)))
  have HLam : Hid ((Ca ++ Cm).toArray.size = 2 * 16) := Lib.hid (by rw [List.size_toArray, List.length_append, HLa.out, HLm.out])
  have HFam : Hid (∀ wx, Ext W wx → ∀ row : Option Nat, (∀ b, row = some b → W.heap.size ≤ b) → ∀ (i : Nat) (hi : i < [awA, awM 2].length) (hc : i < [Ca, Cm].length), FarNd wx row [awA, awM 2][i] [Ca, Cm][i]) := Lib.hid (fun wx hx row hrow i hi hc => by
    refine farNd_of (fun w' hw' => ?_)
    have hX : Ext W w' := hx.grown hw' hrow
    have hi : i < 2 := hi
    rcases (by omega : i = 0 ∨ i = 1) with rfl | rfl
    · exact HVa.out w' (HE46.out.trans (hE7.trans hX))
    · exact HVm.out w' (hE7.trans hX))
  have HEF := Lib.hid aw_eachF
  clear hE7 hR7 hz6 HR6 HM1 HN1 HMG
  simp only [Act.put]
  go_cut [3] from 23 to 28 (fun l w' => ∃ A C, l = .slice A 4 C ∧ Hid (HeldN 46 w.heap.size w' (.slice A 4 C) aw0) ∧ Hid (Ext w w'))
  case first =>
   refine wp_region_held_drew (S := (fun w' => w'.rangeAt B1 0 Ca ∧ w'.rangeAt B2 0 Cm)) (by kernel_rfl) ?_ (fun hHeld => ?_)
   · (try dsimp only)
     (first | exact HSS.out _ ED.out | exact HSS.out _ E1.out | exact HSS.out _ E2.out | exact HSS.out _ E3.out)
   refine take_mid 0 (some 23) (cs := Ca) (by kernel_rfl) (by kernel_rfl) (by kernel_rfl) (by kernel_rfl) (by kernel_rfl) (fun _ _ _ h => h) (by rfl) 46 (.tmp 1) (by kernel_rfl) B1 0 (by rfl) _ (fun _ h => h.1) Tryz.underlying46 rfl HLna.out (by assumption) ?_
   try simp only [Act.put, List.setIfInBounds_toArray, List.set_cons_zero, List.set_cons_succ]
   refine take_mid 1 (some 24) (cs := Cm) (by kernel_rfl) (by kernel_rfl) (by kernel_rfl) (by kernel_rfl) (by kernel_rfl) (fun _ _ _ h => h) (by rfl) 46 (.tmp 2) (by kernel_rfl) B2 0 (by rfl) _ (fun _ h => h.2) Tryz.underlying46 rfl HLnm.out (by assumption) ?_
   try simp only [Act.put, List.setIfInBounds_toArray, List.set_cons_zero, List.set_cons_succ]
   refine take_mid 3 (some 26) (cs := Cm) (by kernel_rfl) (by kernel_rfl) (by kernel_rfl) (by kernel_rfl) (by kernel_rfl) (fun _ _ _ h => h) (by rfl) 46 (.tmp 2) (by kernel_rfl) B2 0 (by rfl) _ (fun _ h => h.2) Tryz.underlying46 rfl HLnm.out (by assumption) ?_
   try simp only [Act.put, List.setIfInBounds_toArray, List.set_cons_zero, List.set_cons_succ]
   refine ready_two 2 4 (by kernel_rfl) (by kernel_rfl) (by kernel_rfl) (by rfl) (by rfl) (fun Kc hKc => ?_) (fun Kc hKc => ?_)
   · refine wp_nodes2 (.tmp 23) (.tmp 24) (by rfl) (by kernel_rfl) (by kernel_rfl) HLa.out HLm.out ?_
     change Kc (Act.put _ (some 25) _) _
     have E1 := Lib.hid (ED.out.alloc (.cells (Ca ++ Cm).toArray 46))
     have HO1 : Hid ((W.drew.alloc (.cells (Ca ++ Cm).toArray 46)).ownsRow W.heap.size 46 16 (.slice (some ⟨W.heap.size, 0, none⟩) 2 2) 2 (Ca ++ Cm)) := Lib.hid (World.ownsRow_lit W.drew (Ca ++ Cm).toArray 2 (Nat.le_refl _) (by unfold maxLen; omega) HLam.out)
     refine hKc.out _ _ ?_ (fun hHeld => ?_)
     · (try dsimp only)
       (first | exact HSS.out _ ED.out | exact HSS.out _ E1.out | exact HSS.out _ E2.out | exact HSS.out _ E3.out)
     clear hKc Kc
     try simp only [Act.put, List.setIfInBounds_toArray, List.set_cons_zero, List.set_cons_succ]
     refine ready_one 4 (by kernel_rfl) (by kernel_rfl) (by rfl) (fun Kc hKc => ?_)
     go_simp
     refine (HEC.out _ E1.out).mono ?_
     rintro e w4 ⟨d, rfl, hE4, hC4⟩
     obtain ⟨a4, c4, rfl⟩ := hC4.slice
     have E2 := Lib.hid (E1.out.trans hE4)
     have HC4 := Lib.hid hC4
     have HO2 := Lib.hid (hE4.own HO1.out)
     clear hE4 hC4
     try go_wp2_with fail
     refine hKc.out _ _ ?_ (fun hHeld => ?_)
     · (try dsimp only)
       (first | exact HSS.out _ ED.out | exact HSS.out _ E1.out | exact HSS.out _ E2.out | exact HSS.out _ E3.out)
     clear hKc Kc
     try simp only [Act.put, List.setIfInBounds_toArray, List.set_cons_zero, List.set_cons_succ]
     refine ready_one 5 (by kernel_rfl) (by kernel_rfl) (by rfl) (fun Kc hKc => ?_)
     have hc4 := HC4.out
     have hz4 : W.heap.size ≤ (W.drew.alloc (.cells (Ca ++ Cm).toArray 46)).heap.size := by simp
     obtain ⟨ds, hds, hdrow, hdf⟩ := hc4.far (row := (Value.slice (some ⟨W.heap.size, 0, none⟩) 2 2).ownBlock) (fun b hb => by simp [Value.ownBlock] at hb; rw [← hb]; simp)
     have HSrc := Lib.hid (Src.nodes Tryz.underlying40 hdrow (fun D hD u hu => by
       obtain ⟨k, hk, rfl⟩ := List.getElem_of_mem hD
       exact (hdf k (by rw [← hds]; exact hk) hk).2.1 u hu))
     rw [HEF.out] at HSrc hdf hds
     refine wp_appendS (.tmp 25) (.tmp 27) 40 (by rfl) elemnode_F W.heap.size (.slice (some ⟨W.heap.size, 0, none⟩) 2 2) 2 (Ca ++ Cm) (by rfl) HO2.out _ 2 ds.flatten (by rw [HEF.out]; rfl) HSrc.out (by unfold maxLen; omega) (by omega) E2.out.size ?_
     intro A C w6 hown6 hgr6 hat6
     change Kc (Act.put _ (some 28) _) _
     have E3 := Lib.hid (E2.out.grown hgr6 (fun k hk => (World.ownsRow.lt HO2.out k hk).1))
     have hH6 : HeldN 46 W.heap.size w6 (.slice A (2 + 2) C) aw0 := HeldN.app (v := .slice (some ⟨W.heap.size, 0, none⟩) 2 2) (l := [awA, awM 2]) (m := [awE 0, awE 1]) (cs := [Ca, Cm]) rfl (HFam.out _ E2.out _ (fun b hb => by simp [Value.ownBlock] at hb; have := HSZ.out; omega)) hds hdf (by simpa using hown6) hgr6 hat6
     have HH6 := Lib.hid hH6
     clear hH6 hown6 hgr6 hat6 hds hdrow hdf
     refine hKc.out _ _ ?_ (fun hHeld => ?_)
     · (try dsimp only)
       (first | exact HSS.out _ ED.out | exact HSS.out _ E1.out | exact HSS.out _ E2.out | exact HSS.out _ E3.out)
     clear hKc Kc
     try simp only [Act.put, List.setIfInBounds_toArray, List.set_cons_zero, List.set_cons_succ]
     refine take_w 6 (some 3) (v := ?_) (by kernel_rfl) (by kernel_rfl) (by kernel_rfl) (by kernel_rfl) (by kernel_rfl) (fun _ _ _ h => h) (by rfl) ?_ (by assumption) ?_
     rotate_left
     · (intro w hSw; (try dsimp only at hSw); go_simp; try with_reducible rfl)
     try simp only [Act.put, List.setIfInBounds_toArray, List.set_cons_zero, List.set_cons_succ]
     refine wpAnyH_done (by kernel_rfl) ?_ _
     have HE6 := Lib.hid (HE7.out.trans E3.out)
     go_wp2_with fail
     go_meet
     case rel => exact ⟨_, _, rfl, Lib.hid (HH6.out.mono HE7.out.size), HE6⟩
   · go_simp
     refine (HEC.out _ ED.out).mono ?_
     rintro e w4 ⟨d, rfl, hE4, hC4⟩
     obtain ⟨a4, c4, rfl⟩ := hC4.slice
     have E1 := Lib.hid (ED.out.trans hE4)
     have HC4 := Lib.hid hC4
     have HZ4 := Lib.hid (Nat.le_refl w4.heap.size)
     clear hE4 hC4
     try go_wp2_with fail
     refine hKc.out _ _ ?_ (fun hHeld => ?_)
     · (try dsimp only)
       (first | exact HSS.out _ ED.out | exact HSS.out _ E1.out | exact HSS.out _ E2.out | exact HSS.out _ E3.out)
     clear hKc Kc
     try simp only [Act.put, List.setIfInBounds_toArray, List.set_cons_zero, List.set_cons_succ]
     refine ready_one 2 (by kernel_rfl) (by kernel_rfl) (by rfl) (fun Kc hKc => ?_)
     refine wp_nodes2 (.tmp 23) (.tmp 24) (by rfl) (by kernel_rfl) (by kernel_rfl) HLa.out HLm.out ?_
     change Kc (Act.put _ (some 25) _) _
     have E2 := Lib.hid (E1.out.alloc (.cells (Ca ++ Cm).toArray 46))
     have HO2 : Hid ((w4.alloc (.cells (Ca ++ Cm).toArray 46)).ownsRow W.heap.size 46 16 (.slice (some ⟨w4.heap.size, 0, none⟩) 2 2) 2 (Ca ++ Cm)) := Lib.hid (World.ownsRow_lit w4 (Ca ++ Cm).toArray 2 E1.out.size (by unfold maxLen; omega) HLam.out)
     have HE0 := Lib.hid ((Ext.refl w4).alloc (.cells (Ca ++ Cm).toArray 46))
     refine hKc.out _ _ ?_ (fun hHeld => ?_)
     · (try dsimp only)
       (first | exact HSS.out _ ED.out | exact HSS.out _ E1.out | exact HSS.out _ E2.out | exact HSS.out _ E3.out)
     clear hKc Kc
     try simp only [Act.put, List.setIfInBounds_toArray, List.set_cons_zero, List.set_cons_succ]
     refine ready_one 5 (by kernel_rfl) (by kernel_rfl) (by rfl) (fun Kc hKc => ?_)
     have hc4 := (CopyN.kept (HC4.out) HE0.out.grownBy (fun b hb => by cases hb))
     obtain ⟨ds, hds, hdrow, hdf⟩ := HC4.out.farN HE0.out (b := w4.heap.size) (Nat.le_refl _)
     have HSrc := Lib.hid (Src.nodes Tryz.underlying40 hdrow (fun D hD u hu => by
       obtain ⟨k, hk, rfl⟩ := List.getElem_of_mem hD
       exact (hdf k (by rw [← hds]; exact hk) hk).2.1 u hu))
     rw [HEF.out] at HSrc hdf hds
     refine wp_appendS (.tmp 25) (.tmp 27) 40 (by rfl) elemnode_F W.heap.size (.slice (some ⟨w4.heap.size, 0, none⟩) 2 2) 2 (Ca ++ Cm) (by rfl) HO2.out _ 2 ds.flatten (by rw [HEF.out]; rfl) HSrc.out (by unfold maxLen; omega) (by omega) E2.out.size ?_
     intro A C w6 hown6 hgr6 hat6
     change Kc (Act.put _ (some 28) _) _
     have E3 := Lib.hid (E2.out.grown hgr6 (fun k hk => (World.ownsRow.lt HO2.out k hk).1))
     have hH6 : HeldN 46 W.heap.size w6 (.slice A (2 + 2) C) aw0 := HeldN.app (v := .slice (some ⟨w4.heap.size, 0, none⟩) 2 2) (l := [awA, awM 2]) (m := [awE 0, awE 1]) (cs := [Ca, Cm]) rfl (HFam.out _ E2.out _ (fun b hb => by simp [Value.ownBlock] at hb; have := E1.out.size; omega)) hds hdf (by simpa using hown6) hgr6 hat6
     have HH6 := Lib.hid hH6
     clear hH6 hown6 hgr6 hat6 hds hdrow hdf
     refine hKc.out _ _ ?_ (fun hHeld => ?_)
     · (try dsimp only)
       (first | exact HSS.out _ ED.out | exact HSS.out _ E1.out | exact HSS.out _ E2.out | exact HSS.out _ E3.out)
     clear hKc Kc
     try simp only [Act.put, List.setIfInBounds_toArray, List.set_cons_zero, List.set_cons_succ]
     refine take_w 6 (some 3) (v := ?_) (by kernel_rfl) (by kernel_rfl) (by kernel_rfl) (by kernel_rfl) (by kernel_rfl) (fun _ _ _ h => h) (by rfl) ?_ (by assumption) ?_
     rotate_left
     · (intro w hSw; (try dsimp only at hSw); go_simp; try with_reducible rfl)
     try simp only [Act.put, List.setIfInBounds_toArray, List.set_cons_zero, List.set_cons_succ]
     refine wpAnyH_done (by kernel_rfl) ?_ _
     have HE6 := Lib.hid (HE7.out.trans E3.out)
     go_wp2_with fail
     go_meet
     case rel => exact ⟨_, _, rfl, Lib.hid (HH6.out.mono HE7.out.size), HE6⟩
  case rest =>
  obtain ⟨A, C, rfl, HH, HE⟩ := hcut
  rename World => WA
  obtain ⟨g, c, hA, hg1, hg2⟩ := HH.out.form (by decide)
  injection hA with hA1 hA2 hA3
  subst hA1 hA3
  clear hA2 HSS ED HEC HLam HFam HEF HSZ HZ2 HZ1 hB2 HLa HLm HLna HLnm HVa HVm HE4 HE6 HE46 HE7 HZ6
  have e2 : WA.cell? ⟨g, 32, none⟩ = some (.string { data := #[48, 47, 109, 91, 48, 93] }) := by
    have h := HH.out.idAt (i := 2) (by decide)
    rw [show aw0[2].id = [48, 47, 109, 91, 48, 93] from awE0_id] at h
    exact h
  have e3 : WA.cell? ⟨g, 48, none⟩ = some (.string { data := #[48, 47, 109, 91, 49, 93] }) := by
    have h := HH.out.idAt (i := 3) (by decide)
    rw [show aw0[3].id = [48, 47, 109, 91, 49, 93] from awE1_id] at h
    exact h
  go_wp2_with fail
  clear e2 e3
  refine (finput_any aw0 2 (aw_light (.inl rfl)) WA _ HH.out.row).mono ?_
  rintro e w5 ⟨A1, m1, c1, b1, rfl, hE5, hyes, -⟩
  obtain ⟨rfl, ho1⟩ := hyes _ aw_in2
  have HH5 := Lib.hid (HH.out.ext hE5)
  have HE5 := Lib.hid (HE.out.trans hE5)
  have HO1 := Lib.hid ho1.lies
  clear hyes ho1 hE5 HH HE
  go_wp2_with fail
  refine (finput_any aw0 3 (aw_light (.inl rfl)) w5 _ HH5.out.row).mono ?_
  rintro e w6 ⟨A2, m2, c2, b2, rfl, hE6, hyes, -⟩
  obtain ⟨rfl, ho2⟩ := hyes _ aw_in3
  have HH6 := Lib.hid (HH5.out.ext hE6)
  have HE6 := Lib.hid (HE5.out.trans hE6)
  have HO1 := Lib.hid (HO1.out.ext hE6)
  have HO2 := Lib.hid ho2.lies
  clear hyes ho2 hE6 HH5 HE5
  go_wp2_with fail
  refine (num18_any 5 w6).mono ?_
  rintro e w7 ⟨rfl, hE7⟩
  have hb8 := heap_alloc_new w7 (.cells #[.int .u8 0, .int .i64 5, .string { data := #[] }, .slice none 0 0] 44)
  have hE8 := (Ext.refl w7).alloc (.cells #[.int .u8 0, .int .i64 5, .string { data := #[] }, .slice none 0 0] 44)
  have HV8 := Lib.hid (values18_any [numT 5] [numT 5] _ _ _ _ _ _ _ (HO1.out.ext (hE7.trans hE8)) (liesS_one (by unfold isI64; omega) hb8))
  have HH8 := Lib.hid (HH6.out.ext (hE7.trans hE8))
  have HE8 := Lib.hid (HE6.out.trans (hE7.trans hE8))
  have HO2 := Lib.hid (HO2.out.ext (hE7.trans hE8))
  clear hb8 hE8 hE7 HH6 HE6 HO1
  go_wp2_with fail
  refine HV8.out.mono ?_
  rintro e w9 ⟨rfl, hE9⟩
  rw [eqT_self]
  have HH9 := Lib.hid (HH8.out.ext hE9)
  have HE9 := Lib.hid (HE8.out.trans hE9)
  have HO2 := Lib.hid (HO2.out.ext hE9)
  clear HV8 hE9 HH8 HE8
  go_wp2_with fail
  refine (num18_any 7 w9).mono ?_
  rintro e w10 ⟨rfl, hE7⟩
  have hb8 := heap_alloc_new w10 (.cells #[.int .u8 0, .int .i64 7, .string { data := #[] }, .slice none 0 0] 44)
  have hE8 := (Ext.refl w10).alloc (.cells #[.int .u8 0, .int .i64 7, .string { data := #[] }, .slice none 0 0] 44)
  have HV8 := Lib.hid (values18_any [numT 7] [numT 7] _ _ _ _ _ _ _ (HO2.out.ext (hE7.trans hE8)) (liesS_one (by unfold isI64; omega) hb8))
  have HH10 := Lib.hid (HH9.out.ext (hE7.trans hE8))
  have HE10 := Lib.hid (HE9.out.trans (hE7.trans hE8))
  clear hb8 hE8 hE7 HH9 HE9 HO2
  go_wp2_with fail
  refine HV8.out.mono ?_
  rintro e w11 ⟨rfl, hE9⟩
  rw [eqT_self]
  have HH11 := Lib.hid (HH10.out.ext hE9)
  have HE11 := Lib.hid (HE10.out.trans hE9)
  clear HV8 hE9 HH10 HE10
  go_wp2_with fail
  refine (num18_any 70 w11).mono ?_
  rintro e w12 ⟨rfl, hE7⟩
  have HE12 := Lib.hid (HE11.out.trans hE7)
  have hH := HH11.out.ext hE7
  have ⟨⟨u9, c9⟩, f9⟩ := hH.spot (i := 3) (by decide) 9 (by omega)
  have ⟨⟨u12, c12⟩, f12⟩ := hH.spot (i := 3) (by decide) 12 (by omega)
  have ⟨⟨u13, c13⟩, f13⟩ := hH.spot (i := 3) (by decide) 13 (by omega)
  have ⟨⟨u14, c14⟩, f14⟩ := hH.spot (i := 3) (by decide) 14 (by omega)
  have ⟨⟨u15, c15⟩, f15⟩ := hH.spot (i := 3) (by decide) 15 (by omega)
  simp only [Nat.reduceMul, Nat.reduceAdd] at c9 f9 c12 f12 c13 f13 c14 f14 c15 f15
  obtain ⟨HH13, hgr⟩ : Hid (HeldN 46 w.heap.size (((((w12.setCell ⟨g, 57, none⟩ (.int .u8 4)).setCell ⟨g, 60, none⟩ (.int .u8 0)).setCell ⟨g, 61, none⟩ (.int .i64 70)).setCell ⟨g, 62, none⟩ (.string { data := #[] })).setCell ⟨g, 63, none⟩ (.slice none 0 0)) (.slice (some ⟨g, 0, none⟩) aw0.length C) aw1) ∧ w12.grownBy (((((w12.setCell ⟨g, 57, none⟩ (.int .u8 4)).setCell ⟨g, 60, none⟩ (.int .u8 0)).setCell ⟨g, 61, none⟩ (.int .i64 70)).setCell ⟨g, 62, none⟩ (.string { data := #[] })).setCell ⟨g, 63, none⟩ (.slice none 0 0)) (some g) := by
    obtain ⟨q1, q2⟩ := hH.put (i := 3) (by decide) 9 (by omega) (.int .u8 4) { awE 1 with stand := 4 } (fun w' C h => ndV_stand h 4)
    obtain ⟨q3, q4⟩ := q1.putV (i := 3) (by decide) (numT 70) (.int .u8 0) (.int .i64 70) (.string { data := #[] }) (.slice none 0 0) (fun w' _ => (num18_own (by unfold isI64; omega) w' 0).lies)
    exact ⟨Lib.hid q3, grown_trans q2 q4⟩
  have HE13 := Lib.hid (HE12.out.grown hgr (fun k hk => by injection hk with hk; omega))
  clear hgr hH hE7 HH11 HE11 HE12
  go_upto_region 11 with (fail)
  generalize ((((w12.setCell ⟨g, 57, none⟩ (.int .u8 4)).setCell ⟨g, 60, none⟩ (.int .u8 0)).setCell ⟨g, 61, none⟩ (.int .i64 70)).setCell ⟨g, 62, none⟩ (.string { data := #[] })).setCell ⟨g, 63, none⟩ (.slice none 0 0) = w13 at *
  clear c9 f9 c12 f12 c13 f13 c14 f14 c15 f15
  go_wp2_with fail
  refine (fvalues_any aw1 1 (by decide) (fun x hx => (aw_light (.inr (.inl rfl)) x hx).1) w13 _ HH13.out.row).mono ?_
  rintro e w14 ⟨v14, b14, rfl, hE14, -, hno⟩
  obtain ⟨rfl, rfl⟩ := hno aw_v1
  have hEa := (Ext.refl w14).alloc (.cells #[.int .u8 0, .int .i64 0, .string { data := #[] }, .slice none 0 0] 44)
  have HH14 := Lib.hid (HH13.out.ext (hE14.trans hEa))
  have HE14 := Lib.hid (HE13.out.trans (hE14.trans hEa))
  clear hno hE14 hEa HH13 HE13
  go_upto_region 12 with (fail)
  generalize w14.alloc (.cells #[.int .u8 0, .int .i64 0, .string { data := #[] }, .slice none 0 0] 44) = w15 at *
  go_wp2_with fail
  refine (num18_any 50 w15).mono ?_
  rintro e w16 ⟨rfl, hE7⟩
  have HE16 := Lib.hid (HE14.out.trans hE7)
  have hH := HH14.out.ext hE7
  have ⟨⟨u9, c9⟩, f9⟩ := hH.spot (i := 2) (by decide) 9 (by omega)
  have ⟨⟨u12, c12⟩, f12⟩ := hH.spot (i := 2) (by decide) 12 (by omega)
  have ⟨⟨u13, c13⟩, f13⟩ := hH.spot (i := 2) (by decide) 13 (by omega)
  have ⟨⟨u14, c14⟩, f14⟩ := hH.spot (i := 2) (by decide) 14 (by omega)
  have ⟨⟨u15, c15⟩, f15⟩ := hH.spot (i := 2) (by decide) 15 (by omega)
  simp only [Nat.reduceMul, Nat.reduceAdd] at c9 f9 c12 f12 c13 f13 c14 f14 c15 f15
  obtain ⟨HH17, hgr⟩ : Hid (HeldN 46 w.heap.size (((((w16.setCell ⟨g, 41, none⟩ (.int .u8 4)).setCell ⟨g, 44, none⟩ (.int .u8 0)).setCell ⟨g, 45, none⟩ (.int .i64 50)).setCell ⟨g, 46, none⟩ (.string { data := #[] })).setCell ⟨g, 47, none⟩ (.slice none 0 0)) (.slice (some ⟨g, 0, none⟩) aw1.length C) aw2) ∧ w16.grownBy (((((w16.setCell ⟨g, 41, none⟩ (.int .u8 4)).setCell ⟨g, 44, none⟩ (.int .u8 0)).setCell ⟨g, 45, none⟩ (.int .i64 50)).setCell ⟨g, 46, none⟩ (.string { data := #[] })).setCell ⟨g, 47, none⟩ (.slice none 0 0)) (some g) := by
    obtain ⟨q1, q2⟩ := hH.put (i := 2) (by decide) 9 (by omega) (.int .u8 4) { awE 0 with stand := 4 } (fun w' C h => ndV_stand h 4)
    obtain ⟨q3, q4⟩ := q1.putV (i := 2) (by decide) (numT 50) (.int .u8 0) (.int .i64 50) (.string { data := #[] }) (.slice none 0 0) (fun w' _ => (num18_own (by unfold isI64; omega) w' 0).lies)
    exact ⟨Lib.hid q3, grown_trans q2 q4⟩
  have HE17 := Lib.hid (HE16.out.grown hgr (fun k hk => by injection hk with hk; omega))
  clear hgr hH hE7 HH14 HE14 HE16
  go_upto_region 13 with (fail)
  generalize ((((w16.setCell ⟨g, 41, none⟩ (.int .u8 4)).setCell ⟨g, 44, none⟩ (.int .u8 0)).setCell ⟨g, 45, none⟩ (.int .i64 50)).setCell ⟨g, 46, none⟩ (.string { data := #[] })).setCell ⟨g, 47, none⟩ (.slice none 0 0) = w17 at *
  clear c9 f9 c12 f12 c13 f13 c14 f14 c15 f15
  go_wp2_with fail
  refine (fvalues_any aw2 1 (by decide) (fun x hx => (aw_light (.inr (.inr (.inl rfl))) x hx).1) w17 _ HH17.out.row).mono ?_
  rintro e w18 ⟨v18, b18, rfl, hE18, hyes, -⟩
  obtain ⟨rfl, ho18⟩ := hyes _ aw_v2
  obtain ⟨d18, rfl, -, -, hl18⟩ := ho18.lies.parts
  obtain ⟨a18, cap18, rfl, -⟩ := id hl18
  have hEa := (Ext.refl w18).alloc (.cells #[.int .u8 ((2 : UInt8).toNat : Int), .int .i64 0, .string (str []), .slice a18 [numT 50, numT 70].length cap18] 44)
  have HB18 := Lib.hid (Box4.new w18 (.int .u8 ((2 : UInt8).toNat : Int)) (.int .i64 0) (.string (str [])) (.slice a18 [numT 50, numT 70].length cap18))
  have HV18 := Lib.hid (ho18.ext hEa)
  have hgB : g < w17.heap.size := (HH17.out.lt g rfl).2
  have hgB' : w17.heap.size ≤ w18.heap.size := hE18.size
  have HH18 := Lib.hid (HH17.out.ext (hE18.trans hEa))
  have HE18 := Lib.hid (HE17.out.trans (hE18.trans hEa))
  generalize hx18 : ((2 : UInt8).toNat : Int) = X18 at *
  generalize hy18 : str [] = Y18 at *
  generalize hz18 : [numT 50, numT 70].length = Z18 at *
  clear hE18 hEa HH17 HE17 hyes ho18 hl18
  go_upto_region 14 with (fail)
  generalize hBV : w18.heap.size = BV at *
  generalize w18.alloc (.cells #[.int .u8 X18, .int .i64 0, .string Y18, .slice a18 Z18 cap18] 44) = w19 at *
  have ⟨⟨u7, c7⟩, f7⟩ := HH18.out.spot (i := 1) (by decide) 7 (by omega)
  simp only [Nat.reduceMul, Nat.reduceAdd] at c7 f7
  obtain ⟨HH20, hgr⟩ : Hid (HeldN 46 w.heap.size (w19.setCell ⟨g, 23, none⟩ (.int .i64 1)) (.slice (some ⟨g, 0, none⟩) aw2.length C) aw3) ∧ w19.grownBy (w19.setCell ⟨g, 23, none⟩ (.int .i64 1)) (some g) := by
    obtain ⟨q1, q2⟩ := HH18.out.put (i := 1) (by decide) 7 (by omega) (.int .i64 1) (awM 1) (fun w' C h => ndV_width h (by unfold isI64; omega))
    exact ⟨Lib.hid q1, q2⟩
  have HE20 := Lib.hid (HE18.out.grown hgr (fun k hk => by injection hk with hk; omega))
  have HB20 := Lib.hid (HB18.out.kept hgr (fun e => by injection e with e; omega))
  have HV20 := Lib.hid (HV18.out.grown hgr (fun b hb => by injection hb with hb; omega))
  clear hgr HH18 HE18 HB18 HV18
  go_upto_region 15 with (fail)
  generalize w19.setCell ⟨g, 23, none⟩ (.int .i64 1) = w20 at *
  clear c7 f7
  go_wp2_with fail
  refine (flist_any aw3 1 (fun x hx => (aw_light (.inr (.inr (.inr (.inl rfl)))) x hx).1) w20 _ HH20.out.row).mono ?_
  rintro e w21 ⟨d21, rfl, hE21, ho21⟩
  rw [aw_l3] at ho21 ⊢
  dsimp only at ho21 ⊢
  obtain ⟨a21, m21, c21, rfl⟩ : ∃ a m c, d21 = .slice a m c := by
    obtain ⟨F, h⟩ := ho21
    obtain ⟨a, c, h⟩ := h.slice
    exact ⟨_, _, _, h⟩
  have HH21 := Lib.hid (HH20.out.ext hE21)
  have HE21 := Lib.hid (HE20.out.trans hE21)
  have HB21 := Lib.hid (HB20.out.ext hE21)
  have HV21 := Lib.hid (HV20.out.ext hE21)
  clear ho21 hE21 HH20 HE20 HB20 HV20
  go_wp2_with fail
  refine (num18_any 3 w21).mono ?_
  rintro e w22 ⟨rfl, hE7⟩
  have HE22 := Lib.hid (HE21.out.trans hE7)
  have HB22 := Lib.hid (HB21.out.ext hE7)
  have HV22 := Lib.hid (HV21.out.ext hE7)
  have hH := HH21.out.ext hE7
  have ⟨⟨u12, c12⟩, f12⟩ := hH.spot (i := 0) (by decide) 12 (by omega)
  have ⟨⟨u13, c13⟩, f13⟩ := hH.spot (i := 0) (by decide) 13 (by omega)
  have ⟨⟨u14, c14⟩, f14⟩ := hH.spot (i := 0) (by decide) 14 (by omega)
  have ⟨⟨u15, c15⟩, f15⟩ := hH.spot (i := 0) (by decide) 15 (by omega)
  simp only [Nat.reduceMul, Nat.reduceAdd, Nat.zero_mul, Nat.zero_add] at c12 f12 c13 f13 c14 f14 c15 f15
  obtain ⟨HH23, hgr⟩ : Hid (HeldN 46 w.heap.size (((((w22).setCell ⟨g, 12, none⟩ (.int .u8 0)).setCell ⟨g, 13, none⟩ (.int .i64 3)).setCell ⟨g, 14, none⟩ (.string { data := #[] })).setCell ⟨g, 15, none⟩ (.slice none 0 0)) (.slice (some ⟨g, 0, none⟩) aw3.length C) aw4) ∧ w22.grownBy (((((w22).setCell ⟨g, 12, none⟩ (.int .u8 0)).setCell ⟨g, 13, none⟩ (.int .i64 3)).setCell ⟨g, 14, none⟩ (.string { data := #[] })).setCell ⟨g, 15, none⟩ (.slice none 0 0)) (some g) := by
    obtain ⟨q3, q4⟩ := hH.putV (i := 0) (by decide) (numT 3) (.int .u8 0) (.int .i64 3) (.string { data := #[] }) (.slice none 0 0) (fun w' _ => (num18_own (by unfold isI64; omega) w' 0).lies)
    exact ⟨Lib.hid q3, q4⟩
  have HE23 := Lib.hid (HE22.out.grown hgr (fun k hk => by injection hk with hk; omega))
  have HB23 := Lib.hid (HB22.out.kept hgr (fun e => by injection e with e; omega))
  have HV23 := Lib.hid (HV22.out.grown hgr (fun b hb => by injection hb with hb; omega))
  clear hgr hH hE7 HH21 HE21 HE22 HB21 HB22 HV21 HV22
  go_upto_region 17 with (fail)
  generalize ((((w22).setCell ⟨g, 12, none⟩ (.int .u8 0)).setCell ⟨g, 13, none⟩ (.int .i64 3)).setCell ⟨g, 14, none⟩ (.string { data := #[] })).setCell ⟨g, 15, none⟩ (.slice none 0 0) = w23 at *
  clear c12 f12 c13 f13 c14 f14 c15 f15
  go_wp2_with fail
  refine (flist_any aw4 1 (fun x hx => (aw_light (.inr (.inr (.inr (.inr rfl)))) x hx).1) w23 _ HH23.out.row).mono ?_
  rintro e w24 ⟨d24, rfl, hE24, ho24⟩
  rw [aw_l4] at ho24 ⊢
  dsimp only at ho24 ⊢
  obtain ⟨a24, m24, c24, rfl⟩ : ∃ a m c, d24 = .slice a m c := by
    obtain ⟨F, h⟩ := ho24
    obtain ⟨a, c, h⟩ := h.slice
    exact ⟨_, _, _, h⟩
  have HE24 := Lib.hid (HE23.out.trans hE24)
  have HB24 := Lib.hid (HB23.out.ext hE24)
  have HV24 := Lib.hid (HV23.out.ext hE24)
  clear ho24 hE24 HH23 HE23 HB23 HV23
  go_wp2_with fail
  have HS : Hid (∀ wx, Ext w24 wx → wx.cell? ⟨BV, 0, none⟩ = some (.int .u8 X18) ∧ wx.cell? ⟨BV, 1, none⟩ = some (.int .i64 0) ∧ wx.cell? ⟨BV, 2, none⟩ = some (.string Y18) ∧ wx.cell? ⟨BV, 3, none⟩ = some (.slice a18 Z18 cap18)) := Lib.hid (fun wx hx => (HB24.out.ext hx).cells)
  have ED := Lib.hid (Ext.refl w24).drew
  refine wp_region_held_drew (S := (fun w' => w'.cell? ⟨BV, 0, none⟩ = some (.int .u8 X18) ∧ w'.cell? ⟨BV, 1, none⟩ = some (.int .i64 0) ∧ w'.cell? ⟨BV, 2, none⟩ = some (.string Y18) ∧ w'.cell? ⟨BV, 3, none⟩ = some (.slice a18 Z18 cap18))) (by kernel_rfl) ?_ (fun hHeld => ?_)
  · (try dsimp only)
    (first | exact HS.out _ ED.out | exact HS.out _ E1.out | exact HS.out _ E2.out | exact HS.out _ E3.out | exact HS.out _ E4.out | exact HS.out _ E5.out)
  refine take_w 0 (some 117) (v := ?_) (by kernel_rfl) (by kernel_rfl) (by kernel_rfl) (by kernel_rfl) (by kernel_rfl) (fun _ _ _ h => h) (by rfl) ?_ (by assumption) ?_
  rotate_left
  · (intro w hSw; (try dsimp only at hSw); go_simp; try with_reducible rfl)
  try simp only [Act.put, List.setIfInBounds_toArray, List.set_cons_zero, List.set_cons_succ]
  refine take_w 1 (some 118) (v := ?_) (by kernel_rfl) (by kernel_rfl) (by kernel_rfl) (by kernel_rfl) (by kernel_rfl) (fun _ _ _ h => h) (by rfl) ?_ (by assumption) ?_
  rotate_left
  · (intro w hSw; (try dsimp only at hSw); go_simp; try with_reducible rfl)
  try simp only [Act.put, List.setIfInBounds_toArray, List.set_cons_zero, List.set_cons_succ]
  refine take_w 2 (some 119) (v := ?_) (by kernel_rfl) (by kernel_rfl) (by kernel_rfl) (by kernel_rfl) (by kernel_rfl) (fun _ _ _ h => h) (by rfl) ?_ (by assumption) ?_
  rotate_left
  · (intro w hSw; (try dsimp only at hSw); go_simp; try with_reducible rfl)
  try simp only [Act.put, List.setIfInBounds_toArray, List.set_cons_zero, List.set_cons_succ]
  refine take_w 3 (some 120) (v := ?_) (by kernel_rfl) (by kernel_rfl) (by kernel_rfl) (by kernel_rfl) (by kernel_rfl) (fun _ _ _ h => h) (by rfl) ?_ (by assumption) ?_
  rotate_left
  · (intro w hSw; (try dsimp only at hSw); go_simp; try with_reducible rfl)
  try simp only [Act.put, List.setIfInBounds_toArray, List.set_cons_zero, List.set_cons_succ]
  refine take_w 4 (some 121) (v := ?_) (by kernel_rfl) (by kernel_rfl) (by kernel_rfl) (by kernel_rfl) (by kernel_rfl) (fun _ _ _ h => h) (by rfl) ?_ (by assumption) ?_
  rotate_left
  · (intro w hSw; (try dsimp only at hSw); go_simp; try with_reducible rfl)
  try simp only [Act.put, List.setIfInBounds_toArray, List.set_cons_zero, List.set_cons_succ]
  refine take_w 5 (some 122) (v := ?_) (by kernel_rfl) (by kernel_rfl) (by kernel_rfl) (by kernel_rfl) (by kernel_rfl) (fun _ _ _ h => h) (by rfl) ?_ (by assumption) ?_
  rotate_left
  · (intro w hSw; (try dsimp only at hSw); go_simp; try with_reducible rfl)
  try simp only [Act.put, List.setIfInBounds_toArray, List.set_cons_zero, List.set_cons_succ]
  refine take_w 6 (some 123) (v := ?_) (by kernel_rfl) (by kernel_rfl) (by kernel_rfl) (by kernel_rfl) (by kernel_rfl) (fun _ _ _ h => h) (by rfl) ?_ (by assumption) ?_
  rotate_left
  · (intro w hSw; (try dsimp only at hSw); go_simp; try with_reducible rfl)
  try simp only [Act.put, List.setIfInBounds_toArray, List.set_cons_zero, List.set_cons_succ]
  refine ready_one 7 (by kernel_rfl) (by kernel_rfl) (by rfl) (fun Kc hKc => ?_)
  go_simp
  refine (num18_any 50 _).mono ?_
  rintro e y1 ⟨rfl, hE1⟩
  have E1 := Lib.hid (ED.out.trans hE1)
  clear hE1
  try go_wp2_with fail
  refine hKc.out _ _ ?_ (fun hHeld => ?_)
  · (try dsimp only)
    (first | exact HS.out _ ED.out | exact HS.out _ E1.out | exact HS.out _ E2.out | exact HS.out _ E3.out | exact HS.out _ E4.out | exact HS.out _ E5.out)
  clear hKc Kc
  try simp only [Act.put, List.setIfInBounds_toArray, List.set_cons_zero, List.set_cons_succ]
  refine ready_one 8 (by kernel_rfl) (by kernel_rfl) (by rfl) (fun Kc hKc => ?_)
  go_simp
  refine (num18_any 70 _).mono ?_
  rintro e y2 ⟨rfl, hE2⟩
  have E2 := Lib.hid (E1.out.trans hE2)
  clear hE2
  try go_wp2_with fail
  refine hKc.out _ _ ?_ (fun hHeld => ?_)
  · (try dsimp only)
    (first | exact HS.out _ ED.out | exact HS.out _ E1.out | exact HS.out _ E2.out | exact HS.out _ E3.out | exact HS.out _ E4.out | exact HS.out _ E5.out)
  clear hKc Kc
  try simp only [Act.put, List.setIfInBounds_toArray, List.set_cons_zero, List.set_cons_succ]
  refine ready_one 9 (by kernel_rfl) (by kernel_rfl) (by rfl) (fun Kc hKc => ?_)
  go_simp
  have HLn := Lib.hid (liesS_two (x := 50) (y := 70) (by unfold isI64; omega) (by unfold isI64; omega) (heap_alloc_new y2 (.cells #[.int .u8 0, .int .i64 50, .string { data := #[] }, .slice none 0 0, .int .u8 0, .int .i64 70, .string { data := #[] }, .slice none 0 0] 44)))
  have E3 := Lib.hid (E2.out.alloc (.cells #[.int .u8 0, .int .i64 50, .string { data := #[] }, .slice none 0 0, .int .u8 0, .int .i64 70, .string { data := #[] }, .slice none 0 0] 44))
  try go_wp2_with fail
  refine hKc.out _ _ ?_ (fun hHeld => ?_)
  · (try dsimp only)
    (first | exact HS.out _ ED.out | exact HS.out _ E1.out | exact HS.out _ E2.out | exact HS.out _ E3.out | exact HS.out _ E4.out | exact HS.out _ E5.out)
  clear hKc Kc
  try simp only [Act.put, List.setIfInBounds_toArray, List.set_cons_zero, List.set_cons_succ]
  refine ready_one 10 (by kernel_rfl) (by kernel_rfl) (by rfl) (fun Kc hKc => ?_)
  go_simp
  refine (list18_any _ 2 2 _).mono ?_
  rintro e y4 ⟨rfl, hE4⟩
  have E4 := Lib.hid (E3.out.trans hE4)
  have HL4 := Lib.hid (list18_lies (HLn.out.ext hE4))
  clear hE4 HLn
  try go_wp2_with fail
  refine hKc.out _ _ ?_ (fun hHeld => ?_)
  · (try dsimp only)
    (first | exact HS.out _ ED.out | exact HS.out _ E1.out | exact HS.out _ E2.out | exact HS.out _ E3.out | exact HS.out _ E4.out | exact HS.out _ E5.out)
  clear hKc Kc
  try simp only [Act.put, List.setIfInBounds_toArray, List.set_cons_zero, List.set_cons_succ]
  refine ready_one 11 (by kernel_rfl) (by kernel_rfl) (by rfl) (fun Kc hKc => ?_)
  go_simp
  refine (vsame_any (listV [numT 50, numT 70]) (listV [numT 50, numT 70]) _ _ _ (HV24.out.ext E4.out).lies HL4.out).mono ?_
  rintro e y5 ⟨rfl, hE5⟩
  rw [eqT_self]
  have E5 := Lib.hid (E4.out.trans hE5)
  clear hE5
  try go_wp2_with fail
  refine hKc.out _ _ ?_ (fun hHeld => ?_)
  · (try dsimp only)
    (first | exact HS.out _ ED.out | exact HS.out _ E1.out | exact HS.out _ E2.out | exact HS.out _ E3.out | exact HS.out _ E4.out | exact HS.out _ E5.out)
  clear hKc Kc
  try simp only [Act.put, List.setIfInBounds_toArray, List.set_cons_zero, List.set_cons_succ]
  refine take_w 12 (some 129) (v := ?_) (by kernel_rfl) (by kernel_rfl) (by kernel_rfl) (by kernel_rfl) (by kernel_rfl) (fun _ _ _ h => h) (by rfl) ?_ (by assumption) ?_
  rotate_left
  · (intro w hSw; (try dsimp only at hSw); go_simp; try with_reducible rfl)
  try simp only [Act.put, List.setIfInBounds_toArray, List.set_cons_zero, List.set_cons_succ]
  refine take_w 13 (some 130) (v := ?_) (by kernel_rfl) (by kernel_rfl) (by kernel_rfl) (by kernel_rfl) (by kernel_rfl) (fun _ _ _ h => h) (by rfl) ?_ (by assumption) ?_
  rotate_left
  · (intro w hSw; (try dsimp only at hSw); go_simp; try with_reducible rfl)
  try simp only [Act.put, List.setIfInBounds_toArray, List.set_cons_zero, List.set_cons_succ]
  refine take_w 14 (some 131) (v := ?_) (by kernel_rfl) (by kernel_rfl) (by kernel_rfl) (by kernel_rfl) (by kernel_rfl) (fun _ _ _ h => h) (by rfl) ?_ (by assumption) ?_
  rotate_left
  · (intro w hSw; (try dsimp only at hSw); go_simp; try with_reducible rfl)
  try simp only [Act.put, List.setIfInBounds_toArray, List.set_cons_zero, List.set_cons_succ]
  refine take_w 15 (some 132) (v := ?_) (by kernel_rfl) (by kernel_rfl) (by kernel_rfl) (by kernel_rfl) (by kernel_rfl) (fun _ _ _ h => h) (by rfl) ?_ (by assumption) ?_
  rotate_left
  · (intro w hSw; (try dsimp only at hSw); go_simp; try with_reducible rfl)
  try simp only [Act.put, List.setIfInBounds_toArray, List.set_cons_zero, List.set_cons_succ]
  refine take_w 16 (some 133) (v := ?_) (by kernel_rfl) (by kernel_rfl) (by kernel_rfl) (by kernel_rfl) (by kernel_rfl) (fun _ _ _ h => h) (by rfl) ?_ (by assumption) ?_
  rotate_left
  · (intro w hSw; (try dsimp only at hSw); go_simp; try with_reducible rfl)
  try simp only [Act.put, List.setIfInBounds_toArray, List.set_cons_zero, List.set_cons_succ]
  refine take_w 17 (some 134) (v := ?_) (by kernel_rfl) (by kernel_rfl) (by kernel_rfl) (by kernel_rfl) (by kernel_rfl) (fun _ _ _ h => h) (by rfl) ?_ (by assumption) ?_
  rotate_left
  · (intro w hSw; (try dsimp only at hSw); go_simp; try with_reducible rfl)
  try simp only [Act.put, List.setIfInBounds_toArray, List.set_cons_zero, List.set_cons_succ]
  refine take_w 18 (some 135) (v := ?_) (by kernel_rfl) (by kernel_rfl) (by kernel_rfl) (by kernel_rfl) (by kernel_rfl) (fun _ _ _ h => h) (by rfl) ?_ (by assumption) ?_
  rotate_left
  · (intro w hSw; (try dsimp only at hSw); go_simp; try with_reducible rfl)
  try simp only [Act.put, List.setIfInBounds_toArray, List.set_cons_zero, List.set_cons_succ]
  refine take_w 19 (some 136) (v := ?_) (by kernel_rfl) (by kernel_rfl) (by kernel_rfl) (by kernel_rfl) (by kernel_rfl) (fun _ _ _ h => h) (by rfl) ?_ (by assumption) ?_
  rotate_left
  · (intro w hSw; (try dsimp only at hSw); go_simp; try with_reducible rfl)
  try simp only [Act.put, List.setIfInBounds_toArray, List.set_cons_zero, List.set_cons_succ]
  refine take_w 20 (some 137) (v := ?_) (by kernel_rfl) (by kernel_rfl) (by kernel_rfl) (by kernel_rfl) (by kernel_rfl) (fun _ _ _ h => h) (by rfl) ?_ (by assumption) ?_
  rotate_left
  · (intro w hSw; (try dsimp only at hSw); go_simp; try with_reducible rfl)
  try simp only [Act.put, List.setIfInBounds_toArray, List.set_cons_zero, List.set_cons_succ]
  refine take_w 21 (some 0) (v := ?_) (by kernel_rfl) (by kernel_rfl) (by kernel_rfl) (by kernel_rfl) (by kernel_rfl) (fun _ _ _ h => h) (by rfl) ?_ (by assumption) ?_
  rotate_left
  · (intro w hSw; (try dsimp only at hSw); go_simp; try with_reducible rfl)
  try simp only [Act.put, List.setIfInBounds_toArray, List.set_cons_zero, List.set_cons_succ]
  refine wpAnyH_done (by kernel_rfl) ?_ _
  have HE9 := Lib.hid (HE24.out.trans E5.out)
  go_wp2
  go_ret
  exact ⟨rfl, HE9.out⟩
end Go.Proofs.YtpcgpcjleedilaaGreatDoor

namespace Fm
open Go Go.RowKit

/-- 'append(s, x...)' where s has no room. -/
theorem run_append_full {P : Program} (w : World) {t e : TypeId} {z : Value} {size bytes : Nat} (he : ElemOf P t e z size bytes) (ty : TypeId) (B off n : Nat) (olds : List Value) (hlo : olds.length = n * size) (holds : ∀ j u, olds[j]? = some u → w.cell? ⟨B, off + j, none⟩ = some u)
    (ad : Addr) (m c : Nat) (news : List Value) (hl : news.length = m * size) (hnews : ∀ j u, news[j]? = some u → w.cell? (ad.add j) = some u) (h1 : ∀ u ∈ news, u.oneCell' = true) (b1 : n + m ≤ maxLen) (b2 : (n + m) * bytes ≤ 140737488355328) :
    ∃ A C w', (Builtin.append_ #[t, t] ty #[.slice (some ⟨B, off, none⟩) n n, .slice (some ad) m c]).run P w = .ok (.slice A (n + m) C) w' ∧ Ext w w' ∧
      ((m = 0 ∧ A = some ⟨B, off, none⟩ ∧ C = n ∧ w' = w) ∨ (0 < m ∧ w'.ownsRow w.heap.size e size (.slice A (n + m) C) (n + m) (olds ++ news))) := by
  obtain ⟨ht, hinfo, hzs, hsz⟩ := he
  obtain ⟨i, hi, hz, hsize, hby⟩ := info_parts hinfo
  by_cases hm : m = 0
  · subst hm
    have hn : news = [] := List.eq_nil_of_length_eq_zero (by simpa using hl)
    subst hn
    have hr := run_append_room_cells (P := P) w t ty e i ht hi B off n n ad 0 c [] (by simp) hnews h1 (Nat.le_refl _) (fun j hj => by cases hj) (fun j hj => by cases hj)
    exact ⟨_, _, _, hr, Ext.refl w, .inl ⟨rfl, rfl, rfl, rfl⟩⟩
  · obtain ⟨v', w', hr, ho, hg⟩ := run_append_arg_grows (P := P) w t ty e i z size bytes ht hi hz hsize hby hzs hsz ⟨B, off, none⟩ n n olds hlo (fun j u hu => by rw [Addr.add_lit]; exact holds j u hu) ad m c news hl hnews (by omega) b1 b2
    obtain ⟨g, cap, rfl, -, -⟩ := World.ownsRow.form ho (by omega)
    exact ⟨_, _, _, hr, grown_none hg, .inr ⟨by omega, ho⟩⟩
/-- .. at an operation that comes up. -/
theorem wp_appFull {P : Program} {w : World} {o : Oper} {a : Act} {K : Act → World → Prop} {Q : Exit → Act → World → Prop} (s x : Operand) {t e : TypeId} {z : Value} {size bytes : Nat}
    (ho : o.op = .call { callee := .builtin .append, args := #[s, x], argTypes := #[t, t] }) (he : ElemOf P t e z size bytes) (B off n : Nat) (olds : List Value) (hs : a.eval s = .slice (some ⟨B, off, none⟩) n n) (hlo : olds.length = n * size) (holds : ∀ j u, olds[j]? = some u → w.cell? ⟨B, off + j, none⟩ = some u)
    (ad : Addr) (m c : Nat) (news : List Value) (hx : a.eval x = .slice (some ad) m c) (hl : news.length = m * size) (hnews : ∀ j u, news[j]? = some u → w.cell? (ad.add j) = some u) (h1 : ∀ u ∈ news, u.oneCell' = true) (b1 : n + m ≤ maxLen) (b2 : (n + m) * bytes ≤ 140737488355328)
    (h : ∀ A C w', Ext w w' → ((m = 0 ∧ A = some ⟨B, off, none⟩ ∧ C = n ∧ w' = w) ∨ (0 < m ∧ w'.ownsRow w.heap.size e size (.slice A (n + m) C) (n + m) (olds ++ news))) → K (a.put o.dst (.slice A (n + m) C)) w') : Oper.wp P o a w K Q := by
  obtain ⟨A, C, w', hrun, hE, hc⟩ := run_append_full w he o.type B off n olds hlo holds ad m c news hl hnews h1 b1 b2
  unfold Oper.wp
  simp [execOp, ho, resolve, invoke, builtin, hs, hx, hrun, Result.andThen]
  exact h A C w' hE hc
/-- Numbers that stay, whatever becomes of that block. -/
def FarI (w : World) (row : Option Nat) (l : List Int) (v : Value) : Prop := ∀ w', w.grownBy w' row → intE.Row w' l v
theorem FarI.row {w : World} {row : Option Nat} {l : List Int} {v : Value} (h : FarI w row l v) : intE.Row w l v := h w (grown_ext (Ext.refl w) row)
theorem FarI.then {w w' : World} {row row' : Option Nat} {l : List Int} {v : Value} (h : FarI w row l v) (hg : w.grownBy w' row) (hr : row' = row ∨ ∃ g, row' = some g ∧ w.heap.size ≤ g) : FarI w' row' l v := fun w'' hg' => h w'' (grown_row hg hg' hr)
theorem FarI.ext {w w' : World} {row : Option Nat} {l : List Int} {v : Value} (h : FarI w row l v) (hE : Ext w w') : FarI w' row l v := h.then (grown_ext hE row) (.inl rfl)
theorem OwnN.farI {e : TypeId} {base g : Nat} {w : World} {v : Value} {l : List Int} (h : OwnN e base w v l) (hl : ∀ i, i ∈ l → isI64 i) (hg : g < base) : FarI w (some g) l v := fun w' hw' =>
  OwnN.row (World.ownsRow.kept h hw' (by
    cases hv : v.ownBlock with
    | none => exact .inl rfl
    | some b => exact .inr (fun e => by injection e with e; have := (World.ownsRow.lt h b hv).1; omega))) hl
theorem Elem.Row.recap {α : Type} {E : Elem α} {w : World} {l : List α} {a : Option Addr} {n c c' : Nat} (h : E.Row w l (.slice a n c)) (h1 : n ≤ c') (h2 : c' ≤ maxLen) (h3 : a ≠ none) : E.Row w l (.slice a n c') := by
  obtain ⟨a', cap, e, q1, q2, q3, C, q4, q5⟩ := h
  injection e with e1 e2 e3
  subst e1 e2 e3
  exact ⟨a, c', rfl, h1, h2, fun h => absurd h h3, C, q4, q5⟩
/-- One number less. -/
theorem FarI.less {w w' : World} {g : Nat} {l : List Int} {B off n C k : Nat} {A' : Option Addr} {C' m : Nat} {e : TypeId} (h : FarI w (some g) l (.slice (some ⟨B, off, none⟩) n C)) (hg : g < w.heap.size) (hk : k < l.length) (hm : k + 1 + m = l.length) (hE : Ext w w')
    (hc : (m = 0 ∧ A' = some ⟨B, off, none⟩ ∧ C' = k ∧ w' = w) ∨ (0 < m ∧ w'.ownsRow w.heap.size e 1 (.slice A' (k + m) C') (k + m) ((l.take k).map (Value.int .i64) ++ (l.drop (k + 1)).map (Value.int .i64)))) : FarI w' (some g) (l.take k ++ l.drop (k + 1)) (.slice A' (k + m) C') := by
  have hrow := h.row
  rcases hc with ⟨rfl, rfl, rfl, rfl⟩ | ⟨h0, ho⟩
  · have hd : l.drop (C' + 1) = [] := List.drop_eq_nil_of_le (by omega)
    rw [hd, List.append_nil]
    intro w'' hw''
    have h1 := (h w'' hw'').take (k := C') (by omega)
    exact h1.recap (Nat.le_refl _) (by have := hrow.length_le; unfold maxLen; omega) (by simp)
  · have hn : OwnN e w.heap.size w' (.slice A' (k + m) C') (l.take k ++ l.drop (k + 1)) := by
      unfold OwnN
      rw [List.map_append, show (l.take k ++ l.drop (k + 1)).length = k + m by simp; omega]
      exact ho
    refine OwnN.farI hn (fun i hi => ?_) hg
    have hmem : ∀ i, i ∈ l → isI64 i := by
      obtain ⟨a, cap, e, q1, q2, q3, D, q4, q5⟩ := hrow
      intro i hi
      obtain ⟨j, hj, rfl⟩ := List.getElem_of_mem hi
      exact (q5 j hj).2
    rcases List.mem_append.1 hi with hi | hi
    · exact hmem i (List.mem_of_mem_take hi)
    · exact hmem i (List.mem_of_mem_drop hi)
end Fm
namespace Fm
open Go Go.RowKit
/-! ### instances done one by one -/
def stB (ins : List Tr) (pend : List Nat) : Nat → Option Tr := fun j => if j ∈ pend then none else some (ins.getD j zT)
def leftB (M : Nat) (pend : List Nat) : List Int := pend.map fun i => ((M + 1 + i : Nat) : Int)
theorem openO_congr {ins : List Tr} {os : List Int} {st st' : Nat → Option Tr} (h : ∀ i, i < ins.length → st i = st' i) : openO ins os st = openO ins os st' := by
  unfold openO
  congr 1
  apply List.map_congr_left
  intro i hi
  have := h i (List.mem_range.1 hi)
  unfold ndOE
  rw [this]
theorem openO_begin (ins : List Tr) (os : List Int) : openO ins os (fun _ => none) = openO ins os (stB ins (List.range ins.length)) := openO_congr fun i hi => by
  unfold stB; rw [if_pos (List.mem_range.2 hi)]
theorem openO_at {ins : List Tr} {os : List Int} {st : Nat → Option Tr} {j : Nat} (hj : j < ins.length) {I : Nat} (hI : I = 1 + os.length + 1 + j) (hl : I < (openO ins os st).length) : (openO ins os st)[I] = ndOE ins.length os.length st j := by
  subst hI
  have := nth_each ins os st hj
  unfold nthF at this
  rw [Int.toNat_natCast, List.getD_eq_getElem?_getD] at this
  rw [show os.length + 2 + j = 1 + os.length + 1 + j by omega, List.getElem?_eq_getElem hl, Option.getD_some] at this
  exact this
theorem openO_set {ins : List Tr} {os : List Int} {pend : List Nat} {k j : Nat} (hk : k < pend.length) (hn : pend.Nodup) (hj : j < ins.length) (hq : pend[k] = j) {I : Nat} (hI : I = 1 + os.length + 1 + j) (hl : I < (openO ins os (stB ins pend)).length) :
    (openO ins os (stB ins pend)).set I { (openO ins os (stB ins pend))[I] with stand := 4, val := ins[j] } = openO ins os (stB ins (pend.take k ++ pend.drop (k + 1))) := by
  have hm := List.getElem_mem hk
  rw [openO_at hj hI hl]
  have hmem : ∀ x, x ∈ pend.take k ++ pend.drop (k + 1) ↔ x ∈ pend ∧ x ≠ pend[k] := by
    intro x
    have hsp : pend = pend.take k ++ pend[k] :: pend.drop (k + 1) := by rw [← List.drop_eq_getElem_cons hk, List.take_append_drop]
    have hn2 := hn
    rw [hsp] at hn2
    have h1 := List.nodup_append.1 hn2
    constructor
    · intro hx
      rcases List.mem_append.1 hx with h | h
      · exact ⟨List.mem_of_mem_take h, fun e => h1.2.2 x h pend[k] List.mem_cons_self e⟩
      · exact ⟨List.mem_of_mem_drop h, fun e => (List.nodup_cons.1 h1.2.1).1 (by rw [← e]; exact h)⟩
    · rintro ⟨hx, hne⟩
      rw [hsp] at hx
      rcases List.mem_append.1 hx with h | h
      · exact List.mem_append.2 (.inl h)
      · rcases List.mem_cons.1 h with h | h
        · exact absurd h hne
        · exact List.mem_append.2 (.inr h)
  rw [hq] at hm hmem
  subst hI
  unfold openO
  rw [List.set_append_right _ _ (by rw [baseO_len]; omega), baseO_len, show 1 + os.length + 1 + j - (os.length + 2) = j by omega]
  congr 1
  apply List.ext_getElem (by simp)
  intro i h1 h2
  have hi : i < ins.length := by simpa using h2
  by_cases e : j = i
  · subst e
    rw [List.getElem_set_self]
    simp only [List.getElem_map, List.getElem_range]
    unfold ndOE stB
    rw [if_pos hm, if_neg (fun h => ((hmem j).1 h).2 rfl)]
    simp [hi]
  · rw [List.getElem_set_ne e]
    simp only [List.getElem_map, List.getElem_range]
    unfold ndOE stB
    by_cases hp : i ∈ pend
    · rw [if_pos hp, if_pos ((hmem i).2 ⟨hp, fun h => e h.symm⟩)]
    · rw [if_neg hp, if_neg (fun h => hp ((hmem i).1 h).1)]
theorem open_light {ins : List Tr} {os : List Int} {pend : List Nat} (h : ∀ t, t ∈ ins → partsT t ≤ 600) (hl : ins.length ≤ 20) (hos : os.length ≤ 40) : ∀ x, x ∈ openO ins os (stB ins pend) → partsT x.val ≤ 1000000 ∧ x.after.length ≤ 900 := by
  have hz : partsT zT = 1 := by unfold zT; rw [partsT_node]; rfl
  have hsum : partsL ins ≤ 600 * ins.length := by
    unfold partsL
    clear hl
    induction ins with
    | nil => simp
    | cons t l ih =>
      have := ih (fun u hu => h u (List.mem_cons_of_mem _ hu))
      have := h t List.mem_cons_self
      simp only [List.map_cons, List.sum_cons, List.length_cons]
      omega
  intro x hx
  unfold openO at hx
  rcases List.mem_append.1 hx with hx | hx
  · unfold baseO at hx
    simp only [List.mem_cons, List.mem_append, List.mem_map, List.not_mem_nil, or_false] at hx
    rcases hx with rfl | ⟨n, _, rfl⟩ | rfl
    · refine ⟨?_, by simp [ndOA]⟩
      show partsT (listV ins) ≤ _
      unfold listV
      rw [partsT_node]; omega
    · refine ⟨?_, by simp [ndOB]⟩
      show partsT (numT n) ≤ _
      unfold numT
      rw [partsT_node]; show 1 + 0 ≤ _; omega
    · refine ⟨by show partsT zT ≤ _; omega, ?_⟩
      show (aftO os.length).length ≤ 900
      rw [aftO_len]; omega
  · obtain ⟨i, hi, rfl⟩ := List.mem_map.1 hx
    have hi := List.mem_range.1 hi
    have ha : (ndOE ins.length os.length (stB ins pend) i).after.length ≤ 900 := by
      obtain ⟨_, _, _, d⟩ := ndOE_kind ins.length os.length (stB ins pend) i
      rw [d, List.length_tail, aftO_len]; omega
    refine ⟨?_, ha⟩
    unfold ndOE stB
    by_cases hp : i ∈ pend
    · rw [if_pos hp]; show partsT zT ≤ _; omega
    · rw [if_neg hp]
      have := h (ins.getD i zT) (by rw [List.getD_eq_getElem?_getD, List.getElem?_eq_getElem hi]; exact List.getElem_mem hi)
      show partsT (ins.getD i zT) ≤ _
      omega
theorem stB_none {ins : List Tr} {pend : List Nat} {j : Nat} (h : j ∈ pend) : stB ins pend j = none := by unfold stB; rw [if_pos h]
theorem back_values {ins : List Tr} {os : List Int} : valuesF (openO ins os (stB ins [])) ((1 + os.length : Nat) : Int) = some ins := by
  rw [values_open]
  exact ⟨rfl, fun j _ => by unfold stB; rw [if_neg (by simp)]⟩
end Fm
namespace Fm
open Go Go.RowKit
/-- An element of a list that lies somewhere. -/
theorem liesS_at {w : World} {l : List Tr} {a : Option Addr} {n c : Nat} (h : LiesS w l (.slice a n c)) {j : Nat} (hj : j < l.length) :
    ∃ (b off : Nat) (k0 n0 : Int) (s0 : ByteArray) (a0 : Option Addr) (m0 c0 : Nat), a = some ⟨b, off, none⟩ ∧ b < w.heap.size ∧ (∀ W, Ext w W → W.cell? ⟨b, off + j * 4, none⟩ = some (.int .u8 k0) ∧ W.cell? ⟨b, off + j * 4 + 1, none⟩ = some (.int .i64 n0) ∧ W.cell? ⟨b, off + j * 4 + 2, none⟩ = some (.string s0) ∧ W.cell? ⟨b, off + j * 4 + 3, none⟩ = some (.slice a0 m0 c0)) ∧
      Lies w l[j] (.agg #[.int .u8 k0, .int .i64 n0, .string s0, .slice a0 m0 c0]) := by
  obtain ⟨a', c', e, h1, h2, h3, C, h4, h5⟩ := h
  injection e with e1 e2 e3
  subst e1 e2 e3
  obtain ⟨b, off, rfl, hb, hc⟩ := h4 (by omega)
  obtain ⟨k0, n0, s0, a0, m0, c0, e0, e1, e2, e3, hx⟩ := elem4o (Ext.refl w) hb hc h5 j hj
  exact ⟨b, off, k0, n0, s0, a0, m0, c0, rfl, hb, fun W hW => ⟨(hW.cell (p := ⟨b, _, none⟩) hb).trans e0, (hW.cell (p := ⟨b, _, none⟩) hb).trans e1, (hW.cell (p := ⟨b, _, none⟩) hb).trans e2, (hW.cell (p := ⟨b, _, none⟩) hb).trans e3⟩, hx⟩
end Fm

open Go.RowKit Go.Shelf
namespace Go.Proofs.YtpcgpcjleedilaaGreatDoor
open Go Go.Proofs Fm

theorem sizeof_i64F : ∀ w, (sizeOf (Tryz.prog.elem 65)).run Tryz.prog w = .ok 1 w := fun _ => by kernel_rfl
theorem slice_i64_upto (a : Option Addr) (len cap k : Nat) (h1 : k ≤ cap) (w : World) :
    (Instr.slice 65 (.slice a len cap) none (some (.int .i64 (k : Int))) none).run Tryz.prog w = .ok (.slice a k cap) w := by
  rw [run_slice_h (ht := by kernel_rfl) (h0 := by omega) (h2 := by omega), sizeof_i64F]
  cases a <;> simp [Result.andThen, sliced, Addr.add]
theorem slice_int_full (a : Option Addr) (len cap k : Nat) (h1 : k ≤ cap) (w : World) :
    (Instr.slice 41 (.slice a len cap) none (some (.int .i64 (k : Int))) (some (.int .i64 (k : Int)))).run Tryz.prog w = .ok (.slice a k k) w := by
  rw [run_slice_hm (ht := by kernel_rfl) (h0 := by omega) (h2 := by omega) (h3 := by omega), sizeof_intF]
  cases a <;> simp [Result.andThen, sliced, Addr.add]
theorem u8_at {w wr : World} {l : List UInt8} {a : Option Addr} {n cap : Nat} (h : u8E.Row w l (.slice a n cap)) (hE : Ext w wr) (i : Nat) (hi : i < l.length) :
    ∃ (b off : Nat), a = some ⟨b, off, none⟩ ∧ b < w.heap.size ∧ wr.cell? ⟨b, off + i, none⟩ = some (.int .u8 (l[i].toNat : Int)) := by
  obtain ⟨hn, b, off, ha, hb, hc⟩ := h.at (by omega)
  obtain ⟨c, r0, hcell⟩ := hc i hi
  refine ⟨b, off, ha, hb, ?_⟩
  have := hcell 0 (by decide) wr hE
  rw [show c 0 = .int .u8 (l[i].toNat : Int) from r0] at this
  have e : i * u8E.sz + 0 = i := by show i * 1 + 0 = i; omega
  rw [e] at this
  exact this
theorem ints_cells {w : World} {l : List Int} {B off n cap : Nat} (h : intE.Row w l (.slice (some ⟨B, off, none⟩) n cap)) : ∀ (j : Nat) (u : Value), (l.map (Value.int .i64))[j]? = some u → w.cell? ⟨B, off + j, none⟩ = some u := by
  intro j u hu
  rw [List.getElem?_map] at hu
  cases hl : l[j]? with
  | none => rw [hl] at hu; cases hu
  | some x =>
    rw [hl] at hu
    obtain ⟨hj, rfl⟩ := List.getElem?_eq_some_iff.1 hl
    obtain ⟨b, o, e, -, hc, -⟩ := int_at h (Ext.refl w) j hj
    injection e with e
    injection e with e1 e2
    subst e1 e2
    rw [hc]; simpa using hu
theorem held_done {eN : TypeId} {base : Nat} {w : World} {g cap i : Nat} {l : List Nd} (h : HeldN eN base w (.slice (some ⟨g, 0, none⟩) l.length cap) l) (hi : i < l.length) (t : Tr) (c0 c1 c2 c3 : Value)
    (hT : ∀ w', w.grownBy w' (some g) → Lies w' t (.agg #[c0, c1, c2, c3])) :
    HeldN eN base (((((w.setCell ⟨g, i * 16 + 9, none⟩ (.int .u8 4)).setCell ⟨g, i * 16 + 12, none⟩ c0).setCell ⟨g, i * 16 + 12 + 1, none⟩ c1).setCell ⟨g, i * 16 + 12 + 2, none⟩ c2).setCell ⟨g, i * 16 + 12 + 3, none⟩ c3) (.slice (some ⟨g, 0, none⟩) l.length cap) (l.set i { l[i] with stand := 4, val := t }) ∧
      w.grownBy (((((w.setCell ⟨g, i * 16 + 9, none⟩ (.int .u8 4)).setCell ⟨g, i * 16 + 12, none⟩ c0).setCell ⟨g, i * 16 + 12 + 1, none⟩ c1).setCell ⟨g, i * 16 + 12 + 2, none⟩ c2).setCell ⟨g, i * 16 + 12 + 3, none⟩ c3) (some g) := by
  obtain ⟨p1, p2⟩ := h.put hi 9 (by omega) (.int .u8 4) { l[i] with stand := 4 } (fun w' C h => ndV_stand h 4)
  obtain ⟨p3, p4⟩ := HeldN.putV (i := i) (l := l.set i { l[i] with stand := 4 }) (by rw [List.length_set]; exact p1) (by rw [List.length_set]; exact hi) t c0 c1 c2 c3 (fun w' hw' => hT w' (grown_trans p2 hw'))
  refine ⟨?_, grown_trans p2 p4⟩
  simp only [List.length_set, List.set_set, List.getElem_set_self] at p3
  exact p3
theorem back_less {pend : List Nat} {n q : Nat} (h : pend.Nodup ∧ ∀ i, i ∈ pend → i < n) : (pend.take q ++ pend.drop (q + 1)).Nodup ∧ ∀ i, i ∈ pend.take q ++ pend.drop (q + 1) → i < n := by
  rw [← List.eraseIdx_eq_take_drop_succ]
  exact ⟨h.1.sublist (List.eraseIdx_sublist pend q), fun i hi => h.2 i ((List.eraseIdx_sublist pend q).subset hi)⟩
/-- One number is taken out: what is needed of both parts. -/
theorem left_parts {w : World} {l : List Int} {B off m C q : Nat} (h : intE.Row w l (.slice (some ⟨B, off, none⟩) m C)) (hq : q < l.length) :
    m = l.length ∧ m ≤ C ∧ C ≤ 9223372036854775807 ∧ ∃ AD : Addr, (if C = q + 1 then some (⟨B, off, none⟩ : Addr) else (some (⟨B, off, none⟩ : Addr)).map (·.add ((q + 1) * 1))) = some AD ∧
      (∀ (w' : World), Ext w w' → ∀ (j : Nat) (u : Value), ((l.take q).map (Value.int .i64))[j]? = some u → w'.cell? ⟨B, off + j, none⟩ = some u) ∧
      (∀ (w' : World), Ext w w' → ∀ (j : Nat) (u : Value), ((l.drop (q + 1)).map (Value.int .i64))[j]? = some u → w'.cell? (AD.add j) = some u) := by
  obtain ⟨_, _, e, h1, h2⟩ := h.slice
  injection e with e1 e2 e3
  subst e1 e2 e3
  refine ⟨rfl, h1, h2, ?_⟩
  have ht : ∀ (w' : World), Ext w w' → ∀ (j : Nat) (u : Value), ((l.take q).map (Value.int .i64))[j]? = some u → w'.cell? ⟨B, off + j, none⟩ = some u := fun w' hE j u hu => by
    refine ints_cells (h.ext hE) j u ?_
    have hj : j < q := by have := (List.getElem?_eq_some_iff.1 hu).1; simp at this; omega
    rw [List.map_take, List.getElem?_take_of_lt hj] at hu
    exact hu
  by_cases hc : C = q + 1
  · refine ⟨⟨B, off, none⟩, if_pos hc, ht, fun w' hE j u hu => ?_⟩
    rw [List.drop_eq_nil_of_le (by omega)] at hu
    cases hu
  · refine ⟨⟨B, off + (q + 1), none⟩, ?_, ht, fun w' hE j u hu => ?_⟩
    · rw [if_neg hc]; simp [Addr.add]
    · rw [List.map_drop, List.getElem?_drop] at hu
      have := ints_cells (h.ext hE) _ u hu
      rw [Addr.add_lit, Nat.add_assoc off]
      exact this
set_option maxRecDepth 100000 in
set_option maxHeartbeats 8000000 in
theorem fanBack_any (w : World) (ins0 : List Tr) (v : Value) (hv : LiesS w ins0 v) (os0 : List Int) (x : Value) (hx : intE.Row w os0 x) (ord : List UInt8) (y : Value) (hy : u8E.Row w ord y) (hw : KW w) :
    Calls Tryz.prog 5 #[v, x, y] w fun e w' => e = .returned (.bool true) ∧ Ext w w' := by
  have HKW := Lib.hid hw
  have HOS := Lib.hid hx
  have HORD := Lib.hid hy
  have HLI := Lib.hid (light_any ins0 w v hv)
  obtain ⟨ao, co, rfl, hco1, hco2⟩ := hx.slice
  obtain ⟨ay, cy, rfl, hcy1, hcy2⟩ := hy.slice
  obtain ⟨ai, ci, rfl, -⟩ := hv
  clear hx hy hw
  go_enter Tryz.func5, Tryz.ntmps5
  go_wp2_with fail
  refine HLI.out.mono ?_
  rintro e w1 ⟨hE1, hl⟩
  rcases hl with ⟨-, rfl⟩ | ⟨hlight, a, c, rfl, hL⟩
  · have HE1 := Lib.hid hE1
    have HAW := Lib.hid (awake18_any w1 (HKW.out.ext hE1))
    clear HLI hE1
    go_wp2_with fail
    refine HAW.out.mono ?_
    rintro e w2 ⟨rfl, hE⟩
    have HE := Lib.hid (HE1.out.trans hE)
    clear hE
    go_wp2
    go_ret
    exact ⟨rfl, HE.out⟩
  have HE1 := Lib.hid hE1
  have HINS := Lib.hid hL
  have hlt20 : (ins0.take 20).length ≤ 20 := by rw [List.length_take]; omega
  have HLT := Lib.hid (fun t ht => Nat.le_trans (Nat.le_of_eq (fewT_light 20 t (hlight t ht)).1.symm) (hlight t ht))
  obtain ⟨ins, hins⟩ : ∃ ins, ins = ins0.take 20 := ⟨_, rfl⟩
  rw [← hins] at HINS hlt20 HLT ⊢
  obtain ⟨K, hK⟩ : ∃ K, K = min os0.length 3 := ⟨_, rfl⟩
  have hmin : min (os0.length : Int) 3 = (K : Int) := by omega
  have hsl := slice_i64_upto ao os0.length co K (by omega)
  have hro := HOS.out.take (k := K) (by omega)
  obtain ⟨os, hos⟩ : ∃ os, os = os0.take K := ⟨_, rfl⟩
  have hosl : os.length = K := by rw [hos, List.length_take]; omega
  rw [← hos] at hro
  have HRO := Lib.hid hro
  have HKl := Lib.hid hosl
  have hK3 : K ≤ 3 := by omega
  clear hlight hL hE1 HLI hins hK hro hos hosl
  go_upto_region 5 with (fail)
  clear hmin hsl
  go_wp2_with fail
  refine (opened_any ins os (by omega) (by rw [HKl.out]; omega) w1 (HKW.out.ext HE1.out) _ _ (HINS.out.ext HE1.out) (HRO.out.ext HE1.out)).mono ?_
  rintro e w2 ⟨g, LN, cl, rfl, hE2, hH2⟩
  have hLN : LN = os.length + 2 + ins.length := by
    obtain ⟨a, c, e⟩ := hH2.slice
    rw [openO_len] at e
    injection e
  rw [HKl.out] at hLN ⊢
  have HE2 := Lib.hid (HE1.out.trans hE2)
  rw [openO_begin] at hH2
  have HH2 := Lib.hid hH2
  obtain ⟨M, hM⟩ : ∃ M, M = 1 + K := ⟨_, rfl⟩
  rw [← hM]
  obtain ⟨NI, hNI⟩ : ∃ NI, NI = ins.length := ⟨_, rfl⟩
  rw [← hNI] at hLN hlt20 ⊢
  have HNI := Lib.hid hNI
  have HIN2 := Lib.hid (show LiesS w ins (.slice a NI c) by rw [hNI]; exact HINS.out)
  have HM := Lib.hid (show M = 1 + os.length by rw [HKl.out]; exact hM)
  have hne : ((LN : Int) != (M : Int) + 1 + (NI : Int)) = false := by simp; omega
  have HLNe := Lib.hid (show LN = M + 1 + NI by omega)
  have HMK := Lib.hid (show M = K + 1 by omega)
  have hM4 : M ≤ 4 := by omega
  clear hM hNI hLN hE2 hH2
  go_upto_region 8 with (fail)
  clear hne
  go_wp2_with fail
  have hgb := (HH2.out.lt g rfl)
  go_loopw [52, 10] (fun i l wr => ∃ (j : Nat) (A : Option Addr) (n C : Nat), j ≤ NI ∧ i = .int .i64 j ∧ l = .slice A n C ∧ n = j ∧ Hid (Ext w2 wr) ∧ Hid (OwnN 3 w2.heap.size wr (.slice A n C) (leftB M (List.range j)))) (fun i _ _ => NI - (intOf i).toNat)
  case atStart => exact ⟨0, _, _, _, by omega, rfl, rfl, rfl, Lib.hid (Ext.refl _), Lib.hid (OwnN.nil _ _ _)⟩
  case round =>
    obtain ⟨j, A, n, C, hj, rfl, rfl, rfl, HE, HO⟩ := hrel
    by_cases hlt : n < NI
    case pos =>
      have hEb := (Ext.refl wr).alloc (.cells #[.int .i64 ((M : Int) + 1 + (n : Int))] 3)
      have HBb := Lib.hid (heap_alloc_new wr (.cells #[.int .i64 ((M : Int) + 1 + (n : Int))] 3))
      have HE3 := Lib.hid (HE.out.trans hEb)
      have HR3 : Hid ((wr.alloc (.cells #[.int .i64 ((M : Int) + 1 + (n : Int))] 3)).ownsRow w2.heap.size 3 1 (.slice A n C) n ((leftB M (List.range n)).map (Value.int .i64))) := Lib.hid (by
        have h := World.ownsRow.alloc HO.out (.cells #[.int .i64 ((M : Int) + 1 + (n : Int))] 3)
        rw [show (leftB M (List.range n)).length = n by simp [leftB]] at h
        exact h)
      clear hEb HO
      go_wp2_with (at_builtin; refine wpList_appOne elemint_F rfl _ _ rfl rfl HR3.out rfl HBb.out rfl (by simp [Value.oneCell']) (by omega) (by omega) HE3.out.size ?_)
      intro v8 w8 hown8 hgr8 hat8
      obtain ⟨g8, c8, rfl, -, -⟩ := World.ownsRow.form hown8 (by omega)
      have HE9 := Lib.hid (HE3.out.grown hgr8 (fun k hk => (World.ownsRow.lt HR3.out k hk).1))
      have HO10 : Hid (OwnN 3 w2.heap.size w8 (.slice (some ⟨g8, 0, none⟩) (n + 1) c8) (leftB M (List.range (n + 1)))) := Lib.hid (by
        unfold OwnN
        rw [show (leftB M (List.range (n + 1))).length = n + 1 by simp [leftB], show (leftB M (List.range (n + 1))).map (Value.int .i64) = (leftB M (List.range n)).map (Value.int .i64) ++ [.int .i64 ((M : Int) + 1 + (n : Int))] by
          unfold leftB; rw [List.range_succ, List.map_append, List.map_append]; simp]
        exact hown8)
      clear hown8 hgr8 hat8 HBb HE3 HR3
      go_wp2
      go_roundw
      case rel => exact ⟨n + 1, _, _, _, by omega, by go_num, rfl, rfl, HE9, HO10⟩
      case measure => simp [intOf]; omega
    obtain rfl : n = NI := by omega
    have HE3 := Lib.hid (HE2.out.trans HE.out)
    have HH3 := Lib.hid (HH2.out.ext HE.out)
    have HF3 := Lib.hid (OwnN.farI HO.out (fun i hi => by
      unfold leftB at hi
      obtain ⟨k, hk, rfl⟩ := List.mem_map.1 hi
      have := List.mem_range.1 hk
      unfold isI64; omega) hgb.2)
    clear HE HO hlt
    go_wp2_with fail
    go_loopw [12, 10] (fun kv l wr => ∃ (kk : Nat) (pend : List Nat) (A : Option Addr) (m C : Nat), kv = .int .i64 kk ∧ l = .slice A m C ∧ m = pend.length ∧ kk + m = n ∧ Hid (pend.Nodup ∧ ∀ i, i ∈ pend → i < n) ∧ Hid (Ext w wr) ∧ Hid (HeldN 46 w1.heap.size wr (.slice (some ⟨g, 0, none⟩) LN cl) (openO ins os (stB ins pend))) ∧ Hid (FarI wr (some g) (leftB M pend) (.slice A m C))) (fun kv _ _ => n - (intOf kv).toNat)
    case atStart => exact ⟨0, List.range n, _, _, _, rfl, rfl, by simp, by omega, Lib.hid ⟨List.nodup_range, fun i hi => List.mem_range.1 hi⟩, HE3, by rw [HNI.out]; exact HH3, HF3⟩
    case round =>
      clear HE3 HH3 HF3 HH2 HE2
      obtain ⟨kk, pend, A, m, C, rfl, rfl, hmp, hkm, HP, HE, HH, HF⟩ := hrel
      have hLl : Hid (∀ p, LN = (openO ins os (stB ins p)).length) := Lib.hid (fun p => by rw [openO_len, HLNe.out, HM.out, HNI.out]; omega)
      have hgw := (HH.out.lt g rfl)
      have hg1 : w1.heap.size ≤ g := hgw.1
      have hE1z := HE1.out.size
      have HLight := Lib.hid (open_light (os := os) (pend := pend) (fun t ht => HLT.out t ht) (by rw [← HNI.out]; omega) (by rw [HKl.out]; omega))
      by_cases hm0 : m = 0
      case pos =>
        subst hm0
        have hpn : pend = [] := List.eq_nil_of_length_eq_zero hmp.symm
        subst hpn
        have HV := Lib.hid (fvalues_any (openO ins os (stB ins [])) (M : Int) (by rw [← hLl.out, HLNe.out]; omega) (fun x hx => (HLight.out x hx).1) wr _ HH.out.row)
        have HVal := Lib.hid (show valuesF (openO ins os (stB ins [])) (M : Int) = some ins by rw [HM.out]; exact back_values)
        clear HLight HP HF hmp
        go_wp2_with fail
        refine HV.out.mono ?_
        rintro e w18 ⟨v18, b18, rfl, hE18, hyes, -⟩
        obtain ⟨rfl, ho18⟩ := hyes _ HVal.out
        obtain ⟨d18, rfl, -, -, hl18⟩ := ho18.lies.parts
        obtain ⟨a18, cap18, rfl, -⟩ := id hl18
        have hEa := (Ext.refl w18).alloc (.cells #[.int .u8 ((2 : UInt8).toNat : Int), .int .i64 0, .string (str []), .slice a18 ins.length cap18] 44)
        have HB18 := Lib.hid (Box4.new w18 (.int .u8 ((2 : UInt8).toNat : Int)) (.int .i64 0) (.string (str [])) (.slice a18 ins.length cap18))
        have HV18 := Lib.hid (ho18.ext hEa)
        have HE18 := Lib.hid (HE.out.trans (hE18.trans hEa))
        generalize hx18 : ((2 : UInt8).toNat : Int) = X18 at *
        generalize hy18 : str [] = Y18 at *
        generalize hz18 : ins.length = Z18 at *
        clear hE18 hEa HH HE hyes ho18 hl18
        go_upto_region 36 with (fail)
        generalize hBV : w18.heap.size = BV at *
        generalize w18.alloc (.cells #[.int .u8 X18, .int .i64 0, .string Y18, .slice a18 Z18 cap18] 44) = w24 at *
        have HS : Hid (∀ wx, Ext w24 wx → wx.cell? ⟨BV, 0, none⟩ = some (.int .u8 X18) ∧ wx.cell? ⟨BV, 1, none⟩ = some (.int .i64 0) ∧ wx.cell? ⟨BV, 2, none⟩ = some (.string Y18) ∧ wx.cell? ⟨BV, 3, none⟩ = some (.slice a18 Z18 cap18)) := Lib.hid (fun wx hx => (HB18.out.ext hx).cells)
        have ED := Lib.hid (Ext.refl w24).drew
        refine wp_region_held_drew (S := (fun w' => w'.cell? ⟨BV, 0, none⟩ = some (.int .u8 X18) ∧ w'.cell? ⟨BV, 1, none⟩ = some (.int .i64 0) ∧ w'.cell? ⟨BV, 2, none⟩ = some (.string Y18) ∧ w'.cell? ⟨BV, 3, none⟩ = some (.slice a18 Z18 cap18))) (by kernel_rfl) ?_ (fun hHeld => ?_)
        · (try dsimp only)
          (first | exact HS.out _ ED.out | exact HS.out _ E1.out | exact HS.out _ E2.out | exact HS.out _ E3.out)
        refine take_w 0 (some 164) (v := ?_) (by kernel_rfl) (by kernel_rfl) (by kernel_rfl) (by kernel_rfl) (by kernel_rfl) (fun _ _ _ h => h) (by rfl) ?_ (by assumption) ?_
        rotate_left
        · (intro w hSw; (try dsimp only at hSw); go_simp; try with_reducible rfl)
        try simp only [Act.put, List.setIfInBounds_toArray, List.set_cons_zero, List.set_cons_succ]
        refine take_w 1 (some 165) (v := ?_) (by kernel_rfl) (by kernel_rfl) (by kernel_rfl) (by kernel_rfl) (by kernel_rfl) (fun _ _ _ h => h) (by rfl) ?_ (by assumption) ?_
        rotate_left
        · (intro w hSw; (try dsimp only at hSw); go_simp; try with_reducible rfl)
        try simp only [Act.put, List.setIfInBounds_toArray, List.set_cons_zero, List.set_cons_succ]
        refine take_w 2 (some 166) (v := ?_) (by kernel_rfl) (by kernel_rfl) (by kernel_rfl) (by kernel_rfl) (by kernel_rfl) (fun _ _ _ h => h) (by rfl) ?_ (by assumption) ?_
        rotate_left
        · (intro w hSw; (try dsimp only at hSw); go_simp; try with_reducible rfl)
        try simp only [Act.put, List.setIfInBounds_toArray, List.set_cons_zero, List.set_cons_succ]
        refine take_w 3 (some 167) (v := ?_) (by kernel_rfl) (by kernel_rfl) (by kernel_rfl) (by kernel_rfl) (by kernel_rfl) (fun _ _ _ h => h) (by rfl) ?_ (by assumption) ?_
        rotate_left
        · (intro w hSw; (try dsimp only at hSw); go_simp; try with_reducible rfl)
        try simp only [Act.put, List.setIfInBounds_toArray, List.set_cons_zero, List.set_cons_succ]
        refine ready_one 4 (by kernel_rfl) (by kernel_rfl) (by rfl) (fun Kc hKc => ?_)
        go_simp
        refine (list18_any _ _ _ _).mono ?_
        rintro e y4 ⟨rfl, hE4⟩
        have E1 := Lib.hid (ED.out.trans hE4)
        have HL4 := Lib.hid (list18_lies (HIN2.out.ext (HE18.out.trans E1.out)))
        clear hE4
        try go_wp2_with fail
        refine hKc.out _ _ ?_ (fun hHeld => ?_)
        · (try dsimp only)
          (first | exact HS.out _ ED.out | exact HS.out _ E1.out | exact HS.out _ E2.out | exact HS.out _ E3.out)
        clear hKc Kc
        try simp only [Act.put, List.setIfInBounds_toArray, List.set_cons_zero, List.set_cons_succ]
        refine ready_one 5 (by kernel_rfl) (by kernel_rfl) (by rfl) (fun Kc hKc => ?_)
        go_simp
        refine (vsame_any (listV ins) (listV ins) _ _ _ (HV18.out.ext E1.out).lies HL4.out).mono ?_
        rintro e y5 ⟨rfl, hE5⟩
        rw [eqT_self]
        have E2 := Lib.hid (E1.out.trans hE5)
        clear hE5
        try go_wp2_with fail
        refine hKc.out _ _ ?_ (fun hHeld => ?_)
        · (try dsimp only)
          (first | exact HS.out _ ED.out | exact HS.out _ E1.out | exact HS.out _ E2.out | exact HS.out _ E3.out)
        clear hKc Kc
        try simp only [Act.put, List.setIfInBounds_toArray, List.set_cons_zero, List.set_cons_succ]
        refine take_w 6 (some 170) (v := ?_) (by kernel_rfl) (by kernel_rfl) (by kernel_rfl) (by kernel_rfl) (by kernel_rfl) (fun _ _ _ h => h) (by rfl) ?_ (by assumption) ?_
        rotate_left
        · (intro w hSw; (try dsimp only at hSw); go_simp; try with_reducible rfl)
        try simp only [Act.put, List.setIfInBounds_toArray, List.set_cons_zero, List.set_cons_succ]
        refine take_w 7 (some 171) (v := ?_) (by kernel_rfl) (by kernel_rfl) (by kernel_rfl) (by kernel_rfl) (by kernel_rfl) (fun _ _ _ h => h) (by rfl) ?_ (by assumption) ?_
        rotate_left
        · (intro w hSw; (try dsimp only at hSw); go_simp; try with_reducible rfl)
        try simp only [Act.put, List.setIfInBounds_toArray, List.set_cons_zero, List.set_cons_succ]
        refine ready_one 8 (by kernel_rfl) (by kernel_rfl) (by rfl) (fun Kc hKc => ?_)
        go_simp
        refine (awake18_any _ (HKW.out.ext (HE18.out.trans E2.out))).mono ?_
        rintro e y6 ⟨rfl, hE6⟩
        have E3 := Lib.hid (E2.out.trans hE6)
        have HE9 := Lib.hid (HE18.out.trans E3.out)
        clear hE6
        try go_wp2_with fail
        refine hKc.out _ _ ?_ (fun hHeld => ?_)
        · (try dsimp only)
          (first | exact HS.out _ ED.out | exact HS.out _ E1.out | exact HS.out _ E2.out | exact HS.out _ E3.out)
        clear hKc Kc
        try simp only [Act.put, List.setIfInBounds_toArray, List.set_cons_zero, List.set_cons_succ]
        refine take_w 9 (some 173) (v := ?_) (by kernel_rfl) (by kernel_rfl) (by kernel_rfl) (by kernel_rfl) (by kernel_rfl) (fun _ _ _ h => h) (by rfl) ?_ (by assumption) ?_
        rotate_left
        · (intro w hSw; (try dsimp only at hSw); go_simp; try with_reducible rfl)
        try simp only [Act.put, List.setIfInBounds_toArray, List.set_cons_zero, List.set_cons_succ]
        refine take_w 10 (some 6) (v := ?_) (by kernel_rfl) (by kernel_rfl) (by kernel_rfl) (by kernel_rfl) (by kernel_rfl) (fun _ _ _ h => h) (by rfl) ?_ (by assumption) ?_
        rotate_left
        · (intro w hSw; (try dsimp only at hSw); go_simp; try with_reducible rfl)
        try simp only [Act.put, List.setIfInBounds_toArray, List.set_cons_zero, List.set_cons_succ]
        refine wpAnyH_done (by kernel_rfl) ?_ _
        go_wp2
        go_ret
        exact ⟨rfl, HE9.out⟩
      have HV := Lib.hid (fvalues_any (openO ins os (stB ins pend)) (M : Int) (by rw [← hLl.out, HLNe.out]; omega) (fun x hx => (HLight.out x hx).1) wr _ HH.out.row)
      have hp0 : 0 < pend.length := by omega
      have HVal := Lib.hid (show valuesF (openO ins os (stB ins pend)) (M : Int) = none by
        rw [HM.out]
        exact values_none (j := pend[0]) (by rw [← HNI.out]; exact HP.out.2 _ (List.getElem_mem hp0)) (stB_none (List.getElem_mem hp0)))
      have hmi : (0 : Int) < (m : Int) := by omega
      go_wp2_with fail
      refine HV.out.mono ?_
      rintro e w14 ⟨v14, b14, rfl, hE14, -, hno⟩
      obtain ⟨rfl, rfl⟩ := hno HVal.out
      have hEa := (Ext.refl w14).alloc (.cells #[.int .u8 0, .int .i64 0, .string { data := #[] }, .slice none 0 0] 44)
      have HH5 := Lib.hid (HH.out.ext (hE14.trans hEa))
      have HE5 := Lib.hid (HE.out.trans (hE14.trans hEa))
      have HF5 := Lib.hid (HF.out.ext (hE14.trans hEa))
      have hg5 : g < (w14.alloc (.cells #[.int .u8 0, .int .i64 0, .string { data := #[] }, .slice none 0 0] 44)).heap.size := (HH5.out.lt g rfl).2
      have HMPL := Lib.hid hmp
      clear hno hE14 hEa HH HE HF HV HVal hgw hmp
      go_upto_region 20 with (fail)
      generalize w14.alloc (.cells #[.int .u8 0, .int .i64 0, .string { data := #[] }, .slice none 0 0] 44) = w5 at *
      go_upto_if 78 with (fail)
      go_cut [15] from 75 to 86 (fun p w' => ∃ q : Nat, p = .int .i64 (q : Int) ∧ q < m ∧ w' = w5)
      case first =>
        by_cases hko : kk < ord.length
        case pos =>
          have hrowy := HORD.out
          obtain ⟨by', oy', rfl, hby, o0⟩ := u8_at hrowy HE5.out kk hko
          obtain ⟨ov, hov⟩ : ∃ ov : UInt8, ov = ord[kk] := ⟨_, rfl⟩
          rw [← hov] at o0
          have hk0 : (0 : Int) ≤ (kk : Int) := by omega
          have hk1 : (kk : Int) < (ord.length : Int) := by omega
          obtain ⟨ai', hai⟩ : ∃ ai', ai' = ov.toNat % m := ⟨_, rfl⟩
          have hai2 : ai' < m := by rw [hai]; exact Nat.mod_lt _ (by omega)
          have hmod : ((wrap64 (ov.toNat : Int)).tmod (m : Int)) = (ai' : Int) := by rw [show wrap64 (ov.toNat : Int) = (ov.toNat : Int) by (have := ov.toNat_lt; unfold wrap64; omega), hai]; rfl
          have hmz : ¬ (m : Int) = 0 := by omega
          clear hov hrowy hai hby
          go_wp2_with fail
          go_meet
          case rel => exact ⟨_, rfl, hai2, rfl⟩
        case neg =>
          have hk1 : ¬ (kk : Int) < (ord.length : Int) := by omega
          go_wp2_with fail
          go_meet
          case rel => exact ⟨0, rfl, by omega, rfl⟩
      case rest =>
      obtain ⟨q, rfl, hqm, hwc⟩ := hcut
      obtain rfl : w5 = _ := hwc.symm
      have hqp : q < pend.length := by have := HMPL.out; omega
      obtain ⟨B, off, rfl, hB, c0, -⟩ := int_at HF5.out.row (Ext.refl _) q (by unfold leftB; rw [List.length_map]; exact hqp)
      obtain ⟨j, hj⟩ : ∃ j, j = pend[q] := ⟨_, rfl⟩
      have hjn : j < n := by rw [hj]; exact HP.out.2 _ (List.getElem_mem _)
      obtain ⟨I, hI⟩ : ∃ I, I = M + 1 + j := ⟨_, rfl⟩
      rw [show (leftB M pend)[q]'(by unfold leftB; rw [List.length_map]; exact hqp) = (I : Int) by unfold leftB; rw [List.getElem_map, ← hj, ← hI]] at c0
      have HJ := Lib.hid hj
      have HI := Lib.hid hI
      clear hj hI
      have HIn : Hid (inputF (openO ins os (stB ins pend)) (I : Int) = some (ins[j]'(by rw [← HNI.out]; exact hjn) :: os.map numT)) := Lib.hid (by
        have := input_open (i := j) ins os (stB ins pend) (by rw [← HNI.out]; exact hjn)
        rw [show os.length + 2 + j = I by rw [HI.out, HM.out]; omega] at this
        exact this)
      go_wp2_with fail
      refine (finput_any (openO ins os (stB ins pend)) (I : Int) (fun x hx => HLight.out x hx) _ _ HH5.out.row).mono ?_
      rintro e w6 ⟨A4, m4, c4, b4, rfl, hE6, hyes, -⟩
      obtain ⟨rfl, ho4⟩ := hyes _ HIn.out
      have hjl : j < ins.length := by rw [← HNI.out]; exact hjn
      have HO6 := Lib.hid ho4
      obtain ⟨G, rfl, hG1, hG2, hm4, k0, n0, s0, a0, m0, c00, q0, q1, q2, q3, hT⟩ := ownL_at ho4 (i := 0) (by simp)
      obtain rfl : M = m4 := by rw [hm4, HMK.out]; simp [HKl.out]
      simp only [Nat.zero_mul, Nat.zero_add] at q0 q1 q2 q3
      obtain ⟨bi, oi, k1, n1, s1, a1, m1, c1, rfl, hbi, hci, hLj⟩ := liesS_at HIN2.out hjl
      have HT6 : Hid (OwnT 44 w6 w5.heap.size (ins[j]'hjl) (.agg #[.int .u8 k0, .int .i64 n0, .string s0, .slice a0 m0 c00])) := Lib.hid hT
      have HLj := Lib.hid hLj
      have hg6 : g < w6.heap.size := Nat.lt_of_lt_of_le hg5 hE6.size
      have HE6 := Lib.hid (HE5.out.trans hE6)
      have HH6 := Lib.hid (HH5.out.ext hE6)
      have HF6 := Lib.hid (HF5.out.ext hE6)
      have HS6 : Hid (∀ wx, Ext w6 wx → (wx.cell? ⟨G, 0, none⟩ = some (.int .u8 k0) ∧ wx.cell? ⟨G, 1, none⟩ = some (.int .i64 n0) ∧ wx.cell? ⟨G, 2, none⟩ = some (.string s0) ∧ wx.cell? ⟨G, 3, none⟩ = some (.slice a0 m0 c00) ∧ wx.cell? ⟨bi, oi + j * 4, none⟩ = some (.int .u8 k1) ∧ wx.cell? ⟨bi, oi + j * 4 + 1, none⟩ = some (.int .i64 n1) ∧ wx.cell? ⟨bi, oi + j * 4 + 2, none⟩ = some (.string s1) ∧ wx.cell? ⟨bi, oi + j * 4 + 3, none⟩ = some (.slice a1 m1 c1))) := Lib.hid (fun wx hx => by
        obtain ⟨r0, r1, r2, r3⟩ := hci wx (HE6.out.trans hx)
        exact ⟨(hx.cell hG2).trans q0, (hx.cell hG2).trans q1, (hx.cell hG2).trans q2, (hx.cell hG2).trans q3, r0, r1, r2, r3⟩)
      have hw1 : IntKind.i64.wrap (1 + (K : Int)) = (M : Int) := by rw [IntWalk.i64_in _ (by omega)]; have := HMK.out; omega
      have hw2 : IntKind.i64.wrap ((I : Int) - (M : Int)) = ((j + 1 : Nat) : Int) := by rw [IntWalk.i64_in _ (by have := HI.out; omega)]; have := HI.out; omega
      have hw3 : IntKind.i64.wrap (((j + 1 : Nat) : Int) - 1) = (j : Int) := by rw [IntWalk.i64_in _ (by omega)]; omega
      have hw6 : IntKind.i64.wrap (j : Int) = (j : Int) := IntWalk.i64_in _ (by omega)
      have hM0 : 0 < M := by have := HMK.out; omega
      clear hyes ho4 hG1 hm4 q0 q1 q2 q3 hT hLj hci hE6 HH5 HE5 HF5 HIn c0
      go_upto_region 25 with (fail)
      have ED := Lib.hid (Ext.refl w6).drew
      refine wp_region_held_drew (S := (fun w' => w'.cell? ⟨G, 0, none⟩ = some (.int .u8 k0) ∧ w'.cell? ⟨G, 1, none⟩ = some (.int .i64 n0) ∧ w'.cell? ⟨G, 2, none⟩ = some (.string s0) ∧ w'.cell? ⟨G, 3, none⟩ = some (.slice a0 m0 c00) ∧ w'.cell? ⟨bi, oi + j * 4, none⟩ = some (.int .u8 k1) ∧ w'.cell? ⟨bi, oi + j * 4 + 1, none⟩ = some (.int .i64 n1) ∧ w'.cell? ⟨bi, oi + j * 4 + 2, none⟩ = some (.string s1) ∧ w'.cell? ⟨bi, oi + j * 4 + 3, none⟩ = some (.slice a1 m1 c1))) (by kernel_rfl) ?_ (fun hHeld => ?_)
      · (try dsimp only)
        (first | exact HS6.out _ ED.out | exact HS6.out _ E1.out)
      refine take_w 0 (some 97) (v := ?_) (by kernel_rfl) (by kernel_rfl) (by kernel_rfl) (by kernel_rfl) (by kernel_rfl) (fun _ _ _ h => h) (by rfl) ?_ (by assumption) ?_
      rotate_left
      · (intro w hSw; (try dsimp only at hSw); go_simp; try with_reducible rfl)
      try simp only [Act.put, List.setIfInBounds_toArray, List.set_cons_zero, List.set_cons_succ]
      refine take_w 1 (some 98) (v := ?_) (by kernel_rfl) (by kernel_rfl) (by kernel_rfl) (by kernel_rfl) (by kernel_rfl) (fun _ _ _ h => h) (by rfl) ?_ (by assumption) ?_
      rotate_left
      · (intro w hSw; (try dsimp only at hSw); go_simp; try with_reducible rfl)
      try simp only [Act.put, List.setIfInBounds_toArray, List.set_cons_zero, List.set_cons_succ]
      refine take_w 2 (some 99) (v := ?_) (by kernel_rfl) (by kernel_rfl) (by kernel_rfl) (by kernel_rfl) (by kernel_rfl) (fun _ _ _ h => h) (by rfl) ?_ (by assumption) ?_
      rotate_left
      · (intro w hSw; (try dsimp only at hSw); go_simp; try with_reducible rfl)
      try simp only [Act.put, List.setIfInBounds_toArray, List.set_cons_zero, List.set_cons_succ]
      refine take_w 3 (some 100) (v := ?_) (by kernel_rfl) (by kernel_rfl) (by kernel_rfl) (by kernel_rfl) (by kernel_rfl) (fun _ _ _ h => h) (by rfl) ?_ (by assumption) ?_
      rotate_left
      · (intro w hSw; (try dsimp only at hSw); go_simp; try with_reducible rfl)
      try simp only [Act.put, List.setIfInBounds_toArray, List.set_cons_zero, List.set_cons_succ]
      refine take_w 4 (some 101) (v := ?_) (by kernel_rfl) (by kernel_rfl) (by kernel_rfl) (by kernel_rfl) (by kernel_rfl) (fun _ _ _ h => h) (by rfl) ?_ (by assumption) ?_
      rotate_left
      · (intro w hSw; (try dsimp only at hSw); go_simp; try with_reducible rfl)
      try simp only [Act.put, List.setIfInBounds_toArray, List.set_cons_zero, List.set_cons_succ]
      refine take_w 5 (some 102) (v := ?_) (by kernel_rfl) (by kernel_rfl) (by kernel_rfl) (by kernel_rfl) (by kernel_rfl) (fun _ _ _ h => h) (by rfl) ?_ (by assumption) ?_
      rotate_left
      · (intro w hSw; (try dsimp only at hSw); go_simp; try with_reducible rfl)
      try simp only [Act.put, List.setIfInBounds_toArray, List.set_cons_zero, List.set_cons_succ]
      refine take_w 6 (some 103) (v := ?_) (by kernel_rfl) (by kernel_rfl) (by kernel_rfl) (by kernel_rfl) (by kernel_rfl) (fun _ _ _ h => h) (by rfl) ?_ (by assumption) ?_
      rotate_left
      · (intro w hSw; (try dsimp only at hSw); go_simp; try with_reducible rfl)
      try simp only [Act.put, List.setIfInBounds_toArray, List.set_cons_zero, List.set_cons_succ]
      refine take_w 7 (some 104) (v := ?_) (by kernel_rfl) (by kernel_rfl) (by kernel_rfl) (by kernel_rfl) (by kernel_rfl) (fun _ _ _ h => h) (by rfl) ?_ (by assumption) ?_
      rotate_left
      · (intro w hSw; (try dsimp only at hSw); go_simp; try with_reducible rfl)
      try simp only [Act.put, List.setIfInBounds_toArray, List.set_cons_zero, List.set_cons_succ]
      refine take_w 8 (some 105) (v := ?_) (by kernel_rfl) (by kernel_rfl) (by kernel_rfl) (by kernel_rfl) (by kernel_rfl) (fun _ _ _ h => h) (by rfl) ?_ (by assumption) ?_
      rotate_left
      · (intro w hSw; (try dsimp only at hSw); go_simp; try with_reducible rfl)
      try simp only [Act.put, List.setIfInBounds_toArray, List.set_cons_zero, List.set_cons_succ]
      refine take_w 9 (some 106) (v := ?_) (by kernel_rfl) (by kernel_rfl) (by kernel_rfl) (by kernel_rfl) (by kernel_rfl) (fun _ _ _ h => h) (by rfl) ?_ (by assumption) ?_
      rotate_left
      · (intro w hSw; (try dsimp only at hSw); go_simp; try with_reducible rfl)
      try simp only [Act.put, List.setIfInBounds_toArray, List.set_cons_zero, List.set_cons_succ]
      refine take_w 10 (some 107) (v := ?_) (by kernel_rfl) (by kernel_rfl) (by kernel_rfl) (by kernel_rfl) (by kernel_rfl) (fun _ _ _ h => h) (by rfl) ?_ (by assumption) ?_
      rotate_left
      · (intro w hSw; (try dsimp only at hSw); go_simp; try with_reducible rfl)
      try simp only [Act.put, List.setIfInBounds_toArray, List.set_cons_zero, List.set_cons_succ]
      refine take_w 11 (some 108) (v := ?_) (by kernel_rfl) (by kernel_rfl) (by kernel_rfl) (by kernel_rfl) (by kernel_rfl) (fun _ _ _ h => h) (by rfl) ?_ (by assumption) ?_
      rotate_left
      · (intro w hSw; (try dsimp only at hSw); go_simp; try with_reducible rfl)
      try simp only [Act.put, List.setIfInBounds_toArray, List.set_cons_zero, List.set_cons_succ]
      refine take_w 12 (some 109) (v := ?_) (by kernel_rfl) (by kernel_rfl) (by kernel_rfl) (by kernel_rfl) (by kernel_rfl) (fun _ _ _ h => h) (by rfl) ?_ (by assumption) ?_
      rotate_left
      · (intro w hSw; (try dsimp only at hSw); go_simp; try with_reducible rfl)
      try simp only [Act.put, List.setIfInBounds_toArray, List.set_cons_zero, List.set_cons_succ]
      refine take_w 13 (some 110) (v := ?_) (by kernel_rfl) (by kernel_rfl) (by kernel_rfl) (by kernel_rfl) (by kernel_rfl) (fun _ _ _ h => h) (by rfl) ?_ (by assumption) ?_
      rotate_left
      · (intro w hSw; (try dsimp only at hSw); go_simp; try with_reducible rfl)
      try simp only [Act.put, List.setIfInBounds_toArray, List.set_cons_zero, List.set_cons_succ]
      refine take_w 14 (some 111) (v := ?_) (by kernel_rfl) (by kernel_rfl) (by kernel_rfl) (by kernel_rfl) (by kernel_rfl) (fun _ _ _ h => h) (by rfl) ?_ (by assumption) ?_
      rotate_left
      · (intro w hSw; (try dsimp only at hSw); go_simp; try with_reducible rfl)
      try simp only [Act.put, List.setIfInBounds_toArray, List.set_cons_zero, List.set_cons_succ]
      refine take_w 15 (some 112) (v := ?_) (by kernel_rfl) (by kernel_rfl) (by kernel_rfl) (by kernel_rfl) (by kernel_rfl) (fun _ _ _ h => h) (by rfl) ?_ (by assumption) ?_
      rotate_left
      · (intro w hSw; (try dsimp only at hSw); go_simp; try with_reducible rfl)
      try simp only [Act.put, List.setIfInBounds_toArray, List.set_cons_zero, List.set_cons_succ]
      refine take_w 16 (some 113) (v := ?_) (by kernel_rfl) (by kernel_rfl) (by kernel_rfl) (by kernel_rfl) (by kernel_rfl) (fun _ _ _ h => h) (by rfl) ?_ (by assumption) ?_
      rotate_left
      · (intro w hSw; (try dsimp only at hSw); go_simp; try with_reducible rfl)
      try simp only [Act.put, List.setIfInBounds_toArray, List.set_cons_zero, List.set_cons_succ]
      refine take_w 17 (some 114) (v := ?_) (by kernel_rfl) (by kernel_rfl) (by kernel_rfl) (by kernel_rfl) (by kernel_rfl) (fun _ _ _ h => h) (by rfl) ?_ (by assumption) ?_
      rotate_left
      · (intro w hSw; (try dsimp only at hSw); go_simp; try with_reducible rfl)
      try simp only [Act.put, List.setIfInBounds_toArray, List.set_cons_zero, List.set_cons_succ]
      refine take_w 18 (some 115) (v := ?_) (by kernel_rfl) (by kernel_rfl) (by kernel_rfl) (by kernel_rfl) (by kernel_rfl) (fun _ _ _ h => h) (by rfl) ?_ (by assumption) ?_
      rotate_left
      · (intro w hSw; (try dsimp only at hSw); go_simp; try with_reducible rfl)
      try simp only [Act.put, List.setIfInBounds_toArray, List.set_cons_zero, List.set_cons_succ]
      refine take_w 19 (some 116) (v := ?_) (by kernel_rfl) (by kernel_rfl) (by kernel_rfl) (by kernel_rfl) (by kernel_rfl) (fun _ _ _ h => h) (by rfl) ?_ (by assumption) ?_
      rotate_left
      · (intro w hSw; (try dsimp only at hSw); go_simp; try with_reducible rfl)
      try simp only [Act.put, List.setIfInBounds_toArray, List.set_cons_zero, List.set_cons_succ]
      refine take_w 20 (some 117) (v := ?_) (by kernel_rfl) (by kernel_rfl) (by kernel_rfl) (by kernel_rfl) (by kernel_rfl) (fun _ _ _ h => h) (by rfl) ?_ (by assumption) ?_
      rotate_left
      · (intro w hSw; (try dsimp only at hSw); go_simp; try with_reducible rfl)
      try simp only [Act.put, List.setIfInBounds_toArray, List.set_cons_zero, List.set_cons_succ]
      refine ready_one 21 (by kernel_rfl) (by kernel_rfl) (by rfl) (fun Kc hKc => ?_)
      go_simp
      refine (vsame_any (ins[j]'hjl) (ins[j]'hjl) _ _ _ (HT6.out.lies.ext ED.out) (HLj.out.ext (HE6.out.trans ED.out))).mono ?_
      rintro e y1 ⟨rfl, hE4⟩
      rw [eqT_self]
      have E1 := Lib.hid (ED.out.trans hE4)
      clear hE4
      try go_wp2_with fail
      refine hKc.out _ _ ?_ (fun hHeld => ?_)
      · (try dsimp only)
        (first | exact HS6.out _ ED.out | exact HS6.out _ E1.out)
      clear hKc Kc
      try simp only [Act.put, List.setIfInBounds_toArray, List.set_cons_zero, List.set_cons_succ]
      refine take_w 22 (some 119) (v := ?_) (by kernel_rfl) (by kernel_rfl) (by kernel_rfl) (by kernel_rfl) (by kernel_rfl) (fun _ _ _ h => h) (by rfl) ?_ (by assumption) ?_
      rotate_left
      · (intro w hSw; (try dsimp only at hSw); go_simp; try with_reducible rfl)
      try simp only [Act.put, List.setIfInBounds_toArray, List.set_cons_zero, List.set_cons_succ]
      refine take_w 23 (some 120) (v := ?_) (by kernel_rfl) (by kernel_rfl) (by kernel_rfl) (by kernel_rfl) (by kernel_rfl) (fun _ _ _ h => h) (by rfl) ?_ (by assumption) ?_
      rotate_left
      · (intro w hSw; (try dsimp only at hSw); go_simp; try with_reducible rfl)
      try simp only [Act.put, List.setIfInBounds_toArray, List.set_cons_zero, List.set_cons_succ]
      refine wpAnyH_done (by kernel_rfl) ?_ _
      clear hw1 hw2 hw3 hw6
      go_wp2_with fail
      go_loopw [123] (fun i wr => ∃ q3 : Nat, q3 ≤ K ∧ i = .int .i64 q3 ∧ Hid (Ext w6 wr)) (fun i _ => K - (intOf i).toNat)
      case atStart => exact ⟨0, by omega, rfl, E1⟩
      case round =>
        obtain ⟨q3, hq3, rfl, HX⟩ := hrel
        by_cases hlt : q3 < K
        case pos =>
          have hlos : q3 < os.length := by rw [HKl.out]; exact hlt
          obtain ⟨bo, oo, rfl, hbo, co0, ho64⟩ := int_at HRO.out (HE6.out.trans HX.out) q3 hlos
          obtain ⟨xo, hxo⟩ : ∃ xo, xo = os[q3] := ⟨_, rfl⟩
          rw [← hxo] at co0 ho64
          obtain ⟨G', e', -, hG2', -, k2, n2, s2, a2, m2, c2, p0, p1, p2, p3, hTk⟩ := ownL_at HO6.out (i := q3 + 1) (by simp; omega)
          obtain rfl : G = G' := by injection e' with e'; injection e'
          obtain ⟨r, hr⟩ : ∃ r, r = q3 + 1 := ⟨_, rfl⟩
          rw [← hr] at p0 p1 p2 p3
          have HTk : Hid (Lies w6 (numT xo) (.agg #[.int .u8 k2, .int .i64 n2, .string s2, .slice a2 m2 c2])) := Lib.hid (by
            have h := hTk.lies
            rw [List.getElem_cons_succ, List.getElem_map, ← hxo] at h
            exact h)
          have HS3 : Hid (∀ wx, Ext w6 wx → (wx.cell? ⟨G, r * 4, none⟩ = some (.int .u8 k2) ∧ wx.cell? ⟨G, r * 4 + 1, none⟩ = some (.int .i64 n2) ∧ wx.cell? ⟨G, r * 4 + 2, none⟩ = some (.string s2) ∧ wx.cell? ⟨G, r * 4 + 3, none⟩ = some (.slice a2 m2 c2))) := Lib.hid (fun wx hx => ⟨(hx.cell hG2).trans p0, (hx.cell hG2).trans p1, (hx.cell hG2).trans p2, (hx.cell hG2).trans p3⟩)
          have hw4 : IntKind.i64.wrap (1 + (q3 : Int)) = (r : Int) := by rw [IntWalk.i64_in _ (by omega)]; omega
          have hqM : r < M := by have := HMK.out; omega
          clear e' hG2' p0 p1 p2 p3 hTk hxo hlos hr
          go_upto_region 30 with (fail)
          clear co0
          have ED3 := Lib.hid HX.out.drew
          refine wp_region_held_drew (S := (fun w' => w'.cell? ⟨G, r * 4, none⟩ = some (.int .u8 k2) ∧ w'.cell? ⟨G, r * 4 + 1, none⟩ = some (.int .i64 n2) ∧ w'.cell? ⟨G, r * 4 + 2, none⟩ = some (.string s2) ∧ w'.cell? ⟨G, r * 4 + 3, none⟩ = some (.slice a2 m2 c2))) (by kernel_rfl) ?_ (fun hHeld => ?_)
          · (try dsimp only)
            (first | exact HS3.out _ ED3.out | exact HS3.out _ E3.out | exact HS3.out _ E4.out)
          refine take_w 0 (some 128) (v := ?_) (by kernel_rfl) (by kernel_rfl) (by kernel_rfl) (by kernel_rfl) (by kernel_rfl) (fun _ _ _ h => h) (by rfl) ?_ (by assumption) ?_
          rotate_left
          · (intro w hSw; (try dsimp only at hSw); go_simp; try with_reducible rfl)
          try simp only [Act.put, List.setIfInBounds_toArray, List.set_cons_zero, List.set_cons_succ]
          refine take_w 1 (some 129) (v := ?_) (by kernel_rfl) (by kernel_rfl) (by kernel_rfl) (by kernel_rfl) (by kernel_rfl) (fun _ _ _ h => h) (by rfl) ?_ (by assumption) ?_
          rotate_left
          · (intro w hSw; (try dsimp only at hSw); go_simp; try with_reducible rfl)
          try simp only [Act.put, List.setIfInBounds_toArray, List.set_cons_zero, List.set_cons_succ]
          refine take_w 2 (some 130) (v := ?_) (by kernel_rfl) (by kernel_rfl) (by kernel_rfl) (by kernel_rfl) (by kernel_rfl) (fun _ _ _ h => h) (by rfl) ?_ (by assumption) ?_
          rotate_left
          · (intro w hSw; (try dsimp only at hSw); go_simp; try with_reducible rfl)
          try simp only [Act.put, List.setIfInBounds_toArray, List.set_cons_zero, List.set_cons_succ]
          refine take_w 3 (some 131) (v := ?_) (by kernel_rfl) (by kernel_rfl) (by kernel_rfl) (by kernel_rfl) (by kernel_rfl) (fun _ _ _ h => h) (by rfl) ?_ (by assumption) ?_
          rotate_left
          · (intro w hSw; (try dsimp only at hSw); go_simp; try with_reducible rfl)
          try simp only [Act.put, List.setIfInBounds_toArray, List.set_cons_zero, List.set_cons_succ]
          refine take_w 4 (some 132) (v := ?_) (by kernel_rfl) (by kernel_rfl) (by kernel_rfl) (by kernel_rfl) (by kernel_rfl) (fun _ _ _ h => h) (by rfl) ?_ (by assumption) ?_
          rotate_left
          · (intro w hSw; (try dsimp only at hSw); go_simp; try with_reducible rfl)
          try simp only [Act.put, List.setIfInBounds_toArray, List.set_cons_zero, List.set_cons_succ]
          refine take_w 5 (some 133) (v := ?_) (by kernel_rfl) (by kernel_rfl) (by kernel_rfl) (by kernel_rfl) (by kernel_rfl) (fun _ _ _ h => h) (by rfl) ?_ (by assumption) ?_
          rotate_left
          · (intro w hSw; (try dsimp only at hSw); go_simp; try with_reducible rfl)
          try simp only [Act.put, List.setIfInBounds_toArray, List.set_cons_zero, List.set_cons_succ]
          refine ready_one 6 (by kernel_rfl) (by kernel_rfl) (by rfl) (fun Kc hKc => ?_)
          go_simp
          refine (num18_any xo _).mono ?_
          rintro e y3 ⟨rfl, hE4⟩
          have E3 := Lib.hid (ED3.out.trans hE4)
          clear hE4
          try go_wp2_with fail
          refine hKc.out _ _ ?_ (fun hHeld => ?_)
          · (try dsimp only)
            (first | exact HS3.out _ ED3.out | exact HS3.out _ E3.out | exact HS3.out _ E4.out)
          clear hKc Kc
          try simp only [Act.put, List.setIfInBounds_toArray, List.set_cons_zero, List.set_cons_succ]
          refine ready_one 7 (by kernel_rfl) (by kernel_rfl) (by rfl) (fun Kc hKc => ?_)
          go_simp
          refine (vsame_any (numT xo) (numT xo) _ _ _ (HTk.out.ext E3.out) (num18_own ho64 _ 0).lies).mono ?_
          rintro e y4 ⟨rfl, hE4⟩
          rw [eqT_self]
          have E4 := Lib.hid (E3.out.trans hE4)
          clear hE4
          try go_wp2_with fail
          refine hKc.out _ _ ?_ (fun hHeld => ?_)
          · (try dsimp only)
            (first | exact HS3.out _ ED3.out | exact HS3.out _ E3.out | exact HS3.out _ E4.out)
          clear hKc Kc
          try simp only [Act.put, List.setIfInBounds_toArray, List.set_cons_zero, List.set_cons_succ]
          refine take_w 8 (some 136) (v := ?_) (by kernel_rfl) (by kernel_rfl) (by kernel_rfl) (by kernel_rfl) (by kernel_rfl) (fun _ _ _ h => h) (by rfl) ?_ (by assumption) ?_
          rotate_left
          · (intro w hSw; (try dsimp only at hSw); go_simp; try with_reducible rfl)
          try simp only [Act.put, List.setIfInBounds_toArray, List.set_cons_zero, List.set_cons_succ]
          refine wpAnyH_done (by kernel_rfl) ?_ _
          clear hw4
          go_wp2
          go_roundw
          case rel => exact ⟨q3 + 1, by omega, by go_num, E4⟩
          case measure => simp [intOf]; omega
        obtain rfl : K = q3 := by omega
        clear E1 ED hlt hq3
        have hLIn : I < LN := by have := HLNe.out; have := HI.out; omega
        have hLI : I < (openO ins os (stB ins pend)).length := by rw [← hLl.out pend]; exact hLIn
        have hH : HeldN 46 w1.heap.size wr (.slice (some ⟨g, 0, none⟩) (openO ins os (stB ins pend)).length cl) (openO ins os (stB ins pend)) := by rw [← hLl.out pend]; exact HH6.out.ext HX.out
        have ⟨⟨u9, c9⟩, f9⟩ := hH.spot hLI 9 (by omega)
        have ⟨⟨u12, c12⟩, f12⟩ := hH.spot hLI 12 (by omega)
        have ⟨⟨u13, c13⟩, f13⟩ := hH.spot hLI 13 (by omega)
        have ⟨⟨u14, c14⟩, f14⟩ := hH.spot hLI 14 (by omega)
        have ⟨⟨u15, c15⟩, f15⟩ := hH.spot hLI 15 (by omega)
        obtain ⟨HH8, hgr⟩ : Hid (HeldN 46 w1.heap.size (((((wr.setCell ⟨g, I * 16 + 9, none⟩ (.int .u8 4)).setCell ⟨g, I * 16 + 12, none⟩ (.int .u8 k0)).setCell ⟨g, I * 16 + 12 + 1, none⟩ (.int .i64 n0)).setCell ⟨g, I * 16 + 12 + 2, none⟩ (.string s0)).setCell ⟨g, I * 16 + 12 + 3, none⟩ (.slice a0 m0 c00)) (.slice (some ⟨g, 0, none⟩) LN cl) (openO ins os (stB ins (pend.take q ++ pend.drop (q + 1))))) ∧ wr.grownBy (((((wr.setCell ⟨g, I * 16 + 9, none⟩ (.int .u8 4)).setCell ⟨g, I * 16 + 12, none⟩ (.int .u8 k0)).setCell ⟨g, I * 16 + 12 + 1, none⟩ (.int .i64 n0)).setCell ⟨g, I * 16 + 12 + 2, none⟩ (.string s0)).setCell ⟨g, I * 16 + 12 + 3, none⟩ (.slice a0 m0 c00)) (some g) := by
          obtain ⟨p3, p4⟩ := held_done hH hLI (ins[j]'hjl) (.int .u8 k0) (.int .i64 n0) (.string s0) (.slice a0 m0 c00) (fun w' hw' => HT6.out.farL hg5 w' (grown_trans (grown_ext HX.out (some g)) hw'))
          rw [openO_set (ins := ins) (os := os) (pend := pend) hqp HP.out.1 hjl HJ.out.symm (I := I) (by rw [HI.out, HM.out]) hLI, ← hLl.out pend] at p3
          exact ⟨Lib.hid p3, p4⟩
        have HE8 := Lib.hid ((HE6.out.trans HX.out).grown hgr (fun k hk => by injection hk with hk; omega))
        have HF8 := Lib.hid (HF6.out.then (grown_trans (grown_ext HX.out _) hgr) (.inl rfl))
        have hg8 : g < (((((wr.setCell ⟨g, I * 16 + 9, none⟩ (.int .u8 4)).setCell ⟨g, I * 16 + 12, none⟩ (.int .u8 k0)).setCell ⟨g, I * 16 + 12 + 1, none⟩ (.int .i64 n0)).setCell ⟨g, I * 16 + 12 + 2, none⟩ (.string s0)).setCell ⟨g, I * 16 + 12 + 3, none⟩ (.slice a0 m0 c00)).heap.size := by have h1 := hgr.size; have h2 := HX.out.size; exact Nat.lt_of_lt_of_le hg6 (Nat.le_trans h2 h1)
        obtain ⟨d0, d1, d2, d3, -⟩ := HS6.out wr HX.out
        clear hH hgr HX HH6 HE6 HF6 HS6
        go_upto_region 34 with (fail)
        clear c9 f9 c12 f12 c13 f13 c14 f14 c15 f15 d0 d1 d2 d3
        generalize ((((wr.setCell ⟨g, I * 16 + 9, none⟩ (.int .u8 4)).setCell ⟨g, I * 16 + 12, none⟩ (.int .u8 k0)).setCell ⟨g, I * 16 + 12 + 1, none⟩ (.int .i64 n0)).setCell ⟨g, I * 16 + 12 + 2, none⟩ (.string s0)).setCell ⟨g, I * 16 + 12 + 3, none⟩ (.slice a0 m0 c00) = w8 at *
        obtain ⟨hmm, hmC, hC2, AD, hAD, ht, hd⟩ := left_parts HF8.out.row (q := q) (by unfold leftB; rw [List.length_map]; exact hqp)
        have hll : (leftB M pend).length = pend.length := by unfold leftB; rw [List.length_map]
        have hs1 := slice_int_full (some ⟨B, off, none⟩) m C q (by omega)
        have hs2 := slice_int_from (some ⟨B, off, none⟩) m C (q + 1) (by omega)
        rw [hAD] at hs2
        obtain ⟨q1, hq1⟩ : ∃ q1, q1 = q + 1 := ⟨_, rfl⟩
        have hw5 : IntKind.i64.wrap ((q : Int) + 1) = (q1 : Int) := by rw [IntWalk.i64_in _ (by omega)]; omega
        have Ht := Lib.hid ht
        have Hd := Lib.hid hd
        have Hll := Lib.hid hll
        have Hq1 := Lib.hid hq1
        rw [← hq1] at hs2
        obtain ⟨mr, hmr⟩ : ∃ mr, mr = m - q1 := ⟨_, rfl⟩
        obtain ⟨cr, hcr⟩ : ∃ cr, cr = C - q1 := ⟨_, rfl⟩
        rw [← hmr, ← hcr] at hs2
        have Hmr := Lib.hid hmr
        clear ht hd hAD hll hmm hcr hmr hq1
        have ED := Lib.hid (Ext.refl w8).drew
        refine wp_region_held_drew (S := (fun _ => True)) (by kernel_rfl) ?_ (fun hHeld => ?_)
        · (try dsimp only)
          all_goals trivial
        refine take_w 0 (some 149) (v := ?_) (by kernel_rfl) (by kernel_rfl) (by kernel_rfl) (by kernel_rfl) (by kernel_rfl) (fun _ _ _ h => h) (by rfl) ?_ (by assumption) ?_
        rotate_left
        · (intro w hSw; (try dsimp only at hSw); go_simp; try with_reducible rfl)
        try simp only [Act.put, List.setIfInBounds_toArray, List.set_cons_zero, List.set_cons_succ]
        refine take_w 1 (some 150) (v := ?_) (by kernel_rfl) (by kernel_rfl) (by kernel_rfl) (by kernel_rfl) (by kernel_rfl) (fun _ _ _ h => h) (by rfl) ?_ (by assumption) ?_
        rotate_left
        · (intro w hSw; (try dsimp only at hSw); go_simp; try with_reducible rfl)
        try simp only [Act.put, List.setIfInBounds_toArray, List.set_cons_zero, List.set_cons_succ]
        refine take_w 2 (some 151) (v := ?_) (by kernel_rfl) (by kernel_rfl) (by kernel_rfl) (by kernel_rfl) (by kernel_rfl) (fun _ _ _ h => h) (by rfl) ?_ (by assumption) ?_
        rotate_left
        · (intro w hSw; (try dsimp only at hSw); go_simp; try with_reducible rfl)
        try simp only [Act.put, List.setIfInBounds_toArray, List.set_cons_zero, List.set_cons_succ]
        refine take_w 3 (some 152) (v := ?_) (by kernel_rfl) (by kernel_rfl) (by kernel_rfl) (by kernel_rfl) (by kernel_rfl) (fun _ _ _ h => h) (by rfl) ?_ (by assumption) ?_
        rotate_left
        · (intro w hSw; (try dsimp only at hSw); go_simp; try with_reducible rfl)
        try simp only [Act.put, List.setIfInBounds_toArray, List.set_cons_zero, List.set_cons_succ]
        refine take_w 4 (some 153) (v := ?_) (by kernel_rfl) (by kernel_rfl) (by kernel_rfl) (by kernel_rfl) (by kernel_rfl) (fun _ _ _ h => h) (by rfl) ?_ (by assumption) ?_
        rotate_left
        · (intro w hSw; (try dsimp only at hSw); go_simp; try with_reducible rfl)
        try simp only [Act.put, List.setIfInBounds_toArray, List.set_cons_zero, List.set_cons_succ]
        refine take_w 5 (some 154) (v := ?_) (by kernel_rfl) (by kernel_rfl) (by kernel_rfl) (by kernel_rfl) (by kernel_rfl) (fun _ _ _ h => h) (by rfl) ?_ (by assumption) ?_
        rotate_left
        · (intro w hSw; (try dsimp only at hSw); go_simp; try with_reducible rfl)
        try simp only [Act.put, List.setIfInBounds_toArray, List.set_cons_zero, List.set_cons_succ]
        refine take_w 6 (some 155) (v := ?_) (by kernel_rfl) (by kernel_rfl) (by kernel_rfl) (by kernel_rfl) (by kernel_rfl) (fun _ _ _ h => h) (by rfl) ?_ (by assumption) ?_
        rotate_left
        · (intro w hSw; (try dsimp only at hSw); go_simp; try with_reducible rfl)
        try simp only [Act.put, List.setIfInBounds_toArray, List.set_cons_zero, List.set_cons_succ]
        refine take_w 7 (some 156) (v := ?_) (by kernel_rfl) (by kernel_rfl) (by kernel_rfl) (by kernel_rfl) (by kernel_rfl) (fun _ _ _ h => h) (by rfl) ?_ (by assumption) ?_
        rotate_left
        · (intro w hSw; (try dsimp only at hSw); go_simp; try with_reducible rfl)
        try simp only [Act.put, List.setIfInBounds_toArray, List.set_cons_zero, List.set_cons_succ]
        refine ready_one 8 (by kernel_rfl) (by kernel_rfl) (by rfl) (fun Kc hKc => ?_)
        refine wp_appFull (.tmp 152) (.tmp 156) rfl elemint_F B off q (((leftB M pend).take q).map (Value.int .i64)) rfl (by have := Hll.out; rw [List.length_map, List.length_take]; omega) (Ht.out _ ED.out) AD mr cr (((leftB M pend).drop (q + 1)).map (Value.int .i64)) rfl (by have := Hll.out; have := Hmr.out; have := Hq1.out; have := HMPL.out; rw [List.length_map, List.length_drop]; omega) (Hd.out _ ED.out) (fun u hu => by obtain ⟨i, -, rfl⟩ := List.mem_map.1 hu; rfl) (by unfold maxLen; have := Hmr.out; omega) (by have := Hmr.out; omega) ?_
        intro A7 C7 w9 hE9 hc9
        change Kc (Act.put _ (some 157) _) _
        have HE7 := Lib.hid hE9
        have HF7 : Hid (FarI w9 (some g) (leftB M (pend.take q ++ pend.drop (q + 1))) (.slice A7 (q + mr) C7)) := Lib.hid (by
          have h := (HF8.out.ext ED.out).less (Nat.lt_of_lt_of_le hg8 ED.out.size) (k := q) (m := mr) (by have := Hll.out; omega) (by have := Hll.out; have := Hmr.out; have := Hq1.out; have := HMPL.out; omega) hE9 hc9
          rw [show leftB M (pend.take q ++ pend.drop (q + 1)) = (leftB M pend).take q ++ (leftB M pend).drop (q + 1) by unfold leftB; rw [List.map_append, List.map_take, List.map_drop]]
          exact h)
        clear hc9 hE9
        refine hKc.out _ _ ?_ (fun hHeld => ?_)
        · (try dsimp only)
          all_goals trivial
        clear hKc Kc
        try simp only [Act.put, List.setIfInBounds_toArray, List.set_cons_zero, List.set_cons_succ]
        refine take_w 9 (some 10) (v := ?_) (by kernel_rfl) (by kernel_rfl) (by kernel_rfl) (by kernel_rfl) (by kernel_rfl) (fun _ _ _ h => h) (by rfl) ?_ (by assumption) ?_
        rotate_left
        · (intro w hSw; (try dsimp only at hSw); go_simp; try with_reducible rfl)
        try simp only [Act.put, List.setIfInBounds_toArray, List.set_cons_zero, List.set_cons_succ]
        refine wpAnyH_done (by kernel_rfl) ?_ _
        clear hs1 hs2 hw5
        have HE9 := Lib.hid (HE8.out.trans (ED.out.trans HE7.out))
        have HH9 := Lib.hid (HH8.out.ext (ED.out.trans HE7.out))
        go_wp2
        go_roundw
        case rel => exact ⟨kk + 1, pend.take q ++ pend.drop (q + 1), A7, _, C7, by go_num, rfl, by rw [List.length_append, List.length_take, List.length_drop]; have := Hmr.out; have := Hq1.out; have := HMPL.out; omega, by have := Hmr.out; have := Hq1.out; omega, Lib.hid (back_less HP.out), HE9, HH9, HF7⟩
        case measure => simp [intOf]; omega
end Go.Proofs.YtpcgpcjleedilaaGreatDoor

namespace Fm
open Go Go.RowKit Go.ChangeShapes Go.WideShapes Go.ChangeAt

/-- What the reading of a slice of integers says: as the guide's skeleton has it. -/
def IsRow (k : IntKind) (w : World) (a : Option Addr) (len cap : Nat) (zs : List Int) : Prop :=
  (a = none ∧ len = 0 ∧ cap = 0 ∧ zs = []) ∨
  ∃ x, a = some x ∧ len ≤ cap ∧ cap ≤ maxLen ∧ zs.length = cap ∧ (∀ i, i < zs.length → w.cell? (x.add i) = some (.int k (zs.getD i 0))) ∧ ∀ n ∈ zs, (Lit.int k n).wf = true

theorem u8_of_wf {n : Int} (h : (Lit.int .u8 n).wf = true) : ((UInt8.ofNat n.toNat).toNat : Int) = n := by
  have : 0 ≤ n ∧ n ≤ 255 := by
    simp [Lit.wf, IntKind.min, IntKind.max, IntKind.signed, IntKind.bits] at h
    omega
  rw [toNat_ofNat_lt (by omega)]; omega

theorem i64_of_wf {n : Int} (h : (Lit.int .i64 n).wf = true) : isI64 n := by
  simp [Lit.wf, IntKind.min, IntKind.max, IntKind.signed, IntKind.bits] at h
  unfold isI64; omega

theorem IsRow.bytes {w : World} {a : Option Addr} {len cap : Nat} {zs : List Int} (h : IsRow .u8 w a len cap zs) :
    ∃ xs : List UInt8, xs.length = len ∧ Bytes w (.slice a len cap) xs := by
  rcases h with ⟨rfl, rfl, rfl, rfl⟩ | ⟨x, rfl, hl, hm, hz, hc, hw⟩
  · exact ⟨[], rfl, Bytes.nil w⟩
  · refine ⟨(zs.take len).map fun n => UInt8.ofNat n.toNat, by simp; omega, ?_⟩
    have hlen : ((zs.take len).map fun n => UInt8.ofNat n.toNat).length = len := by simp; omega
    refine ⟨some x, cap, by rw [hlen], by omega, hm, (fun h => by cases h), fun ad had h0 => ?_⟩
    cases had
    have h00 := hc 0 (by omega)
    have e0 : x.add 0 = x := by unfold Addr.add; rw [if_pos rfl]
    rw [e0] at h00
    have hs : x.spot = none := by
      cases hsp : x.spot with
      | none => rfl
      | some s =>
        unfold World.cell? at h00
        cases hb : w.heap[x.block]? with
        | none => rw [hb] at h00; cases h00
        | some o => rw [hb] at h00; cases o <;> simp [hsp] at h00
    refine ⟨hs, World.block_lt_of_cell? w x h00, fun j hj => ?_⟩
    have hj' : j < zs.length := by omega
    have hjl : j < len := by omega
    have hcj := hc j hj'
    have ea : x.add j = ⟨x.block, x.off + j, none⟩ := by
      unfold Addr.add; split
      · obtain ⟨b, o, s⟩ := x; simp at hs ⊢; exact ⟨by omega, hs⟩
      · rw [← hs]
    rw [ea] at hcj
    rw [hcj]
    have hg : zs.getD j 0 = zs[j] := by simp [List.getD, hj']
    have hwf := hw zs[j] (List.getElem_mem hj')
    rw [hg]
    simp [bv, hjl, hj']
    have := u8_of_wf hwf
    simp at this
    exact this.symm
end Fm

open Go.RowKit Go.Shelf
namespace Go.Proofs.YtpcgpcjleedilaaGreatDoor
open Go Go.Proofs Fm

theorem errAt_of {W : World} {n : String} {g g' : Nat} {t : TypeId} {cs : Array Value} {f : Nat} {nm : String} {d : DataW Unit} {p : List MemPlace} (hn : Tryz.prog.globalNamed n = some g') (hty : (Tryz.prog.globals[g']?).map (·.type) = some 92)
    (hg : Tryz.prog.globalNamed n = some g) (ht : (Tryz.prog.globals[g]?).map (·.type) = some t) (hv : W.var? Tryz.prog n = some cs) (hd : DataW.trod (fun _ => ()) Tryz.prog W 0 (fun _ => true) false f t cs.toList = some (.iface nm d, p)) : ErrAt W g' := by
  obtain rfl := Option.some.inj (hn.symm.trans hg)
  obtain rfl := Option.some.inj (hty.symm.trans ht)
  obtain ⟨l⟩ := cs
  obtain ⟨f1, u, v, e, _, _⟩ := iface_of_trod Tryz.underlying92 hd
  subst e
  exact ⟨_, by simpa using World.var?_cell hg hv 0, .inr ⟨u, v, rfl⟩⟩
theorem kw_of {W : World} {g1 g2 g3 : Nat} {t1 t2 t3 : TypeId} {c1 c2 c3 : Array Value} {f1 f2 f3 : Nat} {nm2 nm3 : String} {d2 d3 : DataW Unit} {p1 p2 p3 : List MemPlace}
    (hg1 : Tryz.prog.globalNamed "internal/strconv.uint64pow10" = some g1) (ht1 : (Tryz.prog.globals[g1]?).map (·.type) = some t1) (hv1 : W.var? Tryz.prog "internal/strconv.uint64pow10" = some c1) (hd1 : DataW.trod (fun _ => ()) Tryz.prog W 0 (fun _ => true) false f1 t1 c1.toList = some (Lib.tabData .u64 Lib.pow10Tab, p1))
    (hg2 : Tryz.prog.globalNamed "strconv.ErrSyntax" = some g2) (ht2 : (Tryz.prog.globals[g2]?).map (·.type) = some t2) (hv2 : W.var? Tryz.prog "strconv.ErrSyntax" = some c2) (hd2 : DataW.trod (fun _ => ()) Tryz.prog W 0 (fun _ => true) false f2 t2 c2.toList = some (.iface nm2 d2, p2))
    (hg3 : Tryz.prog.globalNamed "strconv.ErrRange" = some g3) (ht3 : (Tryz.prog.globals[g3]?).map (·.type) = some t3) (hv3 : W.var? Tryz.prog "strconv.ErrRange" = some c3) (hd3 : DataW.trod (fun _ => ()) Tryz.prog W 0 (fun _ => true) false f3 t3 c3.toList = some (.iface nm3 d3, p3)) : KW W := by
  refine ⟨?_, errAt_of (by kernel_rfl) (by kernel_rfl) hg2 ht2 hv2 hd2, errAt_of (by kernel_rfl) (by kernel_rfl) hg3 ht3 hv3 hd3⟩
  have hg : Tryz.prog.globalNamed "internal/strconv.uint64pow10" = some 5 := by kernel_rfl
  have hty : (Tryz.prog.globals[5]?).map (·.type) = some 168 := by kernel_rfl
  obtain rfl := Option.some.inj (hg.symm.trans hg1)
  obtain rfl := Option.some.inj (hty.symm.trans ht1)
  unfold Tab Lib.TabIs
  rw [hv1]
  congr 1
  have h := Lib.cells_of_tab Tryz.underlying168 Tryz.underlying148 (by kernel_rfl) (by kernel_rfl) hd1
  rw [← h]
end Go.Proofs.YtpcgpcjleedilaaGreatDoor

namespace Fm
open Go Go.RowKit Go.ChangeShapes Go.WideShapes Go.ChangeAt

/-- What reads as data of that type lies so. -/
def Elem.Reads {α : Type} (E : Elem α) (P : Program) (T : TypeId) : Prop :=
  ∀ {H : Type} (enc : TypeId × Value → H) (W : World) (base : Nat) (spare : Nat → Bool) (held : Bool) (fuel : Nat) (cs : List Value) (x : DataW H × List MemPlace),
    DataW.trod enc P W base spare held fuel T cs = some x → ∃ a : α, E.R W a (fun j => cs.getD j .nilFunc)
theorem reads_int {P : Program} {T : TypeId} (hT : P.underlying T = some (.int .i64)) : intE.Reads P T := by
  intro H enc W base spare held fuel cs x h
  obtain ⟨n, rfl, -, hw⟩ := DataW.trod_int hT h
  exact ⟨n, rfl, i64_of_wf hw⟩
theorem reads_u8 {P : Program} {T : TypeId} (hT : P.underlying T = some (.int .u8)) : u8E.Reads P T := by
  intro H enc W base spare held fuel cs x h
  obtain ⟨n, rfl, -, hw⟩ := DataW.trod_int hT h
  exact ⟨UInt8.ofNat n.toNat, by show Value.int _ _ = _; rw [u8_of_wf hw]⟩
theorem reads_slice {α : Type} {E : Elem α} {P : Program} {T e : TypeId} (hT : P.underlying T = some (.slice e)) (hsz : P.cellsOf e = E.sz) (hE : E.Reads P e) (hp : 0 < E.sz) : (rowE E).Reads P T := by
  intro H enc W base spare held fuel cs x h
  rcases DataW.trod_slice hT h with ⟨rfl, -⟩ | ⟨a, len, cap, elems, rest, m, hm, rfl, -, hba, hlc, hcm, hel, hat, -, -⟩
  · exact ⟨[], Elem.Row.void E W none⟩
  · have key : ∀ k, k ≤ len → ∃ l : List α, l.length = k ∧ ∀ i (hi : i < l.length), ∃ c : Nat → Value, E.R W l[i] c ∧ ∀ j, j < E.sz → W.cell? ((a.add (i * E.sz)).add j) = some (c j) := by
      intro k
      induction k with
      | zero => exact fun _ => ⟨[], rfl, fun i hi => by simp at hi⟩
      | succ k ih =>
        intro hk
        obtain ⟨l, hl, hr⟩ := ih (by omega)
        have h1 := hat k (by omega)
        rw [hsz, List.getElem?_eq_getElem (by omega)] at h1
        obtain ⟨cs', hc', ht'⟩ := Option.bind_eq_some_iff.1 h1
        obtain ⟨t, ht⟩ := hE enc W base spare held m cs' _ ht'
        obtain ⟨_, hl4, hcell⟩ := World.cells?_some hc'
        refine ⟨l ++ [t], by simp [hl], fun i hi => ?_⟩
        by_cases hik : i < l.length
        · rw [List.getElem_append_left hik]; exact hr i hik
        · have e : i = l.length := by simp at hi; omega
          subst e
          rw [List.getElem_append_right (by omega)]
          simp only [Nat.sub_self, List.getElem_cons_zero]
          refine ⟨_, ht, fun j hj => ?_⟩
          rw [hl, hcell j hj, List.getD_eq_getElem?_getD, List.getElem?_eq_getElem (by omega)]
          rfl
    obtain ⟨l, hl, hr⟩ := key len (Nat.le_refl _)
    refine ⟨l, ?_⟩
    show E.Row W l (.slice (some a) len cap)
    by_cases h0 : len = 0
    · have : l = [] := List.eq_nil_of_length_eq_zero (by omega)
      subst this h0
      exact ⟨some a, cap, rfl, by simp, hcm, (fun h => by cases h), fun _ _ => .nilFunc, fun h => by simp at h, fun i hi => by simp at hi⟩
    · obtain ⟨c, _, h00⟩ := hr 0 (by omega)
      have h00 := h00 0 hp
      rw [Nat.zero_mul] at h00
      have ea : (a.add 0).add 0 = a := by unfold Addr.add; rw [if_pos rfl, if_pos rfl]
      rw [ea] at h00
      have hs0 : a.spot = none := by
        cases hsp : a.spot with
        | none => rfl
        | some s =>
          unfold World.cell? at h00
          cases hb : W.heap[a.block]? with
          | none => rw [hb] at h00; cases h00
          | some o => rw [hb] at h00; cases o <;> simp [hsp] at h00
      obtain ⟨b, off, spot⟩ := a
      simp only at hs0
      subst hs0
      refine Elem.Row.mk hl.symm (by omega) hcm (World.block_lt_of_cell? W _ h00) (fun i hi => ?_)
      obtain ⟨c, h1, h2⟩ := hr i hi
      refine ⟨c, h1, fun j hj => ?_⟩
      have := h2 j hj
      rw [Addr.add_lit, Addr.add_lit, Nat.add_assoc] at this
      exact this
/-- A slice that is handed in. -/
theorem row_of_val {α : Type} {E : Elem α} {P : Program} {T e : TypeId} (hT : P.underlying T = some (.slice e)) (hR : (rowE E).Reads P T)
    {H : Type} {enc : TypeId × Value → H} {W : World} {r : Reach} {b0 base : Nat} {spare : Nat → Bool} {held : Bool} {v : Value} {d : DataW H} {p : List MemPlace} (hv : Value.okWide P W r b0 T v)
    (h : DataW.Trod enc P W base spare held T v d p) : ∃ l, E.Row W l v := by
  obtain ⟨b, n, c, rfl⟩ := okWide_slice hT hv
  obtain ⟨fuel, hf⟩ := h
  obtain ⟨l, hl⟩ := hR enc W base spare held fuel _ _ hf
  exact ⟨l, hl⟩
end Fm
