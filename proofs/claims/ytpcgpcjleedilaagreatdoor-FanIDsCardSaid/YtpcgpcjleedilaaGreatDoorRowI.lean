/- What the laid variables give to the walks of package ident. -/
import Derived.Test.YtpcgpcjleedilaaGreatDoorFaF
import Derived.Test.YtpcgpcjleedilaaGreatDoorPlFj
import Derived.Test.YtpcgpcjleedilaaGreatDoorTake
import Derived.Test.YtpcgpcjleedilaaGreatDoorPlO
import Derived.ProofKit
import Derived.OpenShut
import Derived.ShutString
import Derived.ChangeOld
import Derived.LaidLaws
import Derived.Lib.LaidTab
open Go.RowKit Go.Shelf
namespace Fm
open Go Go.RowKit
/-- Two numbers in a block. -/
theorem liesS_two {w : World} {b : Nat} {x y : Int} {e : TypeId} {fr : Nat × Nat} (hx : isI64 x) (hy : isI64 y) (hb : w.heap[b]? = some (.cells #[.int .u8 0, .int .i64 x, .string { data := #[] }, .slice none 0 0, .int .u8 0, .int .i64 y, .string { data := #[] }, .slice none 0 0] e fr)) :
    LiesS w [numT x, numT y] (.slice (some ⟨b, 0, none⟩) 2 2) := by
  have hl : b < w.heap.size := (Array.getElem?_eq_some_iff.1 hb).1
  refine ⟨_, 2, rfl, by simp, by unfold maxLen; omega, (fun h => by cases h), (fun i j => (#[.int .u8 0, .int .i64 x, .string { data := #[] }, .slice none 0 0, .int .u8 0, .int .i64 y, .string { data := #[] }, .slice none 0 0] : Array Value).getD (i * 4 + j) .nilFunc), fun _ => ⟨b, 0, rfl, hl, fun i j hi hj => ?_⟩, fun i hi => ?_⟩
  · have hi : i < 2 := hi
    unfold World.cell?
    rw [hb]
    rcases (by omega : i = 0 ∨ i = 1) with rfl | rfl <;> rcases (by omega : j = 0 ∨ j = 1 ∨ j = 2 ∨ j = 3) with rfl | rfl | rfl | rfl <;> rfl
  · have hi : i < 2 := hi
    rcases (by omega : i = 0 ∨ i = 1) with rfl | rfl
    · exact (OwnT.mk (e := 0) (base := 0) (k := 0) (s := []) hx (by simp) (OwnL.nil _ _ _)).lies
    · exact (OwnT.mk (e := 0) (base := 0) (k := 0) (s := []) hy (by simp) (OwnL.nil _ _ _)).lies
theorem liesS_one {w : World} {b : Nat} {x : Int} {e : TypeId} {fr : Nat × Nat} (hx : isI64 x) (hb : w.heap[b]? = some (.cells #[.int .u8 0, .int .i64 x, .string { data := #[] }, .slice none 0 0] e fr)) :
    LiesS w [numT x] (.slice (some ⟨b, 0, none⟩) 1 1) := by
  have hl : b < w.heap.size := (Array.getElem?_eq_some_iff.1 hb).1
  refine ⟨_, 1, rfl, by simp, by unfold maxLen; omega, (fun h => by cases h), (fun i j => (#[.int .u8 0, .int .i64 x, .string { data := #[] }, .slice none 0 0] : Array Value).getD (i * 4 + j) .nilFunc), fun _ => ⟨b, 0, rfl, hl, fun i j hi hj => ?_⟩, fun i hi => ?_⟩
  · have hi : i < 1 := hi
    unfold World.cell?
    rw [hb]
    rcases (by omega : i = 0) with rfl
    rcases (by omega : j = 0 ∨ j = 1 ∨ j = 2 ∨ j = 3) with rfl | rfl | rfl | rfl <;> rfl
  · have hi : i < 1 := hi
    rcases (by omega : i = 0) with rfl
    exact (OwnT.mk (e := 0) (base := 0) (k := 0) (s := []) hx (by simp) (OwnL.nil _ _ _)).lies
/-- A copy's nodes, and a block behind it. -/
theorem CopyN.farN {eN eI eV : TypeId} {base : Nat} {w w' : World} {v : Value} {l : List Nd} (h : CopyN eN eI eV base w v l) (hE : Ext w w') {b : Nat} (hb : w.heap.size ≤ b) :
    ∃ ds : List (List Value), ds.length = l.length ∧ w'.ownsRow base eN 16 v l.length ds.flatten ∧ ∀ (i : Nat) (hi : i < l.length) (hc : i < ds.length), FarNd w' (some b) l[i] ds[i] := by
  obtain ⟨cs, lo, h1, h2, h3, h4, h5, h6, h7⟩ := h
  have hmon := lo_mono h5
  refine ⟨cs, h1, hE.own h2, fun i hi hc => farNd_of (fun w'' hw' => ((h7 i hi hc).far (fun c hb1 hb2 => ?_)).v)⟩
  have := hmon l.length (Nat.le_refl _) (i + 1) (by omega)
  rw [hw'.block c (by have := hE.size; omega) (fun e => by injection e with e; omega)]
  exact hE.grownBy.block c (by omega) (by simp)
end Fm
namespace Go.Proofs.YtpcgpcjleedilaaGreatDoor
open Go Go.Proofs Fm

theorem awA_v {w0 : World} {a : Option Addr} {n c : Nat} (h : LiesS w0 [numT 5, numT 7] (.slice a n c)) : ∀ W, Ext w0 W → NdV W awA (.agg #[.string { data := #[48, 47, 97] }, .string { data := #[] }, .int .u8 0, .int .i64 0, .int .i64 (-1), .int .i64 0, .slice none 0 0, .int .i64 0, .int .i64 0, .int .u8 4, .int .i64 0, .int .i64 0, .int .u8 2, .int .i64 0, .string { data := #[] }, .slice a n c]) := fun W hW => by
  have z : isI64 0 := by unfold isI64; omega
  exact ⟨none, 0, 0, .int .u8 2, .int .i64 0, .string { data := #[] }, .slice a n c, rfl, Elem.Row.void _ _ _, list18_lies (h.ext hW), by simp [awA], by simp [awA], z, by show isI64 (-1); unfold isI64; omega, z, z, z, z, z⟩
theorem awM_v {W : World} {wd : Int} (hwd : isI64 wd) {a : Option Addr} {n c : Nat} (h : intE.Row W [0] (.slice a n c)) : NdV W (awM wd) (.agg #[.string { data := #[48, 47, 109] }, .string { data := #[] }, .int .u8 1, .int .i64 0, .int .i64 (-1), .int .i64 0, .slice a n c, .int .i64 wd, .int .i64 0, .int .u8 0, .int .i64 0, .int .i64 0, .int .u8 0, .int .i64 0, .string { data := #[] }, .slice none 0 0]) := by
  have z : isI64 0 := by unfold isI64; omega
  exact ⟨a, n, c, .int .u8 0, .int .i64 0, .string { data := #[] }, .slice none 0 0, rfl, h, (num18_own z W 0).lies, by simp [awM], by simp [awM], z, by show isI64 (-1); unfold isI64; omega, z, hwd, z, z, z⟩
set_option maxRecDepth 100000 in
set_option maxHeartbeats 8000000 in
theorem awake18_any (w : World) (hw : KW w) :
    Calls Tryz.prog 29 #[] w fun e w' => e = .returned (.bool true) ∧ Ext w w' := by
  have HKW := Lib.hid hw
  clear hw
  go_enter Tryz.func29, Tryz.ntmps29
  go_wp2_with fail
  refine (num18_any 5 w).mono ?_
  rintro e w1 ⟨rfl, hE1⟩
  go_wp2_with fail
  refine (num18_any 7 w1).mono ?_
  rintro e w2 ⟨rfl, hE2⟩
  have hb3 := heap_alloc_new w2 (.cells #[.int .u8 0, .int .i64 5, .string { data := #[] }, .slice none 0 0, .int .u8 0, .int .i64 7, .string { data := #[] }, .slice none 0 0] 44)
  have hE3 := (Ext.refl w2).alloc (.cells #[.int .u8 0, .int .i64 5, .string { data := #[] }, .slice none 0 0, .int .u8 0, .int .i64 7, .string { data := #[] }, .slice none 0 0] 44)
  have hz3 : w2.heap.size < (w2.alloc (.cells #[.int .u8 0, .int .i64 5, .string { data := #[] }, .slice none 0 0, .int .u8 0, .int .i64 7, .string { data := #[] }, .slice none 0 0] 44)).heap.size := by simp
  go_wp2_with fail
  generalize w2.alloc (.cells #[.int .u8 0, .int .i64 5, .string { data := #[] }, .slice none 0 0, .int .u8 0, .int .i64 7, .string { data := #[] }, .slice none 0 0] 44) = W3 at *
  have HL := Lib.hid (liesS_two (by unfold isI64; omega) (by unfold isI64; omega) hb3)
  have HE3 := Lib.hid ((hE1.trans hE2).trans hE3)
  refine (list18_any _ 2 2 W3).mono ?_
  rintro e w4 ⟨rfl, hE4⟩
  generalize w2.heap.size = VB at *
  obtain ⟨Ca, hCa⟩ : ∃ Ca, Ca = ([.string { data := #[48, 47, 97] }, .string { data := #[] }, .int .u8 0, .int .i64 0, .int .i64 (-1), .int .i64 0, .slice none 0 0, .int .i64 0, .int .i64 0, .int .u8 4, .int .i64 0, .int .i64 0, .int .u8 2, .int .i64 0, .string { data := #[] }, .slice (some ⟨VB, 0, none⟩) 2 2] : List Value) := ⟨_, rfl⟩
  have HAG : Hid ((Value.agg #[.string { data := #[48, 47, 97] }, .string { data := #[] }, .int .u8 0, .int .i64 0, .int .i64 (-1), .int .i64 0, .slice none 0 0, .int .i64 0, .int .i64 0, .int .u8 4, .int .i64 0, .int .i64 0, .int .u8 2, .int .i64 0, .string { data := #[] }, .slice (some ⟨VB, 0, none⟩) 2 2]) = .agg Ca.toArray) := Lib.hid (by rw [hCa])
  have HLa : Hid (Ca.length = 16) := Lib.hid (by rw [hCa]; rfl)
  have HLna : Hid ((Tryz.prog.info? 46).map (·.size) = some Ca.length) := Lib.hid (by rw [hCa]; exact sizenode_F)
  have HVa : Hid (∀ W, Ext w4 W → NdV W awA (.agg Ca.toArray)) := Lib.hid (by rw [hCa]; exact fun W hW => awA_v HL.out W (hE4.trans hW))
  have HN1 := Lib.hid (ndV_one (HVa.out w4 (Ext.refl _))).2
  have HE4 := Lib.hid (HE3.out.trans hE4)
  clear hCa hE1 hE2 hE3 hE4 hb3 hz3 HL HE3
  go_upto_region 2 with (refine wpList_storeBox rfl _ _ _ rfl _ _ _ _ rfl rfl rfl (by exact HAG.out) sizenode_F rfl HLa.out HN1.out ?_)
  have hE5 := (Ext.refl w4).alloc (.cells Ca.toArray 46)
  have hR5 := rangeAt_new w4 Ca 46
  have hz5 : w4.heap.size < (w4.alloc (.cells Ca.toArray 46)).heap.size := by simp
  generalize w4.alloc (.cells Ca.toArray 46) = W5 at *
  generalize hB1 : w4.heap.size = B1 at *
  have hb6 := heap_alloc_new W5 (.cells #[.int .i64 0] 3)
  have hE6 := (Ext.refl W5).alloc (.cells #[.int .i64 0] 3)
  have ho6 := World.ownsRow_lit W5 #[.int .i64 0] 1 (base := 0) (e := 3) (size := 1) (Nat.zero_le _) (by unfold maxLen; omega) rfl
  have hz6 : (W5.alloc (.cells #[.int .i64 0] 3)).heap.size = W5.heap.size + 1 := by simp
  obtain ⟨AB, hAB⟩ : ∃ AB, AB = W5.heap.size := ⟨_, rfl⟩
  rw [← hAB] at ho6 hb6 hz6
  obtain ⟨Cm, hCm⟩ : ∃ Cm, Cm = ([.string { data := #[48, 47, 109] }, .string { data := #[] }, .int .u8 1, .int .i64 0, .int .i64 (-1), .int .i64 0, .slice (some ⟨AB, 0, none⟩) 1 1, .int .i64 2, .int .i64 0, .int .u8 0, .int .i64 0, .int .i64 0, .int .u8 0, .int .i64 0, .string { data := #[] }, .slice none 0 0] : List Value) := ⟨_, rfl⟩
  have HMG : Hid ((Value.agg #[.string { data := #[48, 47, 109] }, .string { data := #[] }, .int .u8 1, .int .i64 0, .int .i64 (-1), .int .i64 0, .slice (some ⟨AB, 0, none⟩) 1 1, .int .i64 2, .int .i64 0, .int .u8 0, .int .i64 0, .int .i64 0, .int .u8 0, .int .i64 0, .string { data := #[] }, .slice none 0 0]) = .agg Cm.toArray) := Lib.hid (by rw [hCm])
  have HLm : Hid (Cm.length = 16) := Lib.hid (by rw [hCm]; rfl)
  have HLnm : Hid ((Tryz.prog.info? 46).map (·.size) = some Cm.length) := Lib.hid (by rw [hCm]; exact sizenode_F)
  have HVm : Hid (∀ W, Ext (W5.alloc (.cells #[.int .i64 0] 3)) W → NdV W (awM 2) (.agg Cm.toArray)) := Lib.hid (by
    rw [hCm]
    exact fun W hW => awM_v (by unfold isI64; omega) (OwnN.row (e := 3) (base := 0) (hW.own ho6) (fun i hi => by rw [List.mem_singleton] at hi; subst hi; unfold isI64; omega)))
  have HM1 := Lib.hid (ndV_one (HVm.out _ (Ext.refl _))).2
  have HE6 := Lib.hid (HE4.out.trans (hE5.trans hE6))
  have HE46 := Lib.hid (hE5.trans hE6)
  have HR6 := Lib.hid (rangeAt_ext hR5 hE6 hz5)
  subst hAB
  have HZ6 := Lib.hid hz6
  clear hCm ho6 hb6 hE5 hE6 hR5 HAG
  go_upto_region 3 with (refine wpList_storeBox rfl _ _ _ rfl _ _ _ _ rfl (by exact HZ6.out.symm) rfl (by exact HMG.out) sizenode_F rfl HLm.out HM1.out ?_)
  have HZ1 := Lib.hid (show B1 < (W5.alloc (.cells #[.int .i64 0] 3)).heap.size by omega)
  generalize W5.alloc (.cells #[.int .i64 0] 3) = W6 at *
  have hE7 := (Ext.refl W6).alloc (.cells Cm.toArray 46)
  have hR7 := rangeAt_new W6 Cm 46
  have HZ2 := Lib.hid (show W6.heap.size < (W6.alloc (.cells Cm.toArray 46)).heap.size by simp)
  rw [← hz6]
  generalize W6.alloc (.cells Cm.toArray 46) = W at *
  generalize hB2 : W6.heap.size = B2 at *
  have HSZ := Lib.hid (Nat.le_refl W.heap.size)
  have HSS : Hid (∀ wx, Ext W wx → wx.rangeAt B1 0 Ca ∧ wx.rangeAt B2 0 Cm) := Lib.hid (fun wx hx => ⟨rangeAt_ext HR6.out (hE7.trans hx) (by rw [hB2]; exact HZ1.out), rangeAt_ext hR7 hx HZ2.out⟩)
  have HE7 := Lib.hid (HE6.out.trans hE7)
  have ED := Lib.hid (Ext.refl W).drew
  have HEC : Hid (∀ wx, Ext W wx → Calls Tryz.prog 30 #[.agg Cm.toArray, .int .i64 1, .int .i64 2] wx (EachPost wx (awM 2) 1 2)) := Lib.hid (fun wx hx => feach_any (awM 2) 1 2 (by unfold isI64; omega) (by simp [awM]) (by simp [awM]) wx (HKW.out.ext (HE7.out.trans hx)) _ (HVm.out wx (hE7.trans hx)))
  have HLam : Hid ((Ca ++ Cm).toArray.size = 2 * 16) := Lib.hid (by rw [List.size_toArray, List.length_append, HLa.out, HLm.out])
  have HFam : Hid (∀ wx, Ext W wx → ∀ row : Option Nat, (∀ b, row = some b → W.heap.size ≤ b) → ∀ (i : Nat) (hi : i < [awA, awM 2].length) (hc : i < [Ca, Cm].length), FarNd wx row [awA, awM 2][i] [Ca, Cm][i]) := Lib.hid (fun wx hx row hrow i hi hc => by
    refine farNd_of (fun w' hw' => ?_)
    have hX : Ext W w' := hx.grown hw' hrow
    have hi : i < 2 := hi
    rcases (by omega : i = 0 ∨ i = 1) with rfl | rfl
    · exact HVa.out w' (HE46.out.trans (hE7.trans hX))
    · exact HVm.out w' (hE7.trans hX))
  have HEF := Lib.hid aw_eachF
  clear hE7 hR7 hz6 HR6 HM1 HN1 HMG
  simp only [Act.put]
  go_cut [3] from 23 to 28 (fun l w' => ∃ A C, l = .slice A 4 C ∧ Hid (HeldN 46 w.heap.size w' (.slice A 4 C) aw0) ∧ Hid (Ext w w'))
  case first =>
   refine wp_region_held_drew (S := (fun w' => w'.rangeAt B1 0 Ca ∧ w'.rangeAt B2 0 Cm)) (by kernel_rfl) ?_ (fun hHeld => ?_)
   · (try dsimp only)
     (first | exact HSS.out _ ED.out | exact HSS.out _ E1.out | exact HSS.out _ E2.out | exact HSS.out _ E3.out)
   refine take_mid 0 (some 23) (cs := Ca) (by kernel_rfl) (by kernel_rfl) (by kernel_rfl) (by kernel_rfl) (by kernel_rfl) (fun _ _ _ h => h) (by rfl) 46 (.tmp 1) (by kernel_rfl) B1 0 (by rfl) _ (fun _ h => h.1) Tryz.underlying46 rfl HLna.out (by assumption) ?_
   try simp only [Act.put, List.setIfInBounds_toArray, List.set_cons_zero, List.set_cons_succ]
   refine take_mid 1 (some 24) (cs := Cm) (by kernel_rfl) (by kernel_rfl) (by kernel_rfl) (by kernel_rfl) (by kernel_rfl) (fun _ _ _ h => h) (by rfl) 46 (.tmp 2) (by kernel_rfl) B2 0 (by rfl) _ (fun _ h => h.2) Tryz.underlying46 rfl HLnm.out (by assumption) ?_
   try simp only [Act.put, List.setIfInBounds_toArray, List.set_cons_zero, List.set_cons_succ]
   refine take_mid 3 (some 26) (cs := Cm) (by kernel_rfl) (by kernel_rfl) (by kernel_rfl) (by kernel_rfl) (by kernel_rfl) (fun _ _ _ h => h) (by rfl) 46 (.tmp 2) (by kernel_rfl) B2 0 (by rfl) _ (fun _ h => h.2) Tryz.underlying46 rfl HLnm.out (by assumption) ?_
   try simp only [Act.put, List.setIfInBounds_toArray, List.set_cons_zero, List.set_cons_succ]
   refine ready_two 2 4 (by kernel_rfl) (by kernel_rfl) (by kernel_rfl) (by rfl) (by rfl) (fun Kc hKc => ?_) (fun Kc hKc => ?_)
   · refine wp_nodes2 (.tmp 23) (.tmp 24) (by rfl) (by kernel_rfl) (by kernel_rfl) HLa.out HLm.out ?_
     change Kc (Act.put _ (some 25) _) _
     have E1 := Lib.hid (ED.out.alloc (.cells (Ca ++ Cm).toArray 46))
     have HO1 : Hid ((W.drew.alloc (.cells (Ca ++ Cm).toArray 46)).ownsRow W.heap.size 46 16 (.slice (some ⟨W.heap.size, 0, none⟩) 2 2) 2 (Ca ++ Cm)) := Lib.hid (World.ownsRow_lit W.drew (Ca ++ Cm).toArray 2 (Nat.le_refl _) (by unfold maxLen; omega) HLam.out)
     refine hKc.out _ _ ?_ (fun hHeld => ?_)
     · (try dsimp only)
       (first | exact HSS.out _ ED.out | exact HSS.out _ E1.out | exact HSS.out _ E2.out | exact HSS.out _ E3.out)
     clear hKc Kc
     try simp only [Act.put, List.setIfInBounds_toArray, List.set_cons_zero, List.set_cons_succ]
     refine ready_one 4 (by kernel_rfl) (by kernel_rfl) (by rfl) (fun Kc hKc => ?_)
     go_simp
     refine (HEC.out _ E1.out).mono ?_
     rintro e w4 ⟨d, rfl, hE4, hC4⟩
     obtain ⟨a4, c4, rfl⟩ := hC4.slice
     have E2 := Lib.hid (E1.out.trans hE4)
     have HC4 := Lib.hid hC4
     have HO2 := Lib.hid (hE4.own HO1.out)
     clear hE4 hC4
     try go_wp2_with fail
     refine hKc.out _ _ ?_ (fun hHeld => ?_)
     · (try dsimp only)
       (first | exact HSS.out _ ED.out | exact HSS.out _ E1.out | exact HSS.out _ E2.out | exact HSS.out _ E3.out)
     clear hKc Kc
     try simp only [Act.put, List.setIfInBounds_toArray, List.set_cons_zero, List.set_cons_succ]
     refine ready_one 5 (by kernel_rfl) (by kernel_rfl) (by rfl) (fun Kc hKc => ?_)
     have hc4 := HC4.out
     have hz4 : W.heap.size ≤ (W.drew.alloc (.cells (Ca ++ Cm).toArray 46)).heap.size := by simp
     obtain ⟨ds, hds, hdrow, hdf⟩ := hc4.far (row := (Value.slice (some ⟨W.heap.size, 0, none⟩) 2 2).ownBlock) (fun b hb => by simp [Value.ownBlock] at hb; rw [← hb]; simp)
     have HSrc := Lib.hid (Src.nodes Tryz.underlying40 hdrow (fun D hD u hu => by
       obtain ⟨k, hk, rfl⟩ := List.getElem_of_mem hD
       exact (hdf k (by rw [← hds]; exact hk) hk).2.1 u hu))
     rw [HEF.out] at HSrc hdf hds
     refine wp_appendS (.tmp 25) (.tmp 27) 40 (by rfl) elemnode_F W.heap.size (.slice (some ⟨W.heap.size, 0, none⟩) 2 2) 2 (Ca ++ Cm) (by rfl) HO2.out _ 2 ds.flatten (by rw [HEF.out]; rfl) HSrc.out (by unfold maxLen; omega) (by omega) E2.out.size ?_
     intro A C w6 hown6 hgr6 hat6
     change Kc (Act.put _ (some 28) _) _
     have E3 := Lib.hid (E2.out.grown hgr6 (fun k hk => (World.ownsRow.lt HO2.out k hk).1))
     have hH6 : HeldN 46 W.heap.size w6 (.slice A (2 + 2) C) aw0 := HeldN.app (v := .slice (some ⟨W.heap.size, 0, none⟩) 2 2) (l := [awA, awM 2]) (m := [awE 0, awE 1]) (cs := [Ca, Cm]) rfl (HFam.out _ E2.out _ (fun b hb => by simp [Value.ownBlock] at hb; have := HSZ.out; omega)) hds hdf (by simpa using hown6) hgr6 hat6
     have HH6 := Lib.hid hH6
     clear hH6 hown6 hgr6 hat6 hds hdrow hdf
     refine hKc.out _ _ ?_ (fun hHeld => ?_)
     · (try dsimp only)
       (first | exact HSS.out _ ED.out | exact HSS.out _ E1.out | exact HSS.out _ E2.out | exact HSS.out _ E3.out)
     clear hKc Kc
     try simp only [Act.put, List.setIfInBounds_toArray, List.set_cons_zero, List.set_cons_succ]
     refine take_w 6 (some 3) (v := ?_) (by kernel_rfl) (by kernel_rfl) (by kernel_rfl) (by kernel_rfl) (by kernel_rfl) (fun _ _ _ h => h) (by rfl) ?_ (by assumption) ?_
     rotate_left
     · (intro w hSw; (try dsimp only at hSw); go_simp; try with_reducible rfl)
     try simp only [Act.put, List.setIfInBounds_toArray, List.set_cons_zero, List.set_cons_succ]
     refine wpAnyH_done (by kernel_rfl) ?_ _
     have HE6 := Lib.hid (HE7.out.trans E3.out)
     go_wp2_with fail
     go_meet
     case rel => exact ⟨_, _, rfl, Lib.hid (HH6.out.mono HE7.out.size), HE6⟩
   · go_simp
     refine (HEC.out _ ED.out).mono ?_
     rintro e w4 ⟨d, rfl, hE4, hC4⟩
     obtain ⟨a4, c4, rfl⟩ := hC4.slice
     have E1 := Lib.hid (ED.out.trans hE4)
     have HC4 := Lib.hid hC4
     have HZ4 := Lib.hid (Nat.le_refl w4.heap.size)
     clear hE4 hC4
     try go_wp2_with fail
     refine hKc.out _ _ ?_ (fun hHeld => ?_)
     · (try dsimp only)
       (first | exact HSS.out _ ED.out | exact HSS.out _ E1.out | exact HSS.out _ E2.out | exact HSS.out _ E3.out)
     clear hKc Kc
     try simp only [Act.put, List.setIfInBounds_toArray, List.set_cons_zero, List.set_cons_succ]
     refine ready_one 2 (by kernel_rfl) (by kernel_rfl) (by rfl) (fun Kc hKc => ?_)
     refine wp_nodes2 (.tmp 23) (.tmp 24) (by rfl) (by kernel_rfl) (by kernel_rfl) HLa.out HLm.out ?_
     change Kc (Act.put _ (some 25) _) _
     have E2 := Lib.hid (E1.out.alloc (.cells (Ca ++ Cm).toArray 46))
     have HO2 : Hid ((w4.alloc (.cells (Ca ++ Cm).toArray 46)).ownsRow W.heap.size 46 16 (.slice (some ⟨w4.heap.size, 0, none⟩) 2 2) 2 (Ca ++ Cm)) := Lib.hid (World.ownsRow_lit w4 (Ca ++ Cm).toArray 2 E1.out.size (by unfold maxLen; omega) HLam.out)
     have HE0 := Lib.hid ((Ext.refl w4).alloc (.cells (Ca ++ Cm).toArray 46))
     refine hKc.out _ _ ?_ (fun hHeld => ?_)
     · (try dsimp only)
       (first | exact HSS.out _ ED.out | exact HSS.out _ E1.out | exact HSS.out _ E2.out | exact HSS.out _ E3.out)
     clear hKc Kc
     try simp only [Act.put, List.setIfInBounds_toArray, List.set_cons_zero, List.set_cons_succ]
     refine ready_one 5 (by kernel_rfl) (by kernel_rfl) (by rfl) (fun Kc hKc => ?_)
     have hc4 := (CopyN.kept (HC4.out) HE0.out.grownBy (fun b hb => by cases hb))
     obtain ⟨ds, hds, hdrow, hdf⟩ := HC4.out.farN HE0.out (b := w4.heap.size) (Nat.le_refl _)
     have HSrc := Lib.hid (Src.nodes Tryz.underlying40 hdrow (fun D hD u hu => by
       obtain ⟨k, hk, rfl⟩ := List.getElem_of_mem hD
       exact (hdf k (by rw [← hds]; exact hk) hk).2.1 u hu))
     rw [HEF.out] at HSrc hdf hds
     refine wp_appendS (.tmp 25) (.tmp 27) 40 (by rfl) elemnode_F W.heap.size (.slice (some ⟨w4.heap.size, 0, none⟩) 2 2) 2 (Ca ++ Cm) (by rfl) HO2.out _ 2 ds.flatten (by rw [HEF.out]; rfl) HSrc.out (by unfold maxLen; omega) (by omega) E2.out.size ?_
     intro A C w6 hown6 hgr6 hat6
     change Kc (Act.put _ (some 28) _) _
     have E3 := Lib.hid (E2.out.grown hgr6 (fun k hk => (World.ownsRow.lt HO2.out k hk).1))
     have hH6 : HeldN 46 W.heap.size w6 (.slice A (2 + 2) C) aw0 := HeldN.app (v := .slice (some ⟨w4.heap.size, 0, none⟩) 2 2) (l := [awA, awM 2]) (m := [awE 0, awE 1]) (cs := [Ca, Cm]) rfl (HFam.out _ E2.out _ (fun b hb => by simp [Value.ownBlock] at hb; have := E1.out.size; omega)) hds hdf (by simpa using hown6) hgr6 hat6
     have HH6 := Lib.hid hH6
     clear hH6 hown6 hgr6 hat6 hds hdrow hdf
     refine hKc.out _ _ ?_ (fun hHeld => ?_)
     · (try dsimp only)
       (first | exact HSS.out _ ED.out | exact HSS.out _ E1.out | exact HSS.out _ E2.out | exact HSS.out _ E3.out)
     clear hKc Kc
     try simp only [Act.put, List.setIfInBounds_toArray, List.set_cons_zero, List.set_cons_succ]
     refine take_w 6 (some 3) (v := ?_) (by kernel_rfl) (by kernel_rfl) (by kernel_rfl) (by kernel_rfl) (by kernel_rfl) (fun _ _ _ h => h) (by rfl) ?_ (by assumption) ?_
     rotate_left
     · (intro w hSw; (try dsimp only at hSw); go_simp; try with_reducible rfl)
     try simp only [Act.put, List.setIfInBounds_toArray, List.set_cons_zero, List.set_cons_succ]
     refine wpAnyH_done (by kernel_rfl) ?_ _
     have HE6 := Lib.hid (HE7.out.trans E3.out)
     go_wp2_with fail
     go_meet
     case rel => exact ⟨_, _, rfl, Lib.hid (HH6.out.mono HE7.out.size), HE6⟩
  case rest =>
  obtain ⟨A, C, rfl, HH, HE⟩ := hcut
  rename World => WA
  obtain ⟨g, c, hA, hg1, hg2⟩ := HH.out.form (by decide)
  injection hA with hA1 hA2 hA3
  subst hA1 hA3
  clear hA2 HSS ED HEC HLam HFam HEF HSZ HZ2 HZ1 hB2 HLa HLm HLna HLnm HVa HVm HE4 HE6 HE46 HE7 HZ6
  have e2 : WA.cell? ⟨g, 32, none⟩ = some (.string { data := #[48, 47, 109, 91, 48, 93] }) := by
    have h := HH.out.idAt (i := 2) (by decide)
    rw [show aw0[2].id = [48, 47, 109, 91, 48, 93] from awE0_id] at h
    exact h
  have e3 : WA.cell? ⟨g, 48, none⟩ = some (.string { data := #[48, 47, 109, 91, 49, 93] }) := by
    have h := HH.out.idAt (i := 3) (by decide)
    rw [show aw0[3].id = [48, 47, 109, 91, 49, 93] from awE1_id] at h
    exact h
  go_wp2_with fail
  clear e2 e3
  refine (finput_any aw0 2 (aw_light (.inl rfl)) WA _ HH.out.row).mono ?_
  rintro e w5 ⟨A1, m1, c1, b1, rfl, hE5, hyes, -⟩
  obtain ⟨rfl, ho1⟩ := hyes _ aw_in2
  have HH5 := Lib.hid (HH.out.ext hE5)
  have HE5 := Lib.hid (HE.out.trans hE5)
  have HO1 := Lib.hid ho1.lies
  clear hyes ho1 hE5 HH HE
  go_wp2_with fail
  refine (finput_any aw0 3 (aw_light (.inl rfl)) w5 _ HH5.out.row).mono ?_
  rintro e w6 ⟨A2, m2, c2, b2, rfl, hE6, hyes, -⟩
  obtain ⟨rfl, ho2⟩ := hyes _ aw_in3
  have HH6 := Lib.hid (HH5.out.ext hE6)
  have HE6 := Lib.hid (HE5.out.trans hE6)
  have HO1 := Lib.hid (HO1.out.ext hE6)
  have HO2 := Lib.hid ho2.lies
  clear hyes ho2 hE6 HH5 HE5
  go_wp2_with fail
  refine (num18_any 5 w6).mono ?_
  rintro e w7 ⟨rfl, hE7⟩
  have hb8 := heap_alloc_new w7 (.cells #[.int .u8 0, .int .i64 5, .string { data := #[] }, .slice none 0 0] 44)
  have hE8 := (Ext.refl w7).alloc (.cells #[.int .u8 0, .int .i64 5, .string { data := #[] }, .slice none 0 0] 44)
  have HV8 := Lib.hid (values18_any [numT 5] [numT 5] _ _ _ _ _ _ _ (HO1.out.ext (hE7.trans hE8)) (liesS_one (by unfold isI64; omega) hb8))
  have HH8 := Lib.hid (HH6.out.ext (hE7.trans hE8))
  have HE8 := Lib.hid (HE6.out.trans (hE7.trans hE8))
  have HO2 := Lib.hid (HO2.out.ext (hE7.trans hE8))
  clear hb8 hE8 hE7 HH6 HE6 HO1
  go_wp2_with fail
  refine HV8.out.mono ?_
  rintro e w9 ⟨rfl, hE9⟩
  rw [eqT_self]
  have HH9 := Lib.hid (HH8.out.ext hE9)
  have HE9 := Lib.hid (HE8.out.trans hE9)
  have HO2 := Lib.hid (HO2.out.ext hE9)
  clear HV8 hE9 HH8 HE8
  go_wp2_with fail
  refine (num18_any 7 w9).mono ?_
  rintro e w10 ⟨rfl, hE7⟩
  have hb8 := heap_alloc_new w10 (.cells #[.int .u8 0, .int .i64 7, .string { data := #[] }, .slice none 0 0] 44)
  have hE8 := (Ext.refl w10).alloc (.cells #[.int .u8 0, .int .i64 7, .string { data := #[] }, .slice none 0 0] 44)
  have HV8 := Lib.hid (values18_any [numT 7] [numT 7] _ _ _ _ _ _ _ (HO2.out.ext (hE7.trans hE8)) (liesS_one (by unfold isI64; omega) hb8))
  have HH10 := Lib.hid (HH9.out.ext (hE7.trans hE8))
  have HE10 := Lib.hid (HE9.out.trans (hE7.trans hE8))
  clear hb8 hE8 hE7 HH9 HE9 HO2
  go_wp2_with fail
  refine HV8.out.mono ?_
  rintro e w11 ⟨rfl, hE9⟩
  rw [eqT_self]
  have HH11 := Lib.hid (HH10.out.ext hE9)
  have HE11 := Lib.hid (HE10.out.trans hE9)
  clear HV8 hE9 HH10 HE10
  go_wp2_with fail
  refine (num18_any 70 w11).mono ?_
  rintro e w12 ⟨rfl, hE7⟩
  have HE12 := Lib.hid (HE11.out.trans hE7)
  have hH := HH11.out.ext hE7
  have ⟨⟨u9, c9⟩, f9⟩ := hH.spot (i := 3) (by decide) 9 (by omega)
  have ⟨⟨u12, c12⟩, f12⟩ := hH.spot (i := 3) (by decide) 12 (by omega)
  have ⟨⟨u13, c13⟩, f13⟩ := hH.spot (i := 3) (by decide) 13 (by omega)
  have ⟨⟨u14, c14⟩, f14⟩ := hH.spot (i := 3) (by decide) 14 (by omega)
  have ⟨⟨u15, c15⟩, f15⟩ := hH.spot (i := 3) (by decide) 15 (by omega)
  simp only [Nat.reduceMul, Nat.reduceAdd] at c9 f9 c12 f12 c13 f13 c14 f14 c15 f15
  obtain ⟨HH13, hgr⟩ : Hid (HeldN 46 w.heap.size (((((w12.setCell ⟨g, 57, none⟩ (.int .u8 4)).setCell ⟨g, 60, none⟩ (.int .u8 0)).setCell ⟨g, 61, none⟩ (.int .i64 70)).setCell ⟨g, 62, none⟩ (.string { data := #[] })).setCell ⟨g, 63, none⟩ (.slice none 0 0)) (.slice (some ⟨g, 0, none⟩) aw0.length C) aw1) ∧ w12.grownBy (((((w12.setCell ⟨g, 57, none⟩ (.int .u8 4)).setCell ⟨g, 60, none⟩ (.int .u8 0)).setCell ⟨g, 61, none⟩ (.int .i64 70)).setCell ⟨g, 62, none⟩ (.string { data := #[] })).setCell ⟨g, 63, none⟩ (.slice none 0 0)) (some g) := by
    obtain ⟨q1, q2⟩ := hH.put (i := 3) (by decide) 9 (by omega) (.int .u8 4) { awE 1 with stand := 4 } (fun w' C h => ndV_stand h 4)
    obtain ⟨q3, q4⟩ := q1.putV (i := 3) (by decide) (numT 70) (.int .u8 0) (.int .i64 70) (.string { data := #[] }) (.slice none 0 0) (fun w' _ => (num18_own (by unfold isI64; omega) w' 0).lies)
    exact ⟨Lib.hid q3, grown_trans q2 q4⟩
  have HE13 := Lib.hid (HE12.out.grown hgr (fun k hk => by injection hk with hk; omega))
  clear hgr hH hE7 HH11 HE11 HE12
  go_upto_region 11 with (fail)
  generalize ((((w12.setCell ⟨g, 57, none⟩ (.int .u8 4)).setCell ⟨g, 60, none⟩ (.int .u8 0)).setCell ⟨g, 61, none⟩ (.int .i64 70)).setCell ⟨g, 62, none⟩ (.string { data := #[] })).setCell ⟨g, 63, none⟩ (.slice none 0 0) = w13 at *
  clear c9 f9 c12 f12 c13 f13 c14 f14 c15 f15
  go_wp2_with fail
  refine (fvalues_any aw1 1 (by decide) (fun x hx => (aw_light (.inr (.inl rfl)) x hx).1) w13 _ HH13.out.row).mono ?_
  rintro e w14 ⟨v14, b14, rfl, hE14, -, hno⟩
  obtain ⟨rfl, rfl⟩ := hno aw_v1
  have hEa := (Ext.refl w14).alloc (.cells #[.int .u8 0, .int .i64 0, .string { data := #[] }, .slice none 0 0] 44)
  have HH14 := Lib.hid (HH13.out.ext (hE14.trans hEa))
  have HE14 := Lib.hid (HE13.out.trans (hE14.trans hEa))
  clear hno hE14 hEa HH13 HE13
  go_upto_region 12 with (fail)
  generalize w14.alloc (.cells #[.int .u8 0, .int .i64 0, .string { data := #[] }, .slice none 0 0] 44) = w15 at *
  go_wp2_with fail
  refine (num18_any 50 w15).mono ?_
  rintro e w16 ⟨rfl, hE7⟩
  have HE16 := Lib.hid (HE14.out.trans hE7)
  have hH := HH14.out.ext hE7
  have ⟨⟨u9, c9⟩, f9⟩ := hH.spot (i := 2) (by decide) 9 (by omega)
  have ⟨⟨u12, c12⟩, f12⟩ := hH.spot (i := 2) (by decide) 12 (by omega)
  have ⟨⟨u13, c13⟩, f13⟩ := hH.spot (i := 2) (by decide) 13 (by omega)
  have ⟨⟨u14, c14⟩, f14⟩ := hH.spot (i := 2) (by decide) 14 (by omega)
  have ⟨⟨u15, c15⟩, f15⟩ := hH.spot (i := 2) (by decide) 15 (by omega)
  simp only [Nat.reduceMul, Nat.reduceAdd] at c9 f9 c12 f12 c13 f13 c14 f14 c15 f15
  obtain ⟨HH17, hgr⟩ : Hid (HeldN 46 w.heap.size (((((w16.setCell ⟨g, 41, none⟩ (.int .u8 4)).setCell ⟨g, 44, none⟩ (.int .u8 0)).setCell ⟨g, 45, none⟩ (.int .i64 50)).setCell ⟨g, 46, none⟩ (.string { data := #[] })).setCell ⟨g, 47, none⟩ (.slice none 0 0)) (.slice (some ⟨g, 0, none⟩) aw1.length C) aw2) ∧ w16.grownBy (((((w16.setCell ⟨g, 41, none⟩ (.int .u8 4)).setCell ⟨g, 44, none⟩ (.int .u8 0)).setCell ⟨g, 45, none⟩ (.int .i64 50)).setCell ⟨g, 46, none⟩ (.string { data := #[] })).setCell ⟨g, 47, none⟩ (.slice none 0 0)) (some g) := by
    obtain ⟨q1, q2⟩ := hH.put (i := 2) (by decide) 9 (by omega) (.int .u8 4) { awE 0 with stand := 4 } (fun w' C h => ndV_stand h 4)
    obtain ⟨q3, q4⟩ := q1.putV (i := 2) (by decide) (numT 50) (.int .u8 0) (.int .i64 50) (.string { data := #[] }) (.slice none 0 0) (fun w' _ => (num18_own (by unfold isI64; omega) w' 0).lies)
    exact ⟨Lib.hid q3, grown_trans q2 q4⟩
  have HE17 := Lib.hid (HE16.out.grown hgr (fun k hk => by injection hk with hk; omega))
  clear hgr hH hE7 HH14 HE14 HE16
  go_upto_region 13 with (fail)
  generalize ((((w16.setCell ⟨g, 41, none⟩ (.int .u8 4)).setCell ⟨g, 44, none⟩ (.int .u8 0)).setCell ⟨g, 45, none⟩ (.int .i64 50)).setCell ⟨g, 46, none⟩ (.string { data := #[] })).setCell ⟨g, 47, none⟩ (.slice none 0 0) = w17 at *
  clear c9 f9 c12 f12 c13 f13 c14 f14 c15 f15
  go_wp2_with fail
  refine (fvalues_any aw2 1 (by decide) (fun x hx => (aw_light (.inr (.inr (.inl rfl))) x hx).1) w17 _ HH17.out.row).mono ?_
  rintro e w18 ⟨v18, b18, rfl, hE18, hyes, -⟩
  obtain ⟨rfl, ho18⟩ := hyes _ aw_v2
  obtain ⟨d18, rfl, -, -, hl18⟩ := ho18.lies.parts
  obtain ⟨a18, cap18, rfl, -⟩ := id hl18
  have hEa := (Ext.refl w18).alloc (.cells #[.int .u8 ((2 : UInt8).toNat : Int), .int .i64 0, .string (str []), .slice a18 [numT 50, numT 70].length cap18] 44)
  have HB18 := Lib.hid (Box4.new w18 (.int .u8 ((2 : UInt8).toNat : Int)) (.int .i64 0) (.string (str [])) (.slice a18 [numT 50, numT 70].length cap18))
  have HV18 := Lib.hid (ho18.ext hEa)
  have hgB : g < w17.heap.size := (HH17.out.lt g rfl).2
  have hgB' : w17.heap.size ≤ w18.heap.size := hE18.size
  have HH18 := Lib.hid (HH17.out.ext (hE18.trans hEa))
  have HE18 := Lib.hid (HE17.out.trans (hE18.trans hEa))
  generalize hx18 : ((2 : UInt8).toNat : Int) = X18 at *
  generalize hy18 : str [] = Y18 at *
  generalize hz18 : [numT 50, numT 70].length = Z18 at *
  clear hE18 hEa HH17 HE17 hyes ho18 hl18
  go_upto_region 14 with (fail)
  generalize hBV : w18.heap.size = BV at *
  generalize w18.alloc (.cells #[.int .u8 X18, .int .i64 0, .string Y18, .slice a18 Z18 cap18] 44) = w19 at *
  have ⟨⟨u7, c7⟩, f7⟩ := HH18.out.spot (i := 1) (by decide) 7 (by omega)
  simp only [Nat.reduceMul, Nat.reduceAdd] at c7 f7
  obtain ⟨HH20, hgr⟩ : Hid (HeldN 46 w.heap.size (w19.setCell ⟨g, 23, none⟩ (.int .i64 1)) (.slice (some ⟨g, 0, none⟩) aw2.length C) aw3) ∧ w19.grownBy (w19.setCell ⟨g, 23, none⟩ (.int .i64 1)) (some g) := by
    obtain ⟨q1, q2⟩ := HH18.out.put (i := 1) (by decide) 7 (by omega) (.int .i64 1) (awM 1) (fun w' C h => ndV_width h (by unfold isI64; omega))
    exact ⟨Lib.hid q1, q2⟩
  have HE20 := Lib.hid (HE18.out.grown hgr (fun k hk => by injection hk with hk; omega))
  have HB20 := Lib.hid (HB18.out.kept hgr (fun e => by injection e with e; omega))
  have HV20 := Lib.hid (HV18.out.grown hgr (fun b hb => by injection hb with hb; omega))
  clear hgr HH18 HE18 HB18 HV18
  go_upto_region 15 with (fail)
  generalize w19.setCell ⟨g, 23, none⟩ (.int .i64 1) = w20 at *
  clear c7 f7
  go_wp2_with fail
  refine (flist_any aw3 1 (fun x hx => (aw_light (.inr (.inr (.inr (.inl rfl)))) x hx).1) w20 _ HH20.out.row).mono ?_
  rintro e w21 ⟨d21, rfl, hE21, ho21⟩
  rw [aw_l3] at ho21 ⊢
  dsimp only at ho21 ⊢
  obtain ⟨a21, m21, c21, rfl⟩ : ∃ a m c, d21 = .slice a m c := by
    obtain ⟨F, h⟩ := ho21
    obtain ⟨a, c, h⟩ := h.slice
    exact ⟨_, _, _, h⟩
  have HH21 := Lib.hid (HH20.out.ext hE21)
  have HE21 := Lib.hid (HE20.out.trans hE21)
  have HB21 := Lib.hid (HB20.out.ext hE21)
  have HV21 := Lib.hid (HV20.out.ext hE21)
  clear ho21 hE21 HH20 HE20 HB20 HV20
  go_wp2_with fail
  refine (num18_any 3 w21).mono ?_
  rintro e w22 ⟨rfl, hE7⟩
  have HE22 := Lib.hid (HE21.out.trans hE7)
  have HB22 := Lib.hid (HB21.out.ext hE7)
  have HV22 := Lib.hid (HV21.out.ext hE7)
  have hH := HH21.out.ext hE7
  have ⟨⟨u12, c12⟩, f12⟩ := hH.spot (i := 0) (by decide) 12 (by omega)
  have ⟨⟨u13, c13⟩, f13⟩ := hH.spot (i := 0) (by decide) 13 (by omega)
  have ⟨⟨u14, c14⟩, f14⟩ := hH.spot (i := 0) (by decide) 14 (by omega)
  have ⟨⟨u15, c15⟩, f15⟩ := hH.spot (i := 0) (by decide) 15 (by omega)
  simp only [Nat.reduceMul, Nat.reduceAdd, Nat.zero_mul, Nat.zero_add] at c12 f12 c13 f13 c14 f14 c15 f15
  obtain ⟨HH23, hgr⟩ : Hid (HeldN 46 w.heap.size (((((w22).setCell ⟨g, 12, none⟩ (.int .u8 0)).setCell ⟨g, 13, none⟩ (.int .i64 3)).setCell ⟨g, 14, none⟩ (.string { data := #[] })).setCell ⟨g, 15, none⟩ (.slice none 0 0)) (.slice (some ⟨g, 0, none⟩) aw3.length C) aw4) ∧ w22.grownBy (((((w22).setCell ⟨g, 12, none⟩ (.int .u8 0)).setCell ⟨g, 13, none⟩ (.int .i64 3)).setCell ⟨g, 14, none⟩ (.string { data := #[] })).setCell ⟨g, 15, none⟩ (.slice none 0 0)) (some g) := by
    obtain ⟨q3, q4⟩ := hH.putV (i := 0) (by decide) (numT 3) (.int .u8 0) (.int .i64 3) (.string { data := #[] }) (.slice none 0 0) (fun w' _ => (num18_own (by unfold isI64; omega) w' 0).lies)
    exact ⟨Lib.hid q3, q4⟩
  have HE23 := Lib.hid (HE22.out.grown hgr (fun k hk => by injection hk with hk; omega))
  have HB23 := Lib.hid (HB22.out.kept hgr (fun e => by injection e with e; omega))
  have HV23 := Lib.hid (HV22.out.grown hgr (fun b hb => by injection hb with hb; omega))
  clear hgr hH hE7 HH21 HE21 HE22 HB21 HB22 HV21 HV22
  go_upto_region 17 with (fail)
  generalize ((((w22).setCell ⟨g, 12, none⟩ (.int .u8 0)).setCell ⟨g, 13, none⟩ (.int .i64 3)).setCell ⟨g, 14, none⟩ (.string { data := #[] })).setCell ⟨g, 15, none⟩ (.slice none 0 0) = w23 at *
  clear c12 f12 c13 f13 c14 f14 c15 f15
  go_wp2_with fail
  refine (flist_any aw4 1 (fun x hx => (aw_light (.inr (.inr (.inr (.inr rfl)))) x hx).1) w23 _ HH23.out.row).mono ?_
  rintro e w24 ⟨d24, rfl, hE24, ho24⟩
  rw [aw_l4] at ho24 ⊢
  dsimp only at ho24 ⊢
  obtain ⟨a24, m24, c24, rfl⟩ : ∃ a m c, d24 = .slice a m c := by
    obtain ⟨F, h⟩ := ho24
    obtain ⟨a, c, h⟩ := h.slice
    exact ⟨_, _, _, h⟩
  have HE24 := Lib.hid (HE23.out.trans hE24)
  have HB24 := Lib.hid (HB23.out.ext hE24)
  have HV24 := Lib.hid (HV23.out.ext hE24)
  clear ho24 hE24 HH23 HE23 HB23 HV23
  go_wp2_with fail
  have HS : Hid (∀ wx, Ext w24 wx → wx.cell? ⟨BV, 0, none⟩ = some (.int .u8 X18) ∧ wx.cell? ⟨BV, 1, none⟩ = some (.int .i64 0) ∧ wx.cell? ⟨BV, 2, none⟩ = some (.string Y18) ∧ wx.cell? ⟨BV, 3, none⟩ = some (.slice a18 Z18 cap18)) := Lib.hid (fun wx hx => (HB24.out.ext hx).cells)
  have ED := Lib.hid (Ext.refl w24).drew
  refine wp_region_held_drew (S := (fun w' => w'.cell? ⟨BV, 0, none⟩ = some (.int .u8 X18) ∧ w'.cell? ⟨BV, 1, none⟩ = some (.int .i64 0) ∧ w'.cell? ⟨BV, 2, none⟩ = some (.string Y18) ∧ w'.cell? ⟨BV, 3, none⟩ = some (.slice a18 Z18 cap18))) (by kernel_rfl) ?_ (fun hHeld => ?_)
  · (try dsimp only)
    (first | exact HS.out _ ED.out | exact HS.out _ E1.out | exact HS.out _ E2.out | exact HS.out _ E3.out | exact HS.out _ E4.out | exact HS.out _ E5.out)
  refine take_w 0 (some 117) (v := ?_) (by kernel_rfl) (by kernel_rfl) (by kernel_rfl) (by kernel_rfl) (by kernel_rfl) (fun _ _ _ h => h) (by rfl) ?_ (by assumption) ?_
  rotate_left
  · (intro w hSw; (try dsimp only at hSw); go_simp; try with_reducible rfl)
  try simp only [Act.put, List.setIfInBounds_toArray, List.set_cons_zero, List.set_cons_succ]
  refine take_w 1 (some 118) (v := ?_) (by kernel_rfl) (by kernel_rfl) (by kernel_rfl) (by kernel_rfl) (by kernel_rfl) (fun _ _ _ h => h) (by rfl) ?_ (by assumption) ?_
  rotate_left
  · (intro w hSw; (try dsimp only at hSw); go_simp; try with_reducible rfl)
  try simp only [Act.put, List.setIfInBounds_toArray, List.set_cons_zero, List.set_cons_succ]
  refine take_w 2 (some 119) (v := ?_) (by kernel_rfl) (by kernel_rfl) (by kernel_rfl) (by kernel_rfl) (by kernel_rfl) (fun _ _ _ h => h) (by rfl) ?_ (by assumption) ?_
  rotate_left
  · (intro w hSw; (try dsimp only at hSw); go_simp; try with_reducible rfl)
  try simp only [Act.put, List.setIfInBounds_toArray, List.set_cons_zero, List.set_cons_succ]
  refine take_w 3 (some 120) (v := ?_) (by kernel_rfl) (by kernel_rfl) (by kernel_rfl) (by kernel_rfl) (by kernel_rfl) (fun _ _ _ h => h) (by rfl) ?_ (by assumption) ?_
  rotate_left
  · (intro w hSw; (try dsimp only at hSw); go_simp; try with_reducible rfl)
  try simp only [Act.put, List.setIfInBounds_toArray, List.set_cons_zero, List.set_cons_succ]
  refine take_w 4 (some 121) (v := ?_) (by kernel_rfl) (by kernel_rfl) (by kernel_rfl) (by kernel_rfl) (by kernel_rfl) (fun _ _ _ h => h) (by rfl) ?_ (by assumption) ?_
  rotate_left
  · (intro w hSw; (try dsimp only at hSw); go_simp; try with_reducible rfl)
  try simp only [Act.put, List.setIfInBounds_toArray, List.set_cons_zero, List.set_cons_succ]
  refine take_w 5 (some 122) (v := ?_) (by kernel_rfl) (by kernel_rfl) (by kernel_rfl) (by kernel_rfl) (by kernel_rfl) (fun _ _ _ h => h) (by rfl) ?_ (by assumption) ?_
  rotate_left
  · (intro w hSw; (try dsimp only at hSw); go_simp; try with_reducible rfl)
  try simp only [Act.put, List.setIfInBounds_toArray, List.set_cons_zero, List.set_cons_succ]
  refine take_w 6 (some 123) (v := ?_) (by kernel_rfl) (by kernel_rfl) (by kernel_rfl) (by kernel_rfl) (by kernel_rfl) (fun _ _ _ h => h) (by rfl) ?_ (by assumption) ?_
  rotate_left
  · (intro w hSw; (try dsimp only at hSw); go_simp; try with_reducible rfl)
  try simp only [Act.put, List.setIfInBounds_toArray, List.set_cons_zero, List.set_cons_succ]
  refine ready_one 7 (by kernel_rfl) (by kernel_rfl) (by rfl) (fun Kc hKc => ?_)
  go_simp
  refine (num18_any 50 _).mono ?_
  rintro e y1 ⟨rfl, hE1⟩
  have E1 := Lib.hid (ED.out.trans hE1)
  clear hE1
  try go_wp2_with fail
  refine hKc.out _ _ ?_ (fun hHeld => ?_)
  · (try dsimp only)
    (first | exact HS.out _ ED.out | exact HS.out _ E1.out | exact HS.out _ E2.out | exact HS.out _ E3.out | exact HS.out _ E4.out | exact HS.out _ E5.out)
  clear hKc Kc
  try simp only [Act.put, List.setIfInBounds_toArray, List.set_cons_zero, List.set_cons_succ]
  refine ready_one 8 (by kernel_rfl) (by kernel_rfl) (by rfl) (fun Kc hKc => ?_)
  go_simp
  refine (num18_any 70 _).mono ?_
  rintro e y2 ⟨rfl, hE2⟩
  have E2 := Lib.hid (E1.out.trans hE2)
  clear hE2
  try go_wp2_with fail
  refine hKc.out _ _ ?_ (fun hHeld => ?_)
  · (try dsimp only)
    (first | exact HS.out _ ED.out | exact HS.out _ E1.out | exact HS.out _ E2.out | exact HS.out _ E3.out | exact HS.out _ E4.out | exact HS.out _ E5.out)
  clear hKc Kc
  try simp only [Act.put, List.setIfInBounds_toArray, List.set_cons_zero, List.set_cons_succ]
  refine ready_one 9 (by kernel_rfl) (by kernel_rfl) (by rfl) (fun Kc hKc => ?_)
  go_simp
  have HLn := Lib.hid (liesS_two (x := 50) (y := 70) (by unfold isI64; omega) (by unfold isI64; omega) (heap_alloc_new y2 (.cells #[.int .u8 0, .int .i64 50, .string { data := #[] }, .slice none 0 0, .int .u8 0, .int .i64 70, .string { data := #[] }, .slice none 0 0] 44)))
  have E3 := Lib.hid (E2.out.alloc (.cells #[.int .u8 0, .int .i64 50, .string { data := #[] }, .slice none 0 0, .int .u8 0, .int .i64 70, .string { data := #[] }, .slice none 0 0] 44))
  try go_wp2_with fail
  refine hKc.out _ _ ?_ (fun hHeld => ?_)
  · (try dsimp only)
    (first | exact HS.out _ ED.out | exact HS.out _ E1.out | exact HS.out _ E2.out | exact HS.out _ E3.out | exact HS.out _ E4.out | exact HS.out _ E5.out)
  clear hKc Kc
  try simp only [Act.put, List.setIfInBounds_toArray, List.set_cons_zero, List.set_cons_succ]
  refine ready_one 10 (by kernel_rfl) (by kernel_rfl) (by rfl) (fun Kc hKc => ?_)
  go_simp
  refine (list18_any _ 2 2 _).mono ?_
  rintro e y4 ⟨rfl, hE4⟩
  have E4 := Lib.hid (E3.out.trans hE4)
  have HL4 := Lib.hid (list18_lies (HLn.out.ext hE4))
  clear hE4 HLn
  try go_wp2_with fail
  refine hKc.out _ _ ?_ (fun hHeld => ?_)
  · (try dsimp only)
    (first | exact HS.out _ ED.out | exact HS.out _ E1.out | exact HS.out _ E2.out | exact HS.out _ E3.out | exact HS.out _ E4.out | exact HS.out _ E5.out)
  clear hKc Kc
  try simp only [Act.put, List.setIfInBounds_toArray, List.set_cons_zero, List.set_cons_succ]
  refine ready_one 11 (by kernel_rfl) (by kernel_rfl) (by rfl) (fun Kc hKc => ?_)
  go_simp
  refine (vsame_any (listV [numT 50, numT 70]) (listV [numT 50, numT 70]) _ _ _ (HV24.out.ext E4.out).lies HL4.out).mono ?_
  rintro e y5 ⟨rfl, hE5⟩
  rw [eqT_self]
  have E5 := Lib.hid (E4.out.trans hE5)
  clear hE5
  try go_wp2_with fail
  refine hKc.out _ _ ?_ (fun hHeld => ?_)
  · (try dsimp only)
    (first | exact HS.out _ ED.out | exact HS.out _ E1.out | exact HS.out _ E2.out | exact HS.out _ E3.out | exact HS.out _ E4.out | exact HS.out _ E5.out)
  clear hKc Kc
  try simp only [Act.put, List.setIfInBounds_toArray, List.set_cons_zero, List.set_cons_succ]
  refine take_w 12 (some 129) (v := ?_) (by kernel_rfl) (by kernel_rfl) (by kernel_rfl) (by kernel_rfl) (by kernel_rfl) (fun _ _ _ h => h) (by rfl) ?_ (by assumption) ?_
  rotate_left
  · (intro w hSw; (try dsimp only at hSw); go_simp; try with_reducible rfl)
  try simp only [Act.put, List.setIfInBounds_toArray, List.set_cons_zero, List.set_cons_succ]
  refine take_w 13 (some 130) (v := ?_) (by kernel_rfl) (by kernel_rfl) (by kernel_rfl) (by kernel_rfl) (by kernel_rfl) (fun _ _ _ h => h) (by rfl) ?_ (by assumption) ?_
  rotate_left
  · (intro w hSw; (try dsimp only at hSw); go_simp; try with_reducible rfl)
  try simp only [Act.put, List.setIfInBounds_toArray, List.set_cons_zero, List.set_cons_succ]
  refine take_w 14 (some 131) (v := ?_) (by kernel_rfl) (by kernel_rfl) (by kernel_rfl) (by kernel_rfl) (by kernel_rfl) (fun _ _ _ h => h) (by rfl) ?_ (by assumption) ?_
  rotate_left
  · (intro w hSw; (try dsimp only at hSw); go_simp; try with_reducible rfl)
  try simp only [Act.put, List.setIfInBounds_toArray, List.set_cons_zero, List.set_cons_succ]
  refine take_w 15 (some 132) (v := ?_) (by kernel_rfl) (by kernel_rfl) (by kernel_rfl) (by kernel_rfl) (by kernel_rfl) (fun _ _ _ h => h) (by rfl) ?_ (by assumption) ?_
  rotate_left
  · (intro w hSw; (try dsimp only at hSw); go_simp; try with_reducible rfl)
  try simp only [Act.put, List.setIfInBounds_toArray, List.set_cons_zero, List.set_cons_succ]
  refine take_w 16 (some 133) (v := ?_) (by kernel_rfl) (by kernel_rfl) (by kernel_rfl) (by kernel_rfl) (by kernel_rfl) (fun _ _ _ h => h) (by rfl) ?_ (by assumption) ?_
  rotate_left
  · (intro w hSw; (try dsimp only at hSw); go_simp; try with_reducible rfl)
  try simp only [Act.put, List.setIfInBounds_toArray, List.set_cons_zero, List.set_cons_succ]
  refine take_w 17 (some 134) (v := ?_) (by kernel_rfl) (by kernel_rfl) (by kernel_rfl) (by kernel_rfl) (by kernel_rfl) (fun _ _ _ h => h) (by rfl) ?_ (by assumption) ?_
  rotate_left
  · (intro w hSw; (try dsimp only at hSw); go_simp; try with_reducible rfl)
  try simp only [Act.put, List.setIfInBounds_toArray, List.set_cons_zero, List.set_cons_succ]
  refine take_w 18 (some 135) (v := ?_) (by kernel_rfl) (by kernel_rfl) (by kernel_rfl) (by kernel_rfl) (by kernel_rfl) (fun _ _ _ h => h) (by rfl) ?_ (by assumption) ?_
  rotate_left
  · (intro w hSw; (try dsimp only at hSw); go_simp; try with_reducible rfl)
  try simp only [Act.put, List.setIfInBounds_toArray, List.set_cons_zero, List.set_cons_succ]
  refine take_w 19 (some 136) (v := ?_) (by kernel_rfl) (by kernel_rfl) (by kernel_rfl) (by kernel_rfl) (by kernel_rfl) (fun _ _ _ h => h) (by rfl) ?_ (by assumption) ?_
  rotate_left
  · (intro w hSw; (try dsimp only at hSw); go_simp; try with_reducible rfl)
  try simp only [Act.put, List.setIfInBounds_toArray, List.set_cons_zero, List.set_cons_succ]
  refine take_w 20 (some 137) (v := ?_) (by kernel_rfl) (by kernel_rfl) (by kernel_rfl) (by kernel_rfl) (by kernel_rfl) (fun _ _ _ h => h) (by rfl) ?_ (by assumption) ?_
  rotate_left
  · (intro w hSw; (try dsimp only at hSw); go_simp; try with_reducible rfl)
  try simp only [Act.put, List.setIfInBounds_toArray, List.set_cons_zero, List.set_cons_succ]
  refine take_w 21 (some 0) (v := ?_) (by kernel_rfl) (by kernel_rfl) (by kernel_rfl) (by kernel_rfl) (by kernel_rfl) (fun _ _ _ h => h) (by rfl) ?_ (by assumption) ?_
  rotate_left
  · (intro w hSw; (try dsimp only at hSw); go_simp; try with_reducible rfl)
  try simp only [Act.put, List.setIfInBounds_toArray, List.set_cons_zero, List.set_cons_succ]
  refine wpAnyH_done (by kernel_rfl) ?_ _
  have HE9 := Lib.hid (HE24.out.trans E5.out)
  go_wp2
  go_ret
  exact ⟨rfl, HE9.out⟩
end Go.Proofs.YtpcgpcjleedilaaGreatDoor

open Go.RowKit Go.Shelf
namespace Go.Proofs.YtpcgpcjleedilaaGreatDoor
open Go Go.Proofs Fm

/-- The path as Parse hands it back: of what is none, the one without steps. -/
def pthOr (s : List UInt8) : Pth := (parseP s).getD ⟨0, []⟩
/-- Its value: in memory of one's own. -/
theorem PathPost.path {s : List UInt8} {w : World} {e : Ending} {w' : World} (h : PathPost s w e w') :
    ∃ v, e = .returned (.tuple #[v, .bool (parseP s).isSome]) ∧ Ext w w' ∧ PthOwn 27 w.heap.size w' (pthOr s) v := by
  obtain ⟨v, h1, h2, h3, h4⟩ := h
  refine ⟨v, h1, h2, ?_⟩
  unfold pthOr
  cases hp : parseP s with
  | none =>
    rw [h3 hp]
    exact ⟨none, 0, 0, rfl, OwnSt.nil _ _ _, by show isI64 0; unfold isI64; omega⟩
  | some p => exact h4 p hp
theorem pthOr_len (s : List UInt8) : (pthOr s).steps.length ≤ 400 := by
  unfold pthOr
  cases hp : parseP s with
  | none => simp
  | some p => exact parse_steps hp
theorem ownerS_or (s : List UInt8) : ownerS s = if (parseP s).isSome then (upP (pthOr s)).map showP else none := by
  unfold ownerS pthOr
  cases parseP s <;> rfl
theorem PthOwn.kept {e : TypeId} {base : Nat} {w w' : World} {p : Pth} {v : Value} {row : Option Nat} (h : PthOwn e base w p v) (hg : w.grownBy w' row) (hr : ∀ b, row = some b → b < base) : PthOwn e base w' p v := by
  obtain ⟨a, m, c, h1, h2, h3⟩ := h
  exact ⟨a, m, c, h1, h2.kept hg hr, h3⟩
theorem PthOwn.mono {e : TypeId} {base base' : Nat} {w : World} {p : Pth} {v : Value} (h : PthOwn e base w p v) (hb : base' ≤ base) : PthOwn e base' w p v := by
  obtain ⟨a, m, c, h1, h2, h3⟩ := h
  exact ⟨a, m, c, h1, h2.mono hb, h3⟩
/-- What Owner hands back. -/
def OwnerPost (s : List UInt8) (w : World) (e : Ending) (w' : World) : Prop := e = .returned (.tuple #[.string (str ((ownerS s).getD [])), .bool (ownerS s).isSome]) ∧ Ext w w'
set_option maxRecDepth 100000 in
set_option maxHeartbeats 2000000 in
theorem idOwner_any (s : List UInt8) (hs : s.length ≤ 1000000) (w : World) (hw : KW w) :
    Calls Tryz.prog 11 #[.string (str s)] w (OwnerPost s w) := by
  have HW := Lib.hid hw
  have HC := Lib.hid (idParse_any s hs w hw)
  have HX := Lib.hid (ownerS_or s)
  have HL := Lib.hid (pthOr_len s)
  clear hw
  go_enter Tryz.func11, Tryz.ntmps11
  go_wp2_with fail
  refine HC.out.mono ?_
  intro e w1 hpo
  obtain ⟨v, rfl, hE1, a, m, c, rfl, hO, hfl⟩ := PathPost.path hpo
  generalize pthOr s = p at *
  have HB := Lib.hid (BoxL.new w1 [.int .i64 p.flow, .slice a m c] 24)
  have HE := Lib.hid (hE1.alloc (.cells #[.int .i64 p.flow, .slice a m c] 24))
  have hO2 := hO.ext ((Ext.refl w1).alloc (.cells #[.int .i64 p.flow, .slice a m c] 24))
  have HV := Lib.hid (show PthV (w1.alloc (.cells #[.int .i64 p.flow, .slice a m c] 24)) p (.agg #[.int .i64 p.flow, .slice a m c]) from ⟨a, m, c, rfl, hO2.row, hfl⟩)
  clear hpo hE1 hO hO2 hfl HC
  go_upto_region 2 with (fail)
  generalize w1.alloc (.cells #[.int .i64 p.flow, .slice a m c] 24) = W2 at *
  have p0 := HB.out.cell 0 _ rfl
  have p1 := HB.out.cell 1 _ rfl
  go_wp2_with fail
  refine (idUp_any p (by have := HL.out; omega) W2 _ HV.out).mono ?_
  rintro e w3 ⟨v', rfl, hE3, hN, hS⟩
  cases hu : upP p with
  | none =>
    obtain rfl := hN hu
    have HY := Lib.hid (show ownerS s = none by rw [HX.out, hu]; simp)
    have HE3 := Lib.hid ((HE.out.trans hE3).alloc (.cells #[.int .i64 p.flow, .slice a m c] 24))
    clear hN hS hu hE3
    cases hs : (parseP s).isSome
    all_goals
      clear hs
      go_wp2
      go_ret2
      exact ⟨by rw [HY.out]; rfl, HE3.out⟩
  | some q =>
    obtain ⟨a', m', c', rfl, hO', hfl'⟩ := hS q hu
    have hql : q.steps.length ≤ 10000 := by
      obtain ⟨l, x, h1, rfl⟩ := upP_some hu
      have := HL.out
      rw [h1] at this
      have h2 : (upS x).length ≤ 1 := by unfold upS; split <;> simp
      simp at this ⊢
      omega
    have hB := BoxL.new w3 [.int .i64 q.flow, .slice a' m' c'] 24
    have hE4 := (HE.out.trans hE3).alloc (.cells #[.int .i64 q.flow, .slice a' m' c'] 24)
    have hO4 := hO'.ext ((Ext.refl w3).alloc (.cells #[.int .i64 q.flow, .slice a' m' c'] 24))
    have hV4 : PthV (w3.alloc (.cells #[.int .i64 q.flow, .slice a' m' c'] 24)) q (.agg #[.int .i64 q.flow, .slice a' m' c']) := ⟨a', m', c', rfl, hO4.row, hfl'⟩
    cases hs : (parseP s).isSome with
    | false =>
      have HY := Lib.hid (show ownerS s = none by rw [HX.out, hs]; simp)
      have HE4 := Lib.hid hE4
      clear hN hS hu hE3 hE4 hO4 hV4 hO' hB hs
      go_wp2
      go_ret2
      exact ⟨by rw [HY.out]; rfl, HE4.out⟩
    | true =>
      have HY := Lib.hid (show ownerS s = some (showP q) by rw [HX.out, hs, hu]; simp)
      have HE4 := Lib.hid hE4
      have HV4 := Lib.hid hV4
      clear hN hS hu hE3 hE4 hO4 hV4 hO' hs
      go_upto_region 3 with (fail)
      generalize w3.alloc (.cells #[.int .i64 q.flow, .slice a' m' c'] 24) = W4 at *
      have q0 := hB.cell 0 _ rfl
      have q1 := hB.cell 1 _ rfl
      clear hB p0 p1
      go_wp2_with fail
      refine (idShow_any q hql W4 (HW.out.ext HE4.out) _ HV4.out).mono ?_
      rintro e w5 ⟨rfl, hE5⟩
      have HE5 := Lib.hid (HE4.out.trans hE5)
      clear hE5
      go_wp2
      go_ret2
      exact ⟨by rw [HY.out]; rfl, HE5.out⟩
end Go.Proofs.YtpcgpcjleedilaaGreatDoor

open Go.RowKit Go.Shelf
namespace Go.Proofs.YtpcgpcjleedilaaGreatDoor
open Go Go.Proofs Fm

theorem ndIDs_v {s : List UInt8} (hs : s.length ≤ 9223372036854775807) {W : World} {k : UInt8} {xs : List Int} {a : Option Addr} {n c : Nat} (h : intE.Row W xs (.slice a n c)) : NdV W (ndIDs s xs k) (.agg #[.string (str s), .string { data := #[] }, .int .u8 (k.toNat : Int), .int .i64 2, .int .i64 0, .int .i64 0, .slice a n c, .int .i64 9, .int .i64 4, .int .u8 0, .int .i64 0, .int .i64 0, .int .u8 0, .int .i64 0, .string { data := #[] }, .slice none 0 0]) := by
  have z : isI64 0 := by unfold isI64; omega
  exact ⟨a, n, c, .int .u8 0, .int .i64 0, .string { data := #[] }, .slice none 0 0, rfl, h, (num18_own z W 0).lies, hs, by simp [ndIDs], by show isI64 2; unfold isI64; omega, z, z, by show isI64 9; unfold isI64; omega, by show isI64 4; unfold isI64; omega, z, z⟩
set_option maxRecDepth 100000 in
set_option maxHeartbeats 8000000 in
theorem fanIDs_any (w : World) (s : List UInt8) (hmx : s.length ≤ 9223372036854775807) (n : Int) (hni : isI64 n) (xs : List Int) (v : Value) (hv : intE.Row w xs v) (hw : KW w) :
    Calls Tryz.prog 7 #[.string (str s), .int .i64 n, v] w fun e w' => e = .returned (.bool true) ∧ Ext w w' := by
  have HKW := Lib.hid hw
  have HV := Lib.hid hv
  have HAW := Lib.hid (awake18_any w hw)
  have hss := str_size s
  clear hmx hni
  obtain ⟨a, c, rfl, hc1, hc2⟩ := hv.slice
  clear hv hw
  by_cases h1 : 300 < s.length
  · go_enter Tryz.func7, Tryz.ntmps7
    go_wp2_with fail
    refine HAW.out.mono ?_
    rintro e w1 ⟨rfl, hE⟩
    go_wp2
    go_ret
    exact ⟨rfl, hE⟩
  by_cases h2 : 20 < xs.length
  · go_enter Tryz.func7, Tryz.ntmps7
    go_wp2_with fail
    refine HAW.out.mono ?_
    rintro e w1 ⟨rfl, hE⟩
    go_wp2
    go_ret
    exact ⟨rfl, hE⟩
  have HS := Lib.hid (show s.length ≤ 1000000 by omega)
  obtain ⟨Cm, hCm⟩ : ∃ Cm, Cm = ([.string (str s), .string { data := #[] }, .int .u8 1, .int .i64 2, .int .i64 0, .int .i64 0, .slice a xs.length c, .int .i64 9, .int .i64 4, .int .u8 0, .int .i64 0, .int .i64 0, .int .u8 0, .int .i64 0, .string { data := #[] }, .slice none 0 0] : List Value) := ⟨_, rfl⟩
  have HMG : Hid ((Value.agg #[.string (str s), .string { data := #[] }, .int .u8 1, .int .i64 2, .int .i64 0, .int .i64 0, .slice a xs.length c, .int .i64 9, .int .i64 4, .int .u8 0, .int .i64 0, .int .i64 0, .int .u8 0, .int .i64 0, .string { data := #[] }, .slice none 0 0]) = .agg Cm.toArray) := Lib.hid (by rw [hCm])
  have HLm : Hid (Cm.length = 16) := Lib.hid (by rw [hCm]; rfl)
  have HLn : Hid ((Tryz.prog.info? 46).map (·.size) = some Cm.length) := Lib.hid (by rw [hCm]; exact sizenode_F)
  have HLn2 : Hid ((Tryz.prog.info? 46).map (·.size) = some (Cm.set 2 (.int .u8 0)).length) := Lib.hid (by rw [List.length_set, hCm]; exact sizenode_F)
  have HVm : Hid (∀ W, Ext w W → NdV W (ndIDs s xs 1) (.agg Cm.toArray)) := Lib.hid (by rw [hCm]; exact fun W hW => ndIDs_v (by omega) (HV.out.ext hW))
  have HVm2 : Hid (∀ W, Ext w W → NdV W (ndIDs s xs 0) (.agg (Cm.set 2 (.int .u8 0)).toArray)) := Lib.hid (by rw [hCm]; exact fun W hW => ndIDs_v (by omega) (HV.out.ext hW))
  have HM1 := Lib.hid (ndV_one (HVm.out w (Ext.refl _))).2
  clear hCm
  have hE1 := (Ext.refl w).alloc (.cells Cm.toArray 46)
  have hB1 := BoxL.new w Cm 46
  go_enter Tryz.func7, Tryz.ntmps7
  go_upto_region 4 with (refine wpList_storeBox rfl _ _ _ rfl _ _ _ _ rfl rfl rfl (by exact HMG.out) sizenode_F rfl HLm.out HM1.out ?_)
  generalize w.alloc (.cells Cm.toArray 46) = W1 at *
  have HE1 := Lib.hid hE1
  have HB1 := Lib.hid hB1
  have HR1 := Lib.hid hB1.range
  have HB1lt := Lib.hid hB1.lt
  have HEC := Lib.hid (feach_any (ndIDs s xs 1) 7 n (by unfold isI64; omega) HS.out (by show xs.length ≤ _; omega) W1 (HKW.out.ext hE1) _ (HVm.out W1 hE1))
  have HMG2 := HMG
  clear hE1 hB1 HMG
  go_wp2_with (refine wpList_load_mid rfl _ _ rfl _ _ rfl _ _ HR1.out Tryz.underlying46 rfl HLn.out ?_)
  refine HEC.out.mono ?_
  rintro e w2 ⟨d, rfl, hE2, hC2⟩
  obtain ⟨ad, cd, rfl⟩ := hC2.slice
  have HE2 := Lib.hid (HE1.out.trans hE2)
  have HB2 := Lib.hid (HB1.out.ext hE2)
  have HC2 := Lib.hid hC2
  clear HEC hE2 hC2 HB1 HR1
  by_cases h3 : xs = [] ∨ n < 1 ∨ 40 < n
  case pos =>
    have hnil : (eachF (ndIDs s xs 1) 7 n).length = 0 := by rw [ids_none (.inr h3)]; rfl
    rw [hnil]
    have HAW2 := Lib.hid (awake18_any w2 (HKW.out.ext HE2.out))
    rcases h3 with h3 | h3 | h3
    · have h0 : xs.length = 0 := by rw [h3]; rfl
      have hb : ((xs.length : Int) == 0) = true := by rw [h0]; rfl
      clear h3 h0 hnil
      go_wp2_with fail
      refine HAW2.out.mono ?_
      rintro e w3 ⟨rfl, hE⟩
      have HE3 := Lib.hid (HE2.out.trans hE)
      clear hE
      go_wp2
      go_ret
      exact ⟨rfl, HE3.out⟩
    · by_cases h0 : ((xs.length : Int) == 0) = true
      · clear hnil
        go_wp2_with fail
        refine HAW2.out.mono ?_
        rintro e w3 ⟨rfl, hE⟩
        have HE3 := Lib.hid (HE2.out.trans hE)
        clear hE
        go_wp2
        go_ret
        exact ⟨rfl, HE3.out⟩
      · have h0 : ((xs.length : Int) == 0) = false := by simpa using h0
        clear hnil
        go_wp2_with fail
        refine HAW2.out.mono ?_
        rintro e w3 ⟨rfl, hE⟩
        have HE3 := Lib.hid (HE2.out.trans hE)
        clear hE
        go_wp2
        go_ret
        exact ⟨rfl, HE3.out⟩
    · have h4 : ¬ n < 1 := by omega
      by_cases h0 : ((xs.length : Int) == 0) = true
      · clear hnil
        go_wp2_with fail
        refine HAW2.out.mono ?_
        rintro e w3 ⟨rfl, hE⟩
        have HE3 := Lib.hid (HE2.out.trans hE)
        clear hE
        go_wp2
        go_ret
        exact ⟨rfl, HE3.out⟩
      · have h0 : ((xs.length : Int) == 0) = false := by simpa using h0
        clear hnil
        go_wp2_with fail
        refine HAW2.out.mono ?_
        rintro e w3 ⟨rfl, hE⟩
        have HE3 := Lib.hid (HE2.out.trans hE)
        clear hE
        go_wp2
        go_ret
        exact ⟨rfl, HE3.out⟩
  obtain ⟨N, rfl⟩ : ∃ N : Nat, n = (N : Int) := ⟨n.toNat, by omega⟩
  have hN1 : 1 ≤ N ∧ N ≤ 40 := by omega
  have hx0 : xs ≠ [] := fun h => h3 (.inl h)
  have hxl : 1 ≤ xs.length := List.length_pos_iff.2 hx0
  have heq := ids_some (s := s) hx0 hN1.1 hN1.2
  rw [heq] at HC2 ⊢
  rw [List.length_map, List.length_range]
  have hT2 := HC2.out.tail
  rw [List.length_map, List.length_range] at hT2
  have HT2 := Lib.hid hT2
  clear hT2
  have HXL := Lib.hid hxl
  have h0 : ((xs.length : Int) == 0) = false := by simp; exact hx0
  have h4 : ¬ (N : Int) < 1 := by omega
  have h5 : ¬ 40 < (N : Int) := by omega
  obtain ⟨g, hg⟩ : ∃ g, ad = some ⟨g, 0, none⟩ := by
    obtain ⟨g, c, e, -⟩ := World.ownsRow.form HC2.out.choose_spec.choose_spec.2.1 (by simp; omega)
    injection e with e
    exact ⟨g, e⟩
  subst hg
  clear h3 hx0 heq HC2
  have hgr := setOne_grown w2 w.heap.size 2 (.int .u8 0)
  have hB3 := HB2.out.set 2 (by rw [HLm.out]; omega) (.int .u8 0)
  have HE3 := Lib.hid (HE2.out.grown hgr (fun k hk => by injection hk with hk; omega))
  have HT3 : Hid (TailN 46 3 44 W1.heap.size (w2.setCell ⟨w.heap.size, 2, none⟩ (.int .u8 0)) (.slice (some ⟨g, 0, none⟩) N cd) N (eachNd (ndIDs s xs 1) 7) 0) := Lib.hid (HT2.out.keptLow hgr (by have := HB1lt.out; omega))
  have HR3 := Lib.hid hB3.range
  have HB3 := Lib.hid hB3
  have hc2 : w2.cell? ⟨w.heap.size, 2, none⟩ = some (.int .u8 1) := by
    refine HB2.out.cell 2 _ ?_
    have h := congrArg (fun v => match v with | .agg cs => cs[2]? | _ => none) HMG2.out
    simpa using h.symm
  have hf2 := HB2.out.free 2
  clear hgr hB3 HT2 HE2 HB2
  go_upto_region 8 with (fail)
  generalize w2.setCell ⟨w.heap.size, 2, none⟩ (.int .u8 0) = w3 at *
  clear hc2 hf2
  go_wp2_with (refine wpList_load_midG rfl _ _ rfl _ _ rfl _ _ HR3.out Tryz.underlying46 rfl HLn2.out ?_)
  have HEC := Lib.hid (feach_any (ndIDs s xs 0) 7 (N : Int) (by unfold isI64; omega) HS.out (by show xs.length ≤ _; omega) w3 (HKW.out.ext HE3.out) _ (HVm2.out w3 HE3.out))
  refine HEC.out.mono ?_
  rintro e w4 ⟨d4, rfl, hE4, hC4⟩
  rw [ids_none (.inl (by decide))] at hC4
  obtain ⟨a4, c4, rfl⟩ := hC4.slice
  have HE4 := Lib.hid (HE3.out.trans hE4)
  have HT4 := Lib.hid (HT3.out.ext hE4)
  clear HEC hE4 hC4 HT3 HE3 HB3 HR3 HVm HVm2 HLn2 HM1 HLm
  go_wp2_with fail
  have hz1 := HE1.out.size
  go_loopw [60] (fun i wr => ∃ k : Nat, k ≤ N ∧ i = .int .i64 k ∧ Hid (Ext w wr) ∧ Hid (TailN 46 3 44 W1.heap.size wr (.slice (some ⟨g, 0, none⟩) N cd) N (eachNd (ndIDs s xs 1) 7) k)) (fun i _ => N - (intOf i).toNat)
  case atStart => exact ⟨0, by omega, rfl, HE4, HT4⟩
  case round =>
    clear HE4 HT4
    obtain ⟨k, hk, rfl, HE, HT⟩ := hrel
    by_cases hlt : k < N
    case neg =>
      obtain rfl : k = N := by omega
      have HAW2 := Lib.hid (awake18_any wr (HKW.out.ext HE.out))
      clear HT
      go_wp2_with fail
      refine HAW2.out.mono ?_
      rintro e w3 ⟨rfl, hE⟩
      have HE3 := Lib.hid (HE.out.trans hE)
      clear hE
      go_wp2
      go_ret
      exact ⟨rfl, HE3.out⟩
    have hk0 : (0 : Int) ≤ (k : Int) := by omega
    have hk1 : (k : Int) < (N : Int) := by omega
    obtain ⟨C, p, q, hN, hR, hbp, hpq, hqw, hgp, hbg, hrest⟩ := HT.out.at hlt
    have HLC : Hid (C.length = 16) := Lib.hid hN.cells
    have HLCn : Hid ((Tryz.prog.info? 46).map (·.size) = some C.length) := Lib.hid (by rw [hN.cells]; exact sizenode_F)
    have HC1 := Lib.hid (ndV_one hN.v).2
    obtain ⟨ax, mx, cx, kx, nx, sx, dx, F, hC, hO, hOq, hV, hF, hwf⟩ := hN
    have HR := Lib.hid hR
    have HRest := Lib.hid hrest
    have HO := Lib.hid hO
    have HOq := Lib.hid hOq
    have hEn := (Ext.refl wr).alloc (.cells C.toArray 46)
    have hBn := BoxL.new wr C 46
    have HCe := Lib.hid hC
    clear hR hrest hO hOq hV hF HT hC
    go_upto_region 13 with (first | (refine wpList_load_mid rfl _ _ rfl _ _ rfl _ _ HR.out Tryz.underlying46 rfl HLCn.out ?_) | (refine wpList_storeBox rfl _ _ _ rfl _ _ _ _ rfl rfl rfl rfl sizenode_F rfl HLC.out HC1.out ?_))
    generalize wr.alloc (.cells C.toArray 46) = W5 at *
    obtain ⟨X, hX⟩ : ∃ X, X = eachS s (k : Int) := ⟨_, rfl⟩
    have hXl : X.length ≤ 400 := by rw [hX]; exact eachS_le s (k : Int)
    have HXo : Hid (X ≠ [] → ownerS X = some s) := Lib.hid (fun h => by rw [hX] at h ⊢; exact (each_kid h).owner)
    have HCE : Hid (∀ wx, Ext wr wx → Calls Tryz.prog 20 #[.string (str s), .int .i64 (k : Int)] wx (fun e w' => e = .returned (.string (str X)) ∧ Ext wx w')) := Lib.hid (fun wx hx => by
      rw [hX]; exact idEach_any s (k : Int) (by unfold isI64; omega) HS.out wx (HKW.out.ext (HE.out.trans hx)))
    have HCOw := Lib.hid (idOwner_any X (by omega) W5 (HKW.out.ext (HE.out.trans hEn)))
    have HBx : Hid (∀ wx, Ext W5 wx → wx.cell? ⟨wr.heap.size, 0, none⟩ = some (.string (str X)) ∧ wx.cell? ⟨wr.heap.size, 1, none⟩ = some (.string { data := #[] }) ∧ wx.cell? ⟨wr.heap.size, 2, none⟩ = some (.int .u8 2) ∧ wx.cell? ⟨wr.heap.size, 3, none⟩ = some (.int .i64 2) ∧ wx.cell? ⟨wr.heap.size, 4, none⟩ = some (.int .i64 7) ∧ wx.cell? ⟨wr.heap.size, 5, none⟩ = some (.int .i64 (k : Int)) ∧ wx.cell? ⟨wr.heap.size, 6, none⟩ = some (.slice ax mx cx) ∧ wx.cell? ⟨wr.heap.size, 8, none⟩ = some (.int .i64 4) ∧ wx.cell? ⟨wr.heap.size, 9, none⟩ = some (.int .u8 0)) := Lib.hid (fun wx hx => by
      have h := hBn.ext hx
      have hc := HCe.out
      rw [hX]
      exact ⟨h.cell 0 _ (by rw [hc]; rfl), h.cell 1 _ (by rw [hc]; rfl), h.cell 2 _ (by rw [hc]; rfl), h.cell 3 _ (by rw [hc]; rfl), h.cell 4 _ (by rw [hc]; rfl), h.cell 5 _ (by rw [hc]; rfl), h.cell 6 _ (by rw [hc]; rfl), h.cell 8 _ (by rw [hc]; rfl), h.cell 9 _ (by rw [hc]; rfl)⟩)
    have hml : mx + 1 = xs.length := by
      have h := HO.out.2
      have hl : (eachNd (ndIDs s xs 1) 7 k).after.length = xs.length - 1 := List.length_tail
      rw [hl] at h
      have := HXL.out
      rcases h with ⟨e, e2⟩ | ⟨b, cap', cur, e, -⟩
      · injection e; omega
      · injection e; omega
    have hmb : IntKind.i64.wrap ((xs.length : Int) - 1) = (mx : Int) := by rw [IntKind.wrap_i64]; omega
    have HEn := Lib.hid hEn
    have HML := Lib.hid hml
    have HBn := Lib.hid hBn
    have ⟨p0, p1, p2, p3, p4, p5, p6, p8, p9⟩ := HBx.out W5 (Ext.refl _)
    clear hX hXl hEn hml hBn HCe
    go_wp2_with fail
    refine HCOw.out.mono ?_
    rintro e w6 ⟨rfl, hE6⟩
    have HE6 := Lib.hid hE6
    have ⟨q0, q1, q2, q3, q4, q5, q6, q8, q9⟩ := HBx.out w6 hE6
    clear p0 p1 p2 p3 p4 p5 p6 p8 p9 HCOw hE6
    have ED := Lib.hid (HE6.out.drew)
    by_cases hXe : X = []
    case' pos =>
      have hx1 : (str X).toList.isEmpty = true := by rw [str_toList, hXe]; rfl
      clear hXe HXo
      go_wp2_with fail
      refine wp_region_held_drew (S := (fun w' => w'.cell? ⟨wr.heap.size, 0, none⟩ = some (.string (str X)) ∧ w'.cell? ⟨wr.heap.size, 1, none⟩ = some (.string { data := #[] }) ∧ w'.cell? ⟨wr.heap.size, 2, none⟩ = some (.int .u8 2) ∧ w'.cell? ⟨wr.heap.size, 3, none⟩ = some (.int .i64 2) ∧ w'.cell? ⟨wr.heap.size, 4, none⟩ = some (.int .i64 7) ∧ w'.cell? ⟨wr.heap.size, 5, none⟩ = some (.int .i64 (k : Int)) ∧ w'.cell? ⟨wr.heap.size, 6, none⟩ = some (.slice ax mx cx) ∧ w'.cell? ⟨wr.heap.size, 8, none⟩ = some (.int .i64 4) ∧ w'.cell? ⟨wr.heap.size, 9, none⟩ = some (.int .u8 0))) (by kernel_rfl) ?_ (fun hHeld => ?_)
      · (try dsimp only)
        (first | exact HBx.out _ ED.out | exact HBx.out _ E1.out)
      refine take_w 0 (some 71) (v := ?_) (by kernel_rfl) (by kernel_rfl) (by kernel_rfl) (by kernel_rfl) (by kernel_rfl) (fun _ _ _ h => h) (by rfl) ?_ (by assumption) ?_
      rotate_left
      · (intro w hSw; (try dsimp only at hSw); go_simp; try with_reducible rfl)
      try simp only [Act.put, List.setIfInBounds_toArray, List.set_cons_zero, List.set_cons_succ]
      refine take_w 1 (some 72) (v := ?_) (by kernel_rfl) (by kernel_rfl) (by kernel_rfl) (by kernel_rfl) (by kernel_rfl) (fun _ _ _ h => h) (by rfl) ?_ (by assumption) ?_
      rotate_left
      · (intro w hSw; (try dsimp only at hSw); go_simp; try with_reducible rfl)
      try simp only [Act.put, List.setIfInBounds_toArray, List.set_cons_zero, List.set_cons_succ]
      refine take_w 2 (some 73) (v := ?_) (by kernel_rfl) (by kernel_rfl) (by kernel_rfl) (by kernel_rfl) (by kernel_rfl) (fun _ _ _ h => h) (by rfl) ?_ (by assumption) ?_
      rotate_left
      · (intro w hSw; (try dsimp only at hSw); go_simp; try with_reducible rfl)
      try simp only [Act.put, List.setIfInBounds_toArray, List.set_cons_zero, List.set_cons_succ]
      refine take_w 3 (some 74) (v := ?_) (by kernel_rfl) (by kernel_rfl) (by kernel_rfl) (by kernel_rfl) (by kernel_rfl) (fun _ _ _ h => h) (by rfl) ?_ (by assumption) ?_
      rotate_left
      · (intro w hSw; (try dsimp only at hSw); go_simp; try with_reducible rfl)
      try simp only [Act.put, List.setIfInBounds_toArray, List.set_cons_zero, List.set_cons_succ]
      refine ready_one 4 (by kernel_rfl) (by kernel_rfl) (by rfl) (fun Kc hKc => ?_)
      go_simp
      refine (HCE.out _ (HEn.out.trans ED.out)).mono ?_
      rintro e w7 ⟨rfl, hE7⟩
      have E1 := Lib.hid (ED.out.trans hE7)
      clear hE7
      try go_wp2_with fail
      refine hKc.out _ _ ?_ (fun hHeld => ?_)
      · (try dsimp only)
        (first | exact HBx.out _ ED.out | exact HBx.out _ E1.out)
      clear hKc Kc
      try simp only [Act.put, List.setIfInBounds_toArray, List.set_cons_zero, List.set_cons_succ]
      refine take_w 5 (some 76) (v := ?_) (by kernel_rfl) (by kernel_rfl) (by kernel_rfl) (by kernel_rfl) (by kernel_rfl) (fun _ _ _ h => h) (by rfl) ?_ (by assumption) ?_
      rotate_left
      · (intro w hSw; (try dsimp only at hSw); go_simp; try with_reducible rfl)
      try simp only [Act.put, List.setIfInBounds_toArray, List.set_cons_zero, List.set_cons_succ]
      refine take_w 6 (some 77) (v := ?_) (by kernel_rfl) (by kernel_rfl) (by kernel_rfl) (by kernel_rfl) (by kernel_rfl) (fun _ _ _ h => h) (by rfl) ?_ (by assumption) ?_
      rotate_left
      · (intro w hSw; (try dsimp only at hSw); go_simp; try with_reducible rfl)
      try simp only [Act.put, List.setIfInBounds_toArray, List.set_cons_zero, List.set_cons_succ]
      refine take_w 7 (some 78) (v := ?_) (by kernel_rfl) (by kernel_rfl) (by kernel_rfl) (by kernel_rfl) (by kernel_rfl) (fun _ _ _ h => h) (by rfl) ?_ (by assumption) ?_
      rotate_left
      · (intro w hSw; (try dsimp only at hSw); go_simp; try with_reducible rfl)
      try simp only [Act.put, List.setIfInBounds_toArray, List.set_cons_zero, List.set_cons_succ]
      refine take_w 8 (some 79) (v := ?_) (by kernel_rfl) (by kernel_rfl) (by kernel_rfl) (by kernel_rfl) (by kernel_rfl) (fun _ _ _ h => h) (by rfl) ?_ (by assumption) ?_
      rotate_left
      · (intro w hSw; (try dsimp only at hSw); go_simp; try with_reducible rfl)
      try simp only [Act.put, List.setIfInBounds_toArray, List.set_cons_zero, List.set_cons_succ]
      refine take_w 9 (some 80) (v := ?_) (by kernel_rfl) (by kernel_rfl) (by kernel_rfl) (by kernel_rfl) (by kernel_rfl) (fun _ _ _ h => h) (by rfl) ?_ (by assumption) ?_
      rotate_left
      · (intro w hSw; (try dsimp only at hSw); go_simp; try with_reducible rfl)
      try simp only [Act.put, List.setIfInBounds_toArray, List.set_cons_zero, List.set_cons_succ]
      refine take_w 10 (some 81) (v := ?_) (by kernel_rfl) (by kernel_rfl) (by kernel_rfl) (by kernel_rfl) (by kernel_rfl) (fun _ _ _ h => h) (by rfl) ?_ (by assumption) ?_
      rotate_left
      · (intro w hSw; (try dsimp only at hSw); go_simp; try with_reducible rfl)
      try simp only [Act.put, List.setIfInBounds_toArray, List.set_cons_zero, List.set_cons_succ]
      refine take_un 7 [(11, some 82), (12, some 83), (13, some 84), (14, some 85), (15, some 86), (16, some 87), (17, some 88)] rfl (by kernel_rfl) (fun _ _ _ _ h => h) (by assumption) ?_
      simp only [putU, setU, Act.put, List.setIfInBounds_toArray, List.set_cons_zero, List.set_cons_succ]
      refine take_w 18 (some 89) (v := ?_) (by kernel_rfl) (by kernel_rfl) (by kernel_rfl) (by kernel_rfl) (by kernel_rfl) (fun _ _ _ h => h) (by rfl) ?_ (by assumption) ?_
      rotate_left
      · (intro w hSw; (try dsimp only at hSw); go_simp; try with_reducible rfl)
      try simp only [Act.put, List.setIfInBounds_toArray, List.set_cons_zero, List.set_cons_succ]
      refine take_w 19 (some 90) (v := ?_) (by kernel_rfl) (by kernel_rfl) (by kernel_rfl) (by kernel_rfl) (by kernel_rfl) (fun _ _ _ h => h) (by rfl) ?_ (by assumption) ?_
      rotate_left
      · (intro w hSw; (try dsimp only at hSw); go_simp; try with_reducible rfl)
      try simp only [Act.put, List.setIfInBounds_toArray, List.set_cons_zero, List.set_cons_succ]
      refine take_w 20 (some 91) (v := ?_) (by kernel_rfl) (by kernel_rfl) (by kernel_rfl) (by kernel_rfl) (by kernel_rfl) (fun _ _ _ h => h) (by rfl) ?_ (by assumption) ?_
      rotate_left
      · (intro w hSw; (try dsimp only at hSw); go_simp; try with_reducible rfl)
      try simp only [Act.put, List.setIfInBounds_toArray, List.set_cons_zero, List.set_cons_succ]
      refine take_w 21 (some 92) (v := ?_) (by kernel_rfl) (by kernel_rfl) (by kernel_rfl) (by kernel_rfl) (by kernel_rfl) (fun _ _ _ h => h) (by rfl) ?_ (by assumption) ?_
      rotate_left
      · (intro w hSw; (try dsimp only at hSw); go_simp; try with_reducible rfl)
      try simp only [Act.put, List.setIfInBounds_toArray, List.set_cons_zero, List.set_cons_succ]
      refine take_w 22 (some 93) (v := ?_) (by kernel_rfl) (by kernel_rfl) (by kernel_rfl) (by kernel_rfl) (by kernel_rfl) (fun _ _ _ h => h) (by rfl) ?_ (by assumption) ?_
      rotate_left
      · (intro w hSw; (try dsimp only at hSw); go_simp; try with_reducible rfl)
      try simp only [Act.put, List.setIfInBounds_toArray, List.set_cons_zero, List.set_cons_succ]
      refine take_w 23 (some 94) (v := ?_) (by kernel_rfl) (by kernel_rfl) (by kernel_rfl) (by kernel_rfl) (by kernel_rfl) (fun _ _ _ h => h) (by rfl) ?_ (by assumption) ?_
      rotate_left
      · (intro w hSw; (try dsimp only at hSw); go_simp; try with_reducible rfl)
      try simp only [Act.put, List.setIfInBounds_toArray, List.set_cons_zero, List.set_cons_succ]
      refine take_w 24 (some 95) (v := ?_) (by kernel_rfl) (by kernel_rfl) (by kernel_rfl) (by kernel_rfl) (by kernel_rfl) (fun _ _ _ h => h) (by rfl) ?_ (by assumption) ?_
      rotate_left
      · (intro w hSw; (try dsimp only at hSw); go_simp; try with_reducible rfl)
      try simp only [Act.put, List.setIfInBounds_toArray, List.set_cons_zero, List.set_cons_succ]
      refine take_w 25 (some 96) (v := ?_) (by kernel_rfl) (by kernel_rfl) (by kernel_rfl) (by kernel_rfl) (by kernel_rfl) (fun _ _ _ h => h) (by rfl) ?_ (by assumption) ?_
      rotate_left
      · (intro w hSw; (try dsimp only at hSw); go_simp; try with_reducible rfl)
      try simp only [Act.put, List.setIfInBounds_toArray, List.set_cons_zero, List.set_cons_succ]
      refine take_w 26 (some 97) (v := ?_) (by kernel_rfl) (by kernel_rfl) (by kernel_rfl) (by kernel_rfl) (by kernel_rfl) (fun _ _ _ h => h) (by rfl) ?_ (by assumption) ?_
      rotate_left
      · (intro w hSw; (try dsimp only at hSw); go_simp; try with_reducible rfl)
      try simp only [Act.put, List.setIfInBounds_toArray, List.set_cons_zero, List.set_cons_succ]
      refine take_w 27 (some 98) (v := ?_) (by kernel_rfl) (by kernel_rfl) (by kernel_rfl) (by kernel_rfl) (by kernel_rfl) (fun _ _ _ h => h) (by rfl) ?_ (by assumption) ?_
      rotate_left
      · (intro w hSw; (try dsimp only at hSw); go_simp; try with_reducible rfl)
      try simp only [Act.put, List.setIfInBounds_toArray, List.set_cons_zero, List.set_cons_succ]
      refine take_w 28 (some 99) (v := ?_) (by kernel_rfl) (by kernel_rfl) (by kernel_rfl) (by kernel_rfl) (by kernel_rfl) (fun _ _ _ h => h) (by rfl) ?_ (by assumption) ?_
      rotate_left
      · (intro w hSw; (try dsimp only at hSw); go_simp; try with_reducible rfl)
      try simp only [Act.put, List.setIfInBounds_toArray, List.set_cons_zero, List.set_cons_succ]
      refine take_w 29 (some 100) (v := ?_) (by kernel_rfl) (by kernel_rfl) (by kernel_rfl) (by kernel_rfl) (by kernel_rfl) (fun _ _ _ h => h) (by rfl) ?_ (by assumption) ?_
      rotate_left
      · (intro w hSw; (try dsimp only at hSw); go_simp; try with_reducible rfl)
      try simp only [Act.put, List.setIfInBounds_toArray, List.set_cons_zero, List.set_cons_succ]
      refine take_w 30 (some 101) (v := ?_) (by kernel_rfl) (by kernel_rfl) (by kernel_rfl) (by kernel_rfl) (by kernel_rfl) (fun _ _ _ h => h) (by rfl) ?_ (by assumption) ?_
      rotate_left
      · (intro w hSw; (try dsimp only at hSw); go_simp; try with_reducible rfl)
      try simp only [Act.put, List.setIfInBounds_toArray, List.set_cons_zero, List.set_cons_succ]
      refine take_w 31 (some 102) (v := ?_) (by kernel_rfl) (by kernel_rfl) (by kernel_rfl) (by kernel_rfl) (by kernel_rfl) (fun _ _ _ h => h) (by rfl) ?_ (by assumption) ?_
      rotate_left
      · (intro w hSw; (try dsimp only at hSw); go_simp; try with_reducible rfl)
      try simp only [Act.put, List.setIfInBounds_toArray, List.set_cons_zero, List.set_cons_succ]
      refine take_w 32 (some 103) (v := ?_) (by kernel_rfl) (by kernel_rfl) (by kernel_rfl) (by kernel_rfl) (by kernel_rfl) (fun _ _ _ h => h) (by rfl) ?_ (by assumption) ?_
      rotate_left
      · (intro w hSw; (try dsimp only at hSw); go_simp; try with_reducible rfl)
      try simp only [Act.put, List.setIfInBounds_toArray, List.set_cons_zero, List.set_cons_succ]
      refine take_w 33 (some 104) (v := ?_) (by kernel_rfl) (by kernel_rfl) (by kernel_rfl) (by kernel_rfl) (by kernel_rfl) (fun _ _ _ h => h) (by rfl) ?_ (by assumption) ?_
      rotate_left
      · (intro w hSw; (try dsimp only at hSw); go_simp; try with_reducible rfl)
      try simp only [Act.put, List.setIfInBounds_toArray, List.set_cons_zero, List.set_cons_succ]
      refine take_w 34 (some 105) (v := ?_) (by kernel_rfl) (by kernel_rfl) (by kernel_rfl) (by kernel_rfl) (by kernel_rfl) (fun _ _ _ h => h) (by rfl) ?_ (by assumption) ?_
      rotate_left
      · (intro w hSw; (try dsimp only at hSw); go_simp; try with_reducible rfl)
      try simp only [Act.put, List.setIfInBounds_toArray, List.set_cons_zero, List.set_cons_succ]
      refine take_w 35 (some 106) (v := ?_) (by kernel_rfl) (by kernel_rfl) (by kernel_rfl) (by kernel_rfl) (by kernel_rfl) (fun _ _ _ h => h) (by rfl) ?_ (by assumption) ?_
      rotate_left
      · (intro w hSw; (try dsimp only at hSw); go_simp; try with_reducible rfl)
      try simp only [Act.put, List.setIfInBounds_toArray, List.set_cons_zero, List.set_cons_succ]
      refine take_w 36 (some 107) (v := ?_) (by kernel_rfl) (by kernel_rfl) (by kernel_rfl) (by kernel_rfl) (by kernel_rfl) (fun _ _ _ h => h) (by rfl) ?_ (by assumption) ?_
      rotate_left
      · (intro w hSw; (try dsimp only at hSw); go_simp; try with_reducible rfl)
      try simp only [Act.put, List.setIfInBounds_toArray, List.set_cons_zero, List.set_cons_succ]
      refine take_w 37 (some 108) (v := ?_) (by kernel_rfl) (by kernel_rfl) (by kernel_rfl) (by kernel_rfl) (by kernel_rfl) (fun _ _ _ h => h) (by rfl) ?_ (by assumption) ?_
      rotate_left
      · (intro w hSw; (try dsimp only at hSw); go_simp; try with_reducible rfl)
      try simp only [Act.put, List.setIfInBounds_toArray, List.set_cons_zero, List.set_cons_succ]
      refine take_w 38 (some 109) (v := ?_) (by kernel_rfl) (by kernel_rfl) (by kernel_rfl) (by kernel_rfl) (by kernel_rfl) (fun _ _ _ h => h) (by rfl) ?_ (by assumption) ?_
      rotate_left
      · (intro w hSw; (try dsimp only at hSw); go_simp; try with_reducible rfl)
      try simp only [Act.put, List.setIfInBounds_toArray, List.set_cons_zero, List.set_cons_succ]
      refine take_w 39 (some 110) (v := ?_) (by kernel_rfl) (by kernel_rfl) (by kernel_rfl) (by kernel_rfl) (by kernel_rfl) (fun _ _ _ h => h) (by rfl) ?_ (by assumption) ?_
      rotate_left
      · (intro w hSw; (try dsimp only at hSw); go_simp; try with_reducible rfl)
      try simp only [Act.put, List.setIfInBounds_toArray, List.set_cons_zero, List.set_cons_succ]
      refine take_w 40 (some 111) (v := ?_) (by kernel_rfl) (by kernel_rfl) (by kernel_rfl) (by kernel_rfl) (by kernel_rfl) (fun _ _ _ h => h) (by rfl) ?_ (by assumption) ?_
      rotate_left
      · (intro w hSw; (try dsimp only at hSw); go_simp; try with_reducible rfl)
      try simp only [Act.put, List.setIfInBounds_toArray, List.set_cons_zero, List.set_cons_succ]
      refine take_w 41 (some 112) (v := ?_) (by kernel_rfl) (by kernel_rfl) (by kernel_rfl) (by kernel_rfl) (by kernel_rfl) (fun _ _ _ h => h) (by rfl) ?_ (by assumption) ?_
      rotate_left
      · (intro w hSw; (try dsimp only at hSw); go_simp; try with_reducible rfl)
      try simp only [Act.put, List.setIfInBounds_toArray, List.set_cons_zero, List.set_cons_succ]
      refine take_w 42 (some 113) (v := ?_) (by kernel_rfl) (by kernel_rfl) (by kernel_rfl) (by kernel_rfl) (by kernel_rfl) (fun _ _ _ h => h) (by rfl) ?_ (by assumption) ?_
      rotate_left
      · (intro w hSw; (try dsimp only at hSw); go_simp; try with_reducible rfl)
      try simp only [Act.put, List.setIfInBounds_toArray, List.set_cons_zero, List.set_cons_succ]
      refine take_w 43 (some 114) (v := ?_) (by kernel_rfl) (by kernel_rfl) (by kernel_rfl) (by kernel_rfl) (by kernel_rfl) (fun _ _ _ h => h) (by rfl) ?_ (by assumption) ?_
      rotate_left
      · (intro w hSw; (try dsimp only at hSw); go_simp; try with_reducible rfl)
      try simp only [Act.put, List.setIfInBounds_toArray, List.set_cons_zero, List.set_cons_succ]
      refine take_w 44 (some 115) (v := ?_) (by kernel_rfl) (by kernel_rfl) (by kernel_rfl) (by kernel_rfl) (by kernel_rfl) (fun _ _ _ h => h) (by rfl) ?_ (by assumption) ?_
      rotate_left
      · (intro w hSw; (try dsimp only at hSw); go_simp; try with_reducible rfl)
      try simp only [Act.put, List.setIfInBounds_toArray, List.set_cons_zero, List.set_cons_succ]
      refine take_w 45 (some 116) (v := ?_) (by kernel_rfl) (by kernel_rfl) (by kernel_rfl) (by kernel_rfl) (by kernel_rfl) (fun _ _ _ h => h) (by rfl) ?_ (by assumption) ?_
      rotate_left
      · (intro w hSw; (try dsimp only at hSw); go_simp; try with_reducible rfl)
      try simp only [Act.put, List.setIfInBounds_toArray, List.set_cons_zero, List.set_cons_succ]
      refine take_w 46 (some 117) (v := ?_) (by kernel_rfl) (by kernel_rfl) (by kernel_rfl) (by kernel_rfl) (by kernel_rfl) (fun _ _ _ h => h) (by rfl) ?_ (by assumption) ?_
      rotate_left
      · (intro w hSw; (try dsimp only at hSw); go_simp; try with_reducible rfl)
      try simp only [Act.put, List.setIfInBounds_toArray, List.set_cons_zero, List.set_cons_succ]
      refine take_w 47 (some 118) (v := ?_) (by kernel_rfl) (by kernel_rfl) (by kernel_rfl) (by kernel_rfl) (by kernel_rfl) (fun _ _ _ h => h) (by rfl) ?_ (by assumption) ?_
      rotate_left
      · (intro w hSw; (try dsimp only at hSw); go_simp; try with_reducible rfl)
      try simp only [Act.put, List.setIfInBounds_toArray, List.set_cons_zero, List.set_cons_succ]
      refine take_w 48 (some 119) (v := ?_) (by kernel_rfl) (by kernel_rfl) (by kernel_rfl) (by kernel_rfl) (by kernel_rfl) (fun _ _ _ h => h) (by rfl) ?_ (by assumption) ?_
      rotate_left
      · (intro w hSw; (try dsimp only at hSw); go_simp; try with_reducible rfl)
      try simp only [Act.put, List.setIfInBounds_toArray, List.set_cons_zero, List.set_cons_succ]
      refine take_w 49 (some 120) (v := ?_) (by kernel_rfl) (by kernel_rfl) (by kernel_rfl) (by kernel_rfl) (by kernel_rfl) (fun _ _ _ h => h) (by rfl) ?_ (by assumption) ?_
      rotate_left
      · (intro w hSw; (try dsimp only at hSw); go_simp; try with_reducible rfl)
      try simp only [Act.put, List.setIfInBounds_toArray, List.set_cons_zero, List.set_cons_succ]
      refine take_w 50 (some 121) (v := ?_) (by kernel_rfl) (by kernel_rfl) (by kernel_rfl) (by kernel_rfl) (by kernel_rfl) (fun _ _ _ h => h) (by rfl) ?_ (by assumption) ?_
      rotate_left
      · (intro w hSw; (try dsimp only at hSw); go_simp; try with_reducible rfl)
      try simp only [Act.put, List.setIfInBounds_toArray, List.set_cons_zero, List.set_cons_succ]
      refine take_w 51 (some 122) (v := ?_) (by kernel_rfl) (by kernel_rfl) (by kernel_rfl) (by kernel_rfl) (by kernel_rfl) (fun _ _ _ h => h) (by rfl) ?_ (by assumption) ?_
      rotate_left
      · (intro w hSw; (try dsimp only at hSw); go_simp; try with_reducible rfl)
      try simp only [Act.put, List.setIfInBounds_toArray, List.set_cons_zero, List.set_cons_succ]
      refine take_w 52 (some 123) (v := ?_) (by kernel_rfl) (by kernel_rfl) (by kernel_rfl) (by kernel_rfl) (by kernel_rfl) (fun _ _ _ h => h) (by rfl) ?_ (by assumption) ?_
      rotate_left
      · (intro w hSw; (try dsimp only at hSw); go_simp; try with_reducible rfl)
      try simp only [Act.put, List.setIfInBounds_toArray, List.set_cons_zero, List.set_cons_succ]
      refine take_w 53 (some 124) (v := ?_) (by kernel_rfl) (by kernel_rfl) (by kernel_rfl) (by kernel_rfl) (by kernel_rfl) (fun _ _ _ h => h) (by rfl) ?_ (by assumption) ?_
      rotate_left
      · (intro w hSw; (try dsimp only at hSw); go_simp; try with_reducible rfl)
      try simp only [Act.put, List.setIfInBounds_toArray, List.set_cons_zero, List.set_cons_succ]
      refine take_w 54 (some 125) (v := ?_) (by kernel_rfl) (by kernel_rfl) (by kernel_rfl) (by kernel_rfl) (by kernel_rfl) (fun _ _ _ h => h) (by rfl) ?_ (by assumption) ?_
      rotate_left
      · (intro w hSw; (try dsimp only at hSw); go_simp; try with_reducible rfl)
      try simp only [Act.put, List.setIfInBounds_toArray, List.set_cons_zero, List.set_cons_succ]
      refine take_w 55 (some 126) (v := ?_) (by kernel_rfl) (by kernel_rfl) (by kernel_rfl) (by kernel_rfl) (by kernel_rfl) (fun _ _ _ h => h) (by rfl) ?_ (by assumption) ?_
      rotate_left
      · (intro w hSw; (try dsimp only at hSw); go_simp; try with_reducible rfl)
      try simp only [Act.put, List.setIfInBounds_toArray, List.set_cons_zero, List.set_cons_succ]
      refine take_w 56 (some 127) (v := ?_) (by kernel_rfl) (by kernel_rfl) (by kernel_rfl) (by kernel_rfl) (by kernel_rfl) (fun _ _ _ h => h) (by rfl) ?_ (by assumption) ?_
      rotate_left
      · (intro w hSw; (try dsimp only at hSw); go_simp; try with_reducible rfl)
      try simp only [Act.put, List.setIfInBounds_toArray, List.set_cons_zero, List.set_cons_succ]
      refine take_w 57 (some 128) (v := ?_) (by kernel_rfl) (by kernel_rfl) (by kernel_rfl) (by kernel_rfl) (by kernel_rfl) (fun _ _ _ h => h) (by rfl) ?_ (by assumption) ?_
      rotate_left
      · (intro w hSw; (try dsimp only at hSw); go_simp; try with_reducible rfl)
      try simp only [Act.put, List.setIfInBounds_toArray, List.set_cons_zero, List.set_cons_succ]
      refine take_w 58 (some 129) (v := ?_) (by kernel_rfl) (by kernel_rfl) (by kernel_rfl) (by kernel_rfl) (by kernel_rfl) (fun _ _ _ h => h) (by rfl) ?_ (by assumption) ?_
      rotate_left
      · (intro w hSw; (try dsimp only at hSw); go_simp; try with_reducible rfl)
      try simp only [Act.put, List.setIfInBounds_toArray, List.set_cons_zero, List.set_cons_succ]
      refine take_w 59 (some 130) (v := ?_) (by kernel_rfl) (by kernel_rfl) (by kernel_rfl) (by kernel_rfl) (by kernel_rfl) (fun _ _ _ h => h) (by rfl) ?_ (by assumption) ?_
      rotate_left
      · (intro w hSw; (try dsimp only at hSw); go_simp; try with_reducible rfl)
      try simp only [Act.put, List.setIfInBounds_toArray, List.set_cons_zero, List.set_cons_succ]
      refine take_w 60 (some 131) (v := ?_) (by kernel_rfl) (by kernel_rfl) (by kernel_rfl) (by kernel_rfl) (by kernel_rfl) (fun _ _ _ h => h) (by rfl) ?_ (by assumption) ?_
      rotate_left
      · (intro w hSw; (try dsimp only at hSw); go_simp; try with_reducible rfl)
      try simp only [Act.put, List.setIfInBounds_toArray, List.set_cons_zero, List.set_cons_succ]
      refine take_w 61 (some 132) (v := ?_) (by kernel_rfl) (by kernel_rfl) (by kernel_rfl) (by kernel_rfl) (by kernel_rfl) (fun _ _ _ h => h) (by rfl) ?_ (by assumption) ?_
      rotate_left
      · (intro w hSw; (try dsimp only at hSw); go_simp; try with_reducible rfl)
      try simp only [Act.put, List.setIfInBounds_toArray, List.set_cons_zero, List.set_cons_succ]
      refine take_w 62 (some 133) (v := ?_) (by kernel_rfl) (by kernel_rfl) (by kernel_rfl) (by kernel_rfl) (by kernel_rfl) (fun _ _ _ h => h) (by rfl) ?_ (by assumption) ?_
      rotate_left
      · (intro w hSw; (try dsimp only at hSw); go_simp; try with_reducible rfl)
      try simp only [Act.put, List.setIfInBounds_toArray, List.set_cons_zero, List.set_cons_succ]
      refine take_w 63 (some 134) (v := ?_) (by kernel_rfl) (by kernel_rfl) (by kernel_rfl) (by kernel_rfl) (by kernel_rfl) (fun _ _ _ h => h) (by rfl) ?_ (by assumption) ?_
      rotate_left
      · (intro w hSw; (try dsimp only at hSw); go_simp; try with_reducible rfl)
      try simp only [Act.put, List.setIfInBounds_toArray, List.set_cons_zero, List.set_cons_succ]
      refine take_w 64 (some 135) (v := ?_) (by kernel_rfl) (by kernel_rfl) (by kernel_rfl) (by kernel_rfl) (by kernel_rfl) (fun _ _ _ h => h) (by rfl) ?_ (by assumption) ?_
      rotate_left
      · (intro w hSw; (try dsimp only at hSw); go_simp; try with_reducible rfl)
      try simp only [Act.put, List.setIfInBounds_toArray, List.set_cons_zero, List.set_cons_succ]
      refine wpAnyH_done (by kernel_rfl) ?_ _
      go_wp2_with fail
    case' neg =>
      have hx1 : (str X).toList.isEmpty = false := by rw [str_toList]; simpa using hXe
      have hxo := HXo.out hXe
      rw [hxo]
      simp only [Option.getD_some, Option.isSome_some]
      clear hXe HXo hxo
      go_wp2_with fail
      refine wp_region_held_drew (S := (fun w' => w'.cell? ⟨wr.heap.size, 0, none⟩ = some (.string (str X)) ∧ w'.cell? ⟨wr.heap.size, 1, none⟩ = some (.string { data := #[] }) ∧ w'.cell? ⟨wr.heap.size, 2, none⟩ = some (.int .u8 2) ∧ w'.cell? ⟨wr.heap.size, 3, none⟩ = some (.int .i64 2) ∧ w'.cell? ⟨wr.heap.size, 4, none⟩ = some (.int .i64 7) ∧ w'.cell? ⟨wr.heap.size, 5, none⟩ = some (.int .i64 (k : Int)) ∧ w'.cell? ⟨wr.heap.size, 6, none⟩ = some (.slice ax mx cx) ∧ w'.cell? ⟨wr.heap.size, 8, none⟩ = some (.int .i64 4) ∧ w'.cell? ⟨wr.heap.size, 9, none⟩ = some (.int .u8 0))) (by kernel_rfl) ?_ (fun hHeld => ?_)
      · (try dsimp only)
        (first | exact HBx.out _ ED.out | exact HBx.out _ E1.out)
      refine take_w 0 (some 71) (v := ?_) (by kernel_rfl) (by kernel_rfl) (by kernel_rfl) (by kernel_rfl) (by kernel_rfl) (fun _ _ _ h => h) (by rfl) ?_ (by assumption) ?_
      rotate_left
      · (intro w hSw; (try dsimp only at hSw); go_simp; try with_reducible rfl)
      try simp only [Act.put, List.setIfInBounds_toArray, List.set_cons_zero, List.set_cons_succ]
      refine take_w 1 (some 72) (v := ?_) (by kernel_rfl) (by kernel_rfl) (by kernel_rfl) (by kernel_rfl) (by kernel_rfl) (fun _ _ _ h => h) (by rfl) ?_ (by assumption) ?_
      rotate_left
      · (intro w hSw; (try dsimp only at hSw); go_simp; try with_reducible rfl)
      try simp only [Act.put, List.setIfInBounds_toArray, List.set_cons_zero, List.set_cons_succ]
      refine take_w 2 (some 73) (v := ?_) (by kernel_rfl) (by kernel_rfl) (by kernel_rfl) (by kernel_rfl) (by kernel_rfl) (fun _ _ _ h => h) (by rfl) ?_ (by assumption) ?_
      rotate_left
      · (intro w hSw; (try dsimp only at hSw); go_simp; try with_reducible rfl)
      try simp only [Act.put, List.setIfInBounds_toArray, List.set_cons_zero, List.set_cons_succ]
      refine take_w 3 (some 74) (v := ?_) (by kernel_rfl) (by kernel_rfl) (by kernel_rfl) (by kernel_rfl) (by kernel_rfl) (fun _ _ _ h => h) (by rfl) ?_ (by assumption) ?_
      rotate_left
      · (intro w hSw; (try dsimp only at hSw); go_simp; try with_reducible rfl)
      try simp only [Act.put, List.setIfInBounds_toArray, List.set_cons_zero, List.set_cons_succ]
      refine ready_one 4 (by kernel_rfl) (by kernel_rfl) (by rfl) (fun Kc hKc => ?_)
      go_simp
      refine (HCE.out _ (HEn.out.trans ED.out)).mono ?_
      rintro e w7 ⟨rfl, hE7⟩
      have E1 := Lib.hid (ED.out.trans hE7)
      clear hE7
      try go_wp2_with fail
      refine hKc.out _ _ ?_ (fun hHeld => ?_)
      · (try dsimp only)
        (first | exact HBx.out _ ED.out | exact HBx.out _ E1.out)
      clear hKc Kc
      try simp only [Act.put, List.setIfInBounds_toArray, List.set_cons_zero, List.set_cons_succ]
      refine take_w 5 (some 76) (v := ?_) (by kernel_rfl) (by kernel_rfl) (by kernel_rfl) (by kernel_rfl) (by kernel_rfl) (fun _ _ _ h => h) (by rfl) ?_ (by assumption) ?_
      rotate_left
      · (intro w hSw; (try dsimp only at hSw); go_simp; try with_reducible rfl)
      try simp only [Act.put, List.setIfInBounds_toArray, List.set_cons_zero, List.set_cons_succ]
      refine take_w 6 (some 77) (v := ?_) (by kernel_rfl) (by kernel_rfl) (by kernel_rfl) (by kernel_rfl) (by kernel_rfl) (fun _ _ _ h => h) (by rfl) ?_ (by assumption) ?_
      rotate_left
      · (intro w hSw; (try dsimp only at hSw); go_simp; try with_reducible rfl)
      try simp only [Act.put, List.setIfInBounds_toArray, List.set_cons_zero, List.set_cons_succ]
      refine take_w 7 (some 78) (v := ?_) (by kernel_rfl) (by kernel_rfl) (by kernel_rfl) (by kernel_rfl) (by kernel_rfl) (fun _ _ _ h => h) (by rfl) ?_ (by assumption) ?_
      rotate_left
      · (intro w hSw; (try dsimp only at hSw); go_simp; try with_reducible rfl)
      try simp only [Act.put, List.setIfInBounds_toArray, List.set_cons_zero, List.set_cons_succ]
      refine take_w 8 (some 79) (v := ?_) (by kernel_rfl) (by kernel_rfl) (by kernel_rfl) (by kernel_rfl) (by kernel_rfl) (fun _ _ _ h => h) (by rfl) ?_ (by assumption) ?_
      rotate_left
      · (intro w hSw; (try dsimp only at hSw); go_simp; try with_reducible rfl)
      try simp only [Act.put, List.setIfInBounds_toArray, List.set_cons_zero, List.set_cons_succ]
      refine take_w 9 (some 80) (v := ?_) (by kernel_rfl) (by kernel_rfl) (by kernel_rfl) (by kernel_rfl) (by kernel_rfl) (fun _ _ _ h => h) (by rfl) ?_ (by assumption) ?_
      rotate_left
      · (intro w hSw; (try dsimp only at hSw); go_simp; try with_reducible rfl)
      try simp only [Act.put, List.setIfInBounds_toArray, List.set_cons_zero, List.set_cons_succ]
      refine take_w 10 (some 81) (v := ?_) (by kernel_rfl) (by kernel_rfl) (by kernel_rfl) (by kernel_rfl) (by kernel_rfl) (fun _ _ _ h => h) (by rfl) ?_ (by assumption) ?_
      rotate_left
      · (intro w hSw; (try dsimp only at hSw); go_simp; try with_reducible rfl)
      try simp only [Act.put, List.setIfInBounds_toArray, List.set_cons_zero, List.set_cons_succ]
      refine take_w 11 (some 82) (v := ?_) (by kernel_rfl) (by kernel_rfl) (by kernel_rfl) (by kernel_rfl) (by kernel_rfl) (fun _ _ _ h => h) (by rfl) ?_ (by assumption) ?_
      rotate_left
      · (intro w hSw; (try dsimp only at hSw); go_simp; try with_reducible rfl)
      try simp only [Act.put, List.setIfInBounds_toArray, List.set_cons_zero, List.set_cons_succ]
      refine take_w 12 (some 83) (v := ?_) (by kernel_rfl) (by kernel_rfl) (by kernel_rfl) (by kernel_rfl) (by kernel_rfl) (fun _ _ _ h => h) (by rfl) ?_ (by assumption) ?_
      rotate_left
      · (intro w hSw; (try dsimp only at hSw); go_simp; try with_reducible rfl)
      try simp only [Act.put, List.setIfInBounds_toArray, List.set_cons_zero, List.set_cons_succ]
      refine take_w 13 (some 84) (v := ?_) (by kernel_rfl) (by kernel_rfl) (by kernel_rfl) (by kernel_rfl) (by kernel_rfl) (fun _ _ _ h => h) (by rfl) ?_ (by assumption) ?_
      rotate_left
      · (intro w hSw; (try dsimp only at hSw); go_simp; try with_reducible rfl)
      try simp only [Act.put, List.setIfInBounds_toArray, List.set_cons_zero, List.set_cons_succ]
      refine take_w 14 (some 85) (v := ?_) (by kernel_rfl) (by kernel_rfl) (by kernel_rfl) (by kernel_rfl) (by kernel_rfl) (fun _ _ _ h => h) (by rfl) ?_ (by assumption) ?_
      rotate_left
      · (intro w hSw; (try dsimp only at hSw); go_simp; try with_reducible rfl)
      try simp only [Act.put, List.setIfInBounds_toArray, List.set_cons_zero, List.set_cons_succ]
      refine take_w 15 (some 86) (v := ?_) (by kernel_rfl) (by kernel_rfl) (by kernel_rfl) (by kernel_rfl) (by kernel_rfl) (fun _ _ _ h => h) (by rfl) ?_ (by assumption) ?_
      rotate_left
      · (intro w hSw; (try dsimp only at hSw); go_simp; try with_reducible rfl)
      try simp only [Act.put, List.setIfInBounds_toArray, List.set_cons_zero, List.set_cons_succ]
      refine take_w 16 (some 87) (v := ?_) (by kernel_rfl) (by kernel_rfl) (by kernel_rfl) (by kernel_rfl) (by kernel_rfl) (fun _ _ _ h => h) (by rfl) ?_ (by assumption) ?_
      rotate_left
      · (intro w hSw; (try dsimp only at hSw); go_simp; try with_reducible rfl)
      try simp only [Act.put, List.setIfInBounds_toArray, List.set_cons_zero, List.set_cons_succ]
      refine take_w 17 (some 88) (v := ?_) (by kernel_rfl) (by kernel_rfl) (by kernel_rfl) (by kernel_rfl) (by kernel_rfl) (fun _ _ _ h => h) (by rfl) ?_ (by assumption) ?_
      rotate_left
      · (intro w hSw; (try dsimp only at hSw); go_simp; try with_reducible rfl)
      try simp only [Act.put, List.setIfInBounds_toArray, List.set_cons_zero, List.set_cons_succ]
      refine take_w 18 (some 89) (v := ?_) (by kernel_rfl) (by kernel_rfl) (by kernel_rfl) (by kernel_rfl) (by kernel_rfl) (fun _ _ _ h => h) (by rfl) ?_ (by assumption) ?_
      rotate_left
      · (intro w hSw; (try dsimp only at hSw); go_simp; try with_reducible rfl)
      try simp only [Act.put, List.setIfInBounds_toArray, List.set_cons_zero, List.set_cons_succ]
      refine take_w 19 (some 90) (v := ?_) (by kernel_rfl) (by kernel_rfl) (by kernel_rfl) (by kernel_rfl) (by kernel_rfl) (fun _ _ _ h => h) (by rfl) ?_ (by assumption) ?_
      rotate_left
      · (intro w hSw; (try dsimp only at hSw); go_simp; try with_reducible rfl)
      try simp only [Act.put, List.setIfInBounds_toArray, List.set_cons_zero, List.set_cons_succ]
      refine take_w 20 (some 91) (v := ?_) (by kernel_rfl) (by kernel_rfl) (by kernel_rfl) (by kernel_rfl) (by kernel_rfl) (fun _ _ _ h => h) (by rfl) ?_ (by assumption) ?_
      rotate_left
      · (intro w hSw; (try dsimp only at hSw); go_simp; try with_reducible rfl)
      try simp only [Act.put, List.setIfInBounds_toArray, List.set_cons_zero, List.set_cons_succ]
      refine take_w 21 (some 92) (v := ?_) (by kernel_rfl) (by kernel_rfl) (by kernel_rfl) (by kernel_rfl) (by kernel_rfl) (fun _ _ _ h => h) (by rfl) ?_ (by assumption) ?_
      rotate_left
      · (intro w hSw; (try dsimp only at hSw); go_simp; try with_reducible rfl)
      try simp only [Act.put, List.setIfInBounds_toArray, List.set_cons_zero, List.set_cons_succ]
      refine take_w 22 (some 93) (v := ?_) (by kernel_rfl) (by kernel_rfl) (by kernel_rfl) (by kernel_rfl) (by kernel_rfl) (fun _ _ _ h => h) (by rfl) ?_ (by assumption) ?_
      rotate_left
      · (intro w hSw; (try dsimp only at hSw); go_simp; try with_reducible rfl)
      try simp only [Act.put, List.setIfInBounds_toArray, List.set_cons_zero, List.set_cons_succ]
      refine take_w 23 (some 94) (v := ?_) (by kernel_rfl) (by kernel_rfl) (by kernel_rfl) (by kernel_rfl) (by kernel_rfl) (fun _ _ _ h => h) (by rfl) ?_ (by assumption) ?_
      rotate_left
      · (intro w hSw; (try dsimp only at hSw); go_simp; try with_reducible rfl)
      try simp only [Act.put, List.setIfInBounds_toArray, List.set_cons_zero, List.set_cons_succ]
      refine take_w 24 (some 95) (v := ?_) (by kernel_rfl) (by kernel_rfl) (by kernel_rfl) (by kernel_rfl) (by kernel_rfl) (fun _ _ _ h => h) (by rfl) ?_ (by assumption) ?_
      rotate_left
      · (intro w hSw; (try dsimp only at hSw); go_simp; try with_reducible rfl)
      try simp only [Act.put, List.setIfInBounds_toArray, List.set_cons_zero, List.set_cons_succ]
      refine take_w 25 (some 96) (v := ?_) (by kernel_rfl) (by kernel_rfl) (by kernel_rfl) (by kernel_rfl) (by kernel_rfl) (fun _ _ _ h => h) (by rfl) ?_ (by assumption) ?_
      rotate_left
      · (intro w hSw; (try dsimp only at hSw); go_simp; try with_reducible rfl)
      try simp only [Act.put, List.setIfInBounds_toArray, List.set_cons_zero, List.set_cons_succ]
      refine take_w 26 (some 97) (v := ?_) (by kernel_rfl) (by kernel_rfl) (by kernel_rfl) (by kernel_rfl) (by kernel_rfl) (fun _ _ _ h => h) (by rfl) ?_ (by assumption) ?_
      rotate_left
      · (intro w hSw; (try dsimp only at hSw); go_simp; try with_reducible rfl)
      try simp only [Act.put, List.setIfInBounds_toArray, List.set_cons_zero, List.set_cons_succ]
      refine take_w 27 (some 98) (v := ?_) (by kernel_rfl) (by kernel_rfl) (by kernel_rfl) (by kernel_rfl) (by kernel_rfl) (fun _ _ _ h => h) (by rfl) ?_ (by assumption) ?_
      rotate_left
      · (intro w hSw; (try dsimp only at hSw); go_simp; try with_reducible rfl)
      try simp only [Act.put, List.setIfInBounds_toArray, List.set_cons_zero, List.set_cons_succ]
      refine take_w 28 (some 99) (v := ?_) (by kernel_rfl) (by kernel_rfl) (by kernel_rfl) (by kernel_rfl) (by kernel_rfl) (fun _ _ _ h => h) (by rfl) ?_ (by assumption) ?_
      rotate_left
      · (intro w hSw; (try dsimp only at hSw); go_simp; try with_reducible rfl)
      try simp only [Act.put, List.setIfInBounds_toArray, List.set_cons_zero, List.set_cons_succ]
      refine take_w 29 (some 100) (v := ?_) (by kernel_rfl) (by kernel_rfl) (by kernel_rfl) (by kernel_rfl) (by kernel_rfl) (fun _ _ _ h => h) (by rfl) ?_ (by assumption) ?_
      rotate_left
      · (intro w hSw; (try dsimp only at hSw); go_simp; try with_reducible rfl)
      try simp only [Act.put, List.setIfInBounds_toArray, List.set_cons_zero, List.set_cons_succ]
      refine take_w 30 (some 101) (v := ?_) (by kernel_rfl) (by kernel_rfl) (by kernel_rfl) (by kernel_rfl) (by kernel_rfl) (fun _ _ _ h => h) (by rfl) ?_ (by assumption) ?_
      rotate_left
      · (intro w hSw; (try dsimp only at hSw); go_simp; try with_reducible rfl)
      try simp only [Act.put, List.setIfInBounds_toArray, List.set_cons_zero, List.set_cons_succ]
      refine take_w 31 (some 102) (v := ?_) (by kernel_rfl) (by kernel_rfl) (by kernel_rfl) (by kernel_rfl) (by kernel_rfl) (fun _ _ _ h => h) (by rfl) ?_ (by assumption) ?_
      rotate_left
      · (intro w hSw; (try dsimp only at hSw); go_simp; try with_reducible rfl)
      try simp only [Act.put, List.setIfInBounds_toArray, List.set_cons_zero, List.set_cons_succ]
      refine take_w 32 (some 103) (v := ?_) (by kernel_rfl) (by kernel_rfl) (by kernel_rfl) (by kernel_rfl) (by kernel_rfl) (fun _ _ _ h => h) (by rfl) ?_ (by assumption) ?_
      rotate_left
      · (intro w hSw; (try dsimp only at hSw); go_simp; try with_reducible rfl)
      try simp only [Act.put, List.setIfInBounds_toArray, List.set_cons_zero, List.set_cons_succ]
      refine take_w 33 (some 104) (v := ?_) (by kernel_rfl) (by kernel_rfl) (by kernel_rfl) (by kernel_rfl) (by kernel_rfl) (fun _ _ _ h => h) (by rfl) ?_ (by assumption) ?_
      rotate_left
      · (intro w hSw; (try dsimp only at hSw); go_simp; try with_reducible rfl)
      try simp only [Act.put, List.setIfInBounds_toArray, List.set_cons_zero, List.set_cons_succ]
      refine take_w 34 (some 105) (v := ?_) (by kernel_rfl) (by kernel_rfl) (by kernel_rfl) (by kernel_rfl) (by kernel_rfl) (fun _ _ _ h => h) (by rfl) ?_ (by assumption) ?_
      rotate_left
      · (intro w hSw; (try dsimp only at hSw); go_simp; try with_reducible rfl)
      try simp only [Act.put, List.setIfInBounds_toArray, List.set_cons_zero, List.set_cons_succ]
      refine take_w 35 (some 106) (v := ?_) (by kernel_rfl) (by kernel_rfl) (by kernel_rfl) (by kernel_rfl) (by kernel_rfl) (fun _ _ _ h => h) (by rfl) ?_ (by assumption) ?_
      rotate_left
      · (intro w hSw; (try dsimp only at hSw); go_simp; try with_reducible rfl)
      try simp only [Act.put, List.setIfInBounds_toArray, List.set_cons_zero, List.set_cons_succ]
      refine take_w 36 (some 107) (v := ?_) (by kernel_rfl) (by kernel_rfl) (by kernel_rfl) (by kernel_rfl) (by kernel_rfl) (fun _ _ _ h => h) (by rfl) ?_ (by assumption) ?_
      rotate_left
      · (intro w hSw; (try dsimp only at hSw); go_simp; try with_reducible rfl)
      try simp only [Act.put, List.setIfInBounds_toArray, List.set_cons_zero, List.set_cons_succ]
      refine take_w 37 (some 108) (v := ?_) (by kernel_rfl) (by kernel_rfl) (by kernel_rfl) (by kernel_rfl) (by kernel_rfl) (fun _ _ _ h => h) (by rfl) ?_ (by assumption) ?_
      rotate_left
      · (intro w hSw; (try dsimp only at hSw); go_simp; try with_reducible rfl)
      try simp only [Act.put, List.setIfInBounds_toArray, List.set_cons_zero, List.set_cons_succ]
      refine take_w 38 (some 109) (v := ?_) (by kernel_rfl) (by kernel_rfl) (by kernel_rfl) (by kernel_rfl) (by kernel_rfl) (fun _ _ _ h => h) (by rfl) ?_ (by assumption) ?_
      rotate_left
      · (intro w hSw; (try dsimp only at hSw); go_simp; try with_reducible rfl)
      try simp only [Act.put, List.setIfInBounds_toArray, List.set_cons_zero, List.set_cons_succ]
      refine take_w 39 (some 110) (v := ?_) (by kernel_rfl) (by kernel_rfl) (by kernel_rfl) (by kernel_rfl) (by kernel_rfl) (fun _ _ _ h => h) (by rfl) ?_ (by assumption) ?_
      rotate_left
      · (intro w hSw; (try dsimp only at hSw); go_simp; try with_reducible rfl)
      try simp only [Act.put, List.setIfInBounds_toArray, List.set_cons_zero, List.set_cons_succ]
      refine take_w 40 (some 111) (v := ?_) (by kernel_rfl) (by kernel_rfl) (by kernel_rfl) (by kernel_rfl) (by kernel_rfl) (fun _ _ _ h => h) (by rfl) ?_ (by assumption) ?_
      rotate_left
      · (intro w hSw; (try dsimp only at hSw); go_simp; try with_reducible rfl)
      try simp only [Act.put, List.setIfInBounds_toArray, List.set_cons_zero, List.set_cons_succ]
      refine take_w 41 (some 112) (v := ?_) (by kernel_rfl) (by kernel_rfl) (by kernel_rfl) (by kernel_rfl) (by kernel_rfl) (fun _ _ _ h => h) (by rfl) ?_ (by assumption) ?_
      rotate_left
      · (intro w hSw; (try dsimp only at hSw); go_simp; try with_reducible rfl)
      try simp only [Act.put, List.setIfInBounds_toArray, List.set_cons_zero, List.set_cons_succ]
      refine take_w 42 (some 113) (v := ?_) (by kernel_rfl) (by kernel_rfl) (by kernel_rfl) (by kernel_rfl) (by kernel_rfl) (fun _ _ _ h => h) (by rfl) ?_ (by assumption) ?_
      rotate_left
      · (intro w hSw; (try dsimp only at hSw); go_simp; try with_reducible rfl)
      try simp only [Act.put, List.setIfInBounds_toArray, List.set_cons_zero, List.set_cons_succ]
      refine take_w 43 (some 114) (v := ?_) (by kernel_rfl) (by kernel_rfl) (by kernel_rfl) (by kernel_rfl) (by kernel_rfl) (fun _ _ _ h => h) (by rfl) ?_ (by assumption) ?_
      rotate_left
      · (intro w hSw; (try dsimp only at hSw); go_simp; try with_reducible rfl)
      try simp only [Act.put, List.setIfInBounds_toArray, List.set_cons_zero, List.set_cons_succ]
      refine take_w 44 (some 115) (v := ?_) (by kernel_rfl) (by kernel_rfl) (by kernel_rfl) (by kernel_rfl) (by kernel_rfl) (fun _ _ _ h => h) (by rfl) ?_ (by assumption) ?_
      rotate_left
      · (intro w hSw; (try dsimp only at hSw); go_simp; try with_reducible rfl)
      try simp only [Act.put, List.setIfInBounds_toArray, List.set_cons_zero, List.set_cons_succ]
      refine take_w 45 (some 116) (v := ?_) (by kernel_rfl) (by kernel_rfl) (by kernel_rfl) (by kernel_rfl) (by kernel_rfl) (fun _ _ _ h => h) (by rfl) ?_ (by assumption) ?_
      rotate_left
      · (intro w hSw; (try dsimp only at hSw); go_simp; try with_reducible rfl)
      try simp only [Act.put, List.setIfInBounds_toArray, List.set_cons_zero, List.set_cons_succ]
      refine take_w 46 (some 117) (v := ?_) (by kernel_rfl) (by kernel_rfl) (by kernel_rfl) (by kernel_rfl) (by kernel_rfl) (fun _ _ _ h => h) (by rfl) ?_ (by assumption) ?_
      rotate_left
      · (intro w hSw; (try dsimp only at hSw); go_simp; try with_reducible rfl)
      try simp only [Act.put, List.setIfInBounds_toArray, List.set_cons_zero, List.set_cons_succ]
      refine take_w 47 (some 118) (v := ?_) (by kernel_rfl) (by kernel_rfl) (by kernel_rfl) (by kernel_rfl) (by kernel_rfl) (fun _ _ _ h => h) (by rfl) ?_ (by assumption) ?_
      rotate_left
      · (intro w hSw; (try dsimp only at hSw); go_simp; try with_reducible rfl)
      try simp only [Act.put, List.setIfInBounds_toArray, List.set_cons_zero, List.set_cons_succ]
      refine take_w 48 (some 119) (v := ?_) (by kernel_rfl) (by kernel_rfl) (by kernel_rfl) (by kernel_rfl) (by kernel_rfl) (fun _ _ _ h => h) (by rfl) ?_ (by assumption) ?_
      rotate_left
      · (intro w hSw; (try dsimp only at hSw); go_simp; try with_reducible rfl)
      try simp only [Act.put, List.setIfInBounds_toArray, List.set_cons_zero, List.set_cons_succ]
      refine take_w 49 (some 120) (v := ?_) (by kernel_rfl) (by kernel_rfl) (by kernel_rfl) (by kernel_rfl) (by kernel_rfl) (fun _ _ _ h => h) (by rfl) ?_ (by assumption) ?_
      rotate_left
      · (intro w hSw; (try dsimp only at hSw); go_simp; try with_reducible rfl)
      try simp only [Act.put, List.setIfInBounds_toArray, List.set_cons_zero, List.set_cons_succ]
      refine take_w 50 (some 121) (v := ?_) (by kernel_rfl) (by kernel_rfl) (by kernel_rfl) (by kernel_rfl) (by kernel_rfl) (fun _ _ _ h => h) (by rfl) ?_ (by assumption) ?_
      rotate_left
      · (intro w hSw; (try dsimp only at hSw); go_simp; try with_reducible rfl)
      try simp only [Act.put, List.setIfInBounds_toArray, List.set_cons_zero, List.set_cons_succ]
      refine take_w 51 (some 122) (v := ?_) (by kernel_rfl) (by kernel_rfl) (by kernel_rfl) (by kernel_rfl) (by kernel_rfl) (fun _ _ _ h => h) (by rfl) ?_ (by assumption) ?_
      rotate_left
      · (intro w hSw; (try dsimp only at hSw); go_simp; try with_reducible rfl)
      try simp only [Act.put, List.setIfInBounds_toArray, List.set_cons_zero, List.set_cons_succ]
      refine take_w 52 (some 123) (v := ?_) (by kernel_rfl) (by kernel_rfl) (by kernel_rfl) (by kernel_rfl) (by kernel_rfl) (fun _ _ _ h => h) (by rfl) ?_ (by assumption) ?_
      rotate_left
      · (intro w hSw; (try dsimp only at hSw); go_simp; try with_reducible rfl)
      try simp only [Act.put, List.setIfInBounds_toArray, List.set_cons_zero, List.set_cons_succ]
      refine take_w 53 (some 124) (v := ?_) (by kernel_rfl) (by kernel_rfl) (by kernel_rfl) (by kernel_rfl) (by kernel_rfl) (fun _ _ _ h => h) (by rfl) ?_ (by assumption) ?_
      rotate_left
      · (intro w hSw; (try dsimp only at hSw); go_simp; try with_reducible rfl)
      try simp only [Act.put, List.setIfInBounds_toArray, List.set_cons_zero, List.set_cons_succ]
      refine take_w 54 (some 125) (v := ?_) (by kernel_rfl) (by kernel_rfl) (by kernel_rfl) (by kernel_rfl) (by kernel_rfl) (fun _ _ _ h => h) (by rfl) ?_ (by assumption) ?_
      rotate_left
      · (intro w hSw; (try dsimp only at hSw); go_simp; try with_reducible rfl)
      try simp only [Act.put, List.setIfInBounds_toArray, List.set_cons_zero, List.set_cons_succ]
      refine take_w 55 (some 126) (v := ?_) (by kernel_rfl) (by kernel_rfl) (by kernel_rfl) (by kernel_rfl) (by kernel_rfl) (fun _ _ _ h => h) (by rfl) ?_ (by assumption) ?_
      rotate_left
      · (intro w hSw; (try dsimp only at hSw); go_simp; try with_reducible rfl)
      try simp only [Act.put, List.setIfInBounds_toArray, List.set_cons_zero, List.set_cons_succ]
      refine take_w 56 (some 127) (v := ?_) (by kernel_rfl) (by kernel_rfl) (by kernel_rfl) (by kernel_rfl) (by kernel_rfl) (fun _ _ _ h => h) (by rfl) ?_ (by assumption) ?_
      rotate_left
      · (intro w hSw; (try dsimp only at hSw); go_simp; try with_reducible rfl)
      try simp only [Act.put, List.setIfInBounds_toArray, List.set_cons_zero, List.set_cons_succ]
      refine take_w 57 (some 128) (v := ?_) (by kernel_rfl) (by kernel_rfl) (by kernel_rfl) (by kernel_rfl) (by kernel_rfl) (fun _ _ _ h => h) (by rfl) ?_ (by assumption) ?_
      rotate_left
      · (intro w hSw; (try dsimp only at hSw); go_simp; try with_reducible rfl)
      try simp only [Act.put, List.setIfInBounds_toArray, List.set_cons_zero, List.set_cons_succ]
      refine take_w 58 (some 129) (v := ?_) (by kernel_rfl) (by kernel_rfl) (by kernel_rfl) (by kernel_rfl) (by kernel_rfl) (fun _ _ _ h => h) (by rfl) ?_ (by assumption) ?_
      rotate_left
      · (intro w hSw; (try dsimp only at hSw); go_simp; try with_reducible rfl)
      try simp only [Act.put, List.setIfInBounds_toArray, List.set_cons_zero, List.set_cons_succ]
      refine take_w 59 (some 130) (v := ?_) (by kernel_rfl) (by kernel_rfl) (by kernel_rfl) (by kernel_rfl) (by kernel_rfl) (fun _ _ _ h => h) (by rfl) ?_ (by assumption) ?_
      rotate_left
      · (intro w hSw; (try dsimp only at hSw); go_simp; try with_reducible rfl)
      try simp only [Act.put, List.setIfInBounds_toArray, List.set_cons_zero, List.set_cons_succ]
      refine take_w 60 (some 131) (v := ?_) (by kernel_rfl) (by kernel_rfl) (by kernel_rfl) (by kernel_rfl) (by kernel_rfl) (fun _ _ _ h => h) (by rfl) ?_ (by assumption) ?_
      rotate_left
      · (intro w hSw; (try dsimp only at hSw); go_simp; try with_reducible rfl)
      try simp only [Act.put, List.setIfInBounds_toArray, List.set_cons_zero, List.set_cons_succ]
      refine take_w 61 (some 132) (v := ?_) (by kernel_rfl) (by kernel_rfl) (by kernel_rfl) (by kernel_rfl) (by kernel_rfl) (fun _ _ _ h => h) (by rfl) ?_ (by assumption) ?_
      rotate_left
      · (intro w hSw; (try dsimp only at hSw); go_simp; try with_reducible rfl)
      try simp only [Act.put, List.setIfInBounds_toArray, List.set_cons_zero, List.set_cons_succ]
      refine take_w 62 (some 133) (v := ?_) (by kernel_rfl) (by kernel_rfl) (by kernel_rfl) (by kernel_rfl) (by kernel_rfl) (fun _ _ _ h => h) (by rfl) ?_ (by assumption) ?_
      rotate_left
      · (intro w hSw; (try dsimp only at hSw); go_simp; try with_reducible rfl)
      try simp only [Act.put, List.setIfInBounds_toArray, List.set_cons_zero, List.set_cons_succ]
      refine take_w 63 (some 134) (v := ?_) (by kernel_rfl) (by kernel_rfl) (by kernel_rfl) (by kernel_rfl) (by kernel_rfl) (fun _ _ _ h => h) (by rfl) ?_ (by assumption) ?_
      rotate_left
      · (intro w hSw; (try dsimp only at hSw); go_simp; try with_reducible rfl)
      try simp only [Act.put, List.setIfInBounds_toArray, List.set_cons_zero, List.set_cons_succ]
      refine take_w 64 (some 135) (v := ?_) (by kernel_rfl) (by kernel_rfl) (by kernel_rfl) (by kernel_rfl) (by kernel_rfl) (fun _ _ _ h => h) (by rfl) ?_ (by assumption) ?_
      rotate_left
      · (intro w hSw; (try dsimp only at hSw); go_simp; try with_reducible rfl)
      try simp only [Act.put, List.setIfInBounds_toArray, List.set_cons_zero, List.set_cons_succ]
      refine wpAnyH_done (by kernel_rfl) ?_ _
      go_wp2_with fail
    all_goals
      have HEw := Lib.hid (HE.out.trans (HEn.out.trans E1.out))
      have hOw := HO.out.ext (HEn.out.trans E1.out)
      have HOw : Hid (w7.ownsRow p 3 1 (.slice ax mx cx) mx ((eachNd (ndIDs s xs 1) 7 k).after.map (Value.int .i64))) := Lib.hid (by
        have h := hOw
        unfold OwnN at h
        rw [show (eachNd (ndIDs s xs 1) 7 k).after.length = mx by show xs.tail.length = mx; rw [List.length_tail]; have := HML.out; omega] at h
        exact h)
      have HFr : Hid (∀ b, b < wr.heap.size → ¬ (p ≤ b ∧ b < q) → w7.heap[b]? = wr.heap[b]?) := Lib.hid (fun b hb _ => (HEn.out.trans E1.out).grownBy.block b hb (by simp))
      have HSz := Lib.hid (HBn.out.ext E1.out).lt
      have HBq := Lib.hid (HBn.out.ext E1.out)
      have hq6 := (HBx.out w7 E1.out).2.2.2.2.2.2.1
      clear hOw HBx HCE HO hx1 ED E1 HEn HBn hmb hHeld
      obtain ⟨wo, rfl⟩ : ∃ wo : World, wo = wr := ⟨_, rfl⟩
      go_loopw [139] (fun t2 w2 => ∃ (i : Nat) (L : List Int), i ≤ mx ∧ t2 = .int .i64 i ∧ Hid (L.length = mx ∧ ∀ j, i ≤ j → j < mx → L[j]? = xs.tail[j]?) ∧ Hid (Ext w w2) ∧ w2.cell? ⟨wo.heap.size, 6, none⟩ = some (.slice ax mx cx) ∧ Hid (w2.ownsRow p 3 1 (.slice ax mx cx) mx (L.map (Value.int .i64))) ∧ Hid (∀ b, b < wo.heap.size → ¬ (p ≤ b ∧ b < q) → w2.heap[b]? = wo.heap[b]?) ∧ Hid (wo.heap.size < w2.heap.size)) (fun t2 _ => mx - (intOf t2).toNat)
      case atStart => exact ⟨0, xs.tail, by omega, rfl, Lib.hid ⟨by rw [List.length_tail]; have := HML.out; omega, fun j _ _ => rfl⟩, HEw, hq6, HOw, HFr, HSz⟩
      case round =>
        clear HEw hq6 HOw HFr HSz
        obtain ⟨i, L, hi, rfl, HL, HE2, c6, HOw2, HFr2, HSz2⟩ := hrel
        by_cases hil : i < mx
        case neg =>
          obtain rfl : i = mx := by omega
          have HT9 := Lib.hid (HRest.out wr (Nat.le_of_lt HSz2.out) HFr2.out)
          clear HFr2 HSz2 HOw2 c6 HL hil
          go_wp2
          go_roundw
          case rel => exact ⟨k + 1, by omega, by go_num, HE2, HT9⟩
          case measure => simp [intOf]; omega
        obtain ⟨ab, cax, hae, hab1, hab2⟩ := World.ownsRow.form HOw2.out (by omega)
        injection hae with hae hae2 hae3
        subst hae hae3
        have hml := HML.out
        have hLi : i < L.length := by rw [HL.out.1]; exact hil
        obtain ⟨y, hy⟩ : ∃ y, y = xs[i + 1]'(by omega) := ⟨_, rfl⟩
        have hLy : L[i]? = some y := by
          rw [HL.out.2 i (Nat.le_refl _) hil, List.getElem?_tail, hy, List.getElem?_eq_getElem (by omega)]
        have hcy : wr.cell? ⟨ab, i, none⟩ = some (.int .i64 y) := by
          rw [World.ownsRow.cellAt HOw2.out i (by omega), List.getElem?_map, hLy]; rfl
        have hrow := HV.out
        obtain ⟨b3, o3, rfl, hb3, u0, hu0⟩ := int_at hrow HE2.out (i + 1) (by omega)
        rw [← hy] at u0 hu0
        have hi0 : (0 : Int) ≤ (i : Int) := by omega
        have hi1 : (i : Int) < (mx : Int) := by omega
        have hi2 : (0 : Int) ≤ (i : Int) + 1 := by omega
        have hi3 : (i : Int) + 1 < (xs.length : Int) := by omega
        have hwi : IntKind.i64.wrap ((i : Int) + 1) = (i : Int) + 1 := by rw [IntKind.wrap_i64]; omega
        have hqa : p ≤ ab ∧ ab < q := ⟨hab1, HOq.out ab rfl |>.1⟩
        have HL3 : Hid ((L.set i (wrap64 (y + 1))).length = mx ∧ ∀ j, i + 1 ≤ j → j < mx → (L.set i (wrap64 (y + 1)))[j]? = xs.tail[j]?) := Lib.hid ⟨by rw [List.length_set]; exact HL.out.1, fun j h1 h2 => by
          rw [List.getElem?_set_ne (by omega)]
          exact HL.out.2 j (by omega) h2⟩
        clear hrow hy hLy hLi hb3 hu0 HL hae2
        go_upto_region 19 with (fail)
        go_quiet (fail)
        have hEq := (Ext.refl wr).drewN nq
        have hw0 : wo.heap.size < (wr.drewN nq).heap.size := Nat.lt_of_lt_of_le HSz2.out hEq.size
        have HO2q := Lib.hid (hEq.own HOw2.out)
        have c6q := (hEq.cell (p := ⟨wo.heap.size, 6, none⟩) HSz2.out).trans c6
        have hcyq := (hEq.cell (p := ⟨ab, i, none⟩) hab2).trans hcy
        have HFrq : Hid (∀ b, b < wo.heap.size → ¬ (p ≤ b ∧ b < q) → (wr.drewN nq).heap[b]? = wo.heap[b]?) := Lib.hid (fun b hb hn => (hEq.grownBy.block b (Nat.lt_trans hb HSz2.out) (by simp)).trans (HFr2.out b hb hn))
        have HEq := Lib.hid (HE2.out.trans hEq)
        clear hEq HOw2 c6 hcy HFr2 HSz2 HE2 u0
        generalize wr.drewN nq = wq at *
        have hfy := World.ownsRow.frozenAt HO2q.out i
        have hst := HO2q.out.stored i (.int .i64 (wrap64 (y + 1)))
        have HO3 : Hid ((wq.setCell ⟨ab, i, none⟩ (.int .i64 (wrap64 (y + 1)))).ownsRow p 3 1 (.slice (some ⟨ab, 0, none⟩) mx cx) mx ((L.set i (wrap64 (y + 1))).map (Value.int .i64))) := Lib.hid (by rw [List.map_set]; exact hst.1)
        have hg3 := setOne_grown wq ab i (.int .i64 (wrap64 (y + 1)))
        have HE3 := Lib.hid (HEq.out.grown hg3 (fun k hk => by injection hk with hk; omega))
        have HFr3 : Hid (∀ b, b < wo.heap.size → ¬ (p ≤ b ∧ b < q) → (wq.setCell ⟨ab, i, none⟩ (.int .i64 (wrap64 (y + 1)))).heap[b]? = wo.heap[b]?) := Lib.hid (fun b hb hn => by
          rw [hg3.block b (Nat.lt_trans hb hw0) (fun e => by injection e with e; subst e; exact hn hqa)]
          exact HFrq.out b hb hn)
        have HSz3 := Lib.hid (Nat.lt_of_lt_of_le hw0 hg3.size)
        have hc63 : (wq.setCell ⟨ab, i, none⟩ (.int .i64 (wrap64 (y + 1)))).cell? ⟨wo.heap.size, 6, none⟩ = some (.slice (some ⟨ab, 0, none⟩) mx cx) := by
          rw [hg3.cell_far ⟨wo.heap.size, 6, none⟩ hw0 (fun e => by
            have e2 : wo.heap.size = ab := by injection e
            have := hqa.2
            omega)]
          exact c6q
        clear hst hg3 hqa HFrq HO2q HEq hw0
        go_upto_region 22 with (fail)
        generalize wq.setCell ⟨ab, i, none⟩ (.int .i64 (wrap64 (y + 1))) = w9 at *
        clear c6q hcyq hfy
        go_wp2
        go_roundw
        case rel => exact ⟨i + 1, _, by omega, by go_num, HL3, HE3, hc63, HO3, HFr3, HSz3⟩
        case measure => simp [intOf]; omega
end Go.Proofs.YtpcgpcjleedilaaGreatDoor

namespace Fm
open Go Go.RowKit Go.ChangeShapes Go.WideShapes Go.ChangeAt

/-- What the reading of a slice of integers says: as the guide's skeleton has it. -/
def IsRow (k : IntKind) (w : World) (a : Option Addr) (len cap : Nat) (zs : List Int) : Prop :=
  (a = none ∧ len = 0 ∧ cap = 0 ∧ zs = []) ∨
  ∃ x, a = some x ∧ len ≤ cap ∧ cap ≤ maxLen ∧ zs.length = cap ∧ (∀ i, i < zs.length → w.cell? (x.add i) = some (.int k (zs.getD i 0))) ∧ ∀ n ∈ zs, (Lit.int k n).wf = true

theorem u8_of_wf {n : Int} (h : (Lit.int .u8 n).wf = true) : ((UInt8.ofNat n.toNat).toNat : Int) = n := by
  have : 0 ≤ n ∧ n ≤ 255 := by
    simp [Lit.wf, IntKind.min, IntKind.max, IntKind.signed, IntKind.bits] at h
    omega
  rw [toNat_ofNat_lt (by omega)]; omega

theorem i64_of_wf {n : Int} (h : (Lit.int .i64 n).wf = true) : isI64 n := by
  simp [Lit.wf, IntKind.min, IntKind.max, IntKind.signed, IntKind.bits] at h
  unfold isI64; omega

theorem IsRow.bytes {w : World} {a : Option Addr} {len cap : Nat} {zs : List Int} (h : IsRow .u8 w a len cap zs) :
    ∃ xs : List UInt8, xs.length = len ∧ Bytes w (.slice a len cap) xs := by
  rcases h with ⟨rfl, rfl, rfl, rfl⟩ | ⟨x, rfl, hl, hm, hz, hc, hw⟩
  · exact ⟨[], rfl, Bytes.nil w⟩
  · refine ⟨(zs.take len).map fun n => UInt8.ofNat n.toNat, by simp; omega, ?_⟩
    have hlen : ((zs.take len).map fun n => UInt8.ofNat n.toNat).length = len := by simp; omega
    refine ⟨some x, cap, by rw [hlen], by omega, hm, (fun h => by cases h), fun ad had h0 => ?_⟩
    cases had
    have h00 := hc 0 (by omega)
    have e0 : x.add 0 = x := by unfold Addr.add; rw [if_pos rfl]
    rw [e0] at h00
    have hs : x.spot = none := by
      cases hsp : x.spot with
      | none => rfl
      | some s =>
        unfold World.cell? at h00
        cases hb : w.heap[x.block]? with
        | none => rw [hb] at h00; cases h00
        | some o => rw [hb] at h00; cases o <;> simp [hsp] at h00
    refine ⟨hs, World.block_lt_of_cell? w x h00, fun j hj => ?_⟩
    have hj' : j < zs.length := by omega
    have hjl : j < len := by omega
    have hcj := hc j hj'
    have ea : x.add j = ⟨x.block, x.off + j, none⟩ := by
      unfold Addr.add; split
      · obtain ⟨b, o, s⟩ := x; simp at hs ⊢; exact ⟨by omega, hs⟩
      · rw [← hs]
    rw [ea] at hcj
    rw [hcj]
    have hg : zs.getD j 0 = zs[j] := by simp [List.getD, hj']
    have hwf := hw zs[j] (List.getElem_mem hj')
    rw [hg]
    simp [bv, hjl, hj']
    have := u8_of_wf hwf
    simp at this
    exact this.symm
end Fm

open Go.RowKit Go.Shelf
namespace Go.Proofs.YtpcgpcjleedilaaGreatDoor
open Go Go.Proofs Fm

theorem errAt_of {W : World} {n : String} {g g' : Nat} {t : TypeId} {cs : Array Value} {f : Nat} {nm : String} {d : DataW Unit} {p : List MemPlace} (hn : Tryz.prog.globalNamed n = some g') (hty : (Tryz.prog.globals[g']?).map (·.type) = some 92)
    (hg : Tryz.prog.globalNamed n = some g) (ht : (Tryz.prog.globals[g]?).map (·.type) = some t) (hv : W.var? Tryz.prog n = some cs) (hd : DataW.trod (fun _ => ()) Tryz.prog W 0 (fun _ => true) false f t cs.toList = some (.iface nm d, p)) : ErrAt W g' := by
  obtain rfl := Option.some.inj (hn.symm.trans hg)
  obtain rfl := Option.some.inj (hty.symm.trans ht)
  obtain ⟨l⟩ := cs
  obtain ⟨f1, u, v, e, _, _⟩ := iface_of_trod Tryz.underlying92 hd
  subst e
  exact ⟨_, by simpa using World.var?_cell hg hv 0, .inr ⟨u, v, rfl⟩⟩
theorem kw_of {W : World} {g1 g2 g3 : Nat} {t1 t2 t3 : TypeId} {c1 c2 c3 : Array Value} {f1 f2 f3 : Nat} {nm2 nm3 : String} {d2 d3 : DataW Unit} {p1 p2 p3 : List MemPlace}
    (hg1 : Tryz.prog.globalNamed "internal/strconv.uint64pow10" = some g1) (ht1 : (Tryz.prog.globals[g1]?).map (·.type) = some t1) (hv1 : W.var? Tryz.prog "internal/strconv.uint64pow10" = some c1) (hd1 : DataW.trod (fun _ => ()) Tryz.prog W 0 (fun _ => true) false f1 t1 c1.toList = some (Lib.tabData .u64 Lib.pow10Tab, p1))
    (hg2 : Tryz.prog.globalNamed "strconv.ErrSyntax" = some g2) (ht2 : (Tryz.prog.globals[g2]?).map (·.type) = some t2) (hv2 : W.var? Tryz.prog "strconv.ErrSyntax" = some c2) (hd2 : DataW.trod (fun _ => ()) Tryz.prog W 0 (fun _ => true) false f2 t2 c2.toList = some (.iface nm2 d2, p2))
    (hg3 : Tryz.prog.globalNamed "strconv.ErrRange" = some g3) (ht3 : (Tryz.prog.globals[g3]?).map (·.type) = some t3) (hv3 : W.var? Tryz.prog "strconv.ErrRange" = some c3) (hd3 : DataW.trod (fun _ => ()) Tryz.prog W 0 (fun _ => true) false f3 t3 c3.toList = some (.iface nm3 d3, p3)) : KW W := by
  refine ⟨?_, errAt_of (by kernel_rfl) (by kernel_rfl) hg2 ht2 hv2 hd2, errAt_of (by kernel_rfl) (by kernel_rfl) hg3 ht3 hv3 hd3⟩
  have hg : Tryz.prog.globalNamed "internal/strconv.uint64pow10" = some 5 := by kernel_rfl
  have hty : (Tryz.prog.globals[5]?).map (·.type) = some 168 := by kernel_rfl
  obtain rfl := Option.some.inj (hg.symm.trans hg1)
  obtain rfl := Option.some.inj (hty.symm.trans ht1)
  unfold Tab Lib.TabIs
  rw [hv1]
  congr 1
  have h := Lib.cells_of_tab Tryz.underlying168 Tryz.underlying148 (by kernel_rfl) (by kernel_rfl) hd1
  rw [← h]
end Go.Proofs.YtpcgpcjleedilaaGreatDoor
