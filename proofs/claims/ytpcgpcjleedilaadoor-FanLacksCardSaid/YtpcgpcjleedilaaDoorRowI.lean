/- What the laid variables give to the walks of package ident. -/
import Derived.Test.YtpcgpcjleedilaaDoorPlFj
import Derived.Test.YtpcgpcjleedilaaDoorPlFi
import Derived.Deep.RegionLaw
import Derived.Test.YtpcgpcjleedilaaDoorWireC
import Derived.Test.YtpcgpcjleedilaaDoorPlS
import Derived.ProofKit
import Derived.OpenShut
import Derived.ShutString
import Derived.ChangeOld
import Derived.Test.YtpcgpcjleedilaaDoorFaF
import Derived.LaidLaws
import Derived.Lib.LaidTab
open Go.RowKit Go.Shelf
namespace Fm
open Go Go.RowKit
/-- Two numbers in a block. -/
theorem liesS_two {w : World} {b : Nat} {x y : Int} {e : TypeId} {fr : Nat × Nat} (hx : isI64 x) (hy : isI64 y) (hb : w.heap[b]? = some (.cells #[.int .u8 0, .int .i64 x, .string { data := #[] }, .slice none 0 0, .int .u8 0, .int .i64 y, .string { data := #[] }, .slice none 0 0] e fr)) :
    LiesS w [numT x, numT y] (.slice (some ⟨b, 0, none⟩) 2 2) := by
  have hl : b < w.heap.size := (Array.getElem?_eq_some_iff.1 hb).1
  refine ⟨_, 2, rfl, by simp, by unfold maxLen; omega, (fun h => by cases h), (fun i j => (#[.int .u8 0, .int .i64 x, .string { data := #[] }, .slice none 0 0, .int .u8 0, .int .i64 y, .string { data := #[] }, .slice none 0 0] : Array Value).getD (i * 4 + j) .nilFunc), fun _ => ⟨b, 0, rfl, hl, fun i j hi hj => ?_⟩, fun i hi => ?_⟩
  · have hi : i < 2 := hi
    unfold World.cell?
    rw [hb]
    rcases (by omega : i = 0 ∨ i = 1) with rfl | rfl <;> rcases (by omega : j = 0 ∨ j = 1 ∨ j = 2 ∨ j = 3) with rfl | rfl | rfl | rfl <;> rfl
  · have hi : i < 2 := hi
    rcases (by omega : i = 0 ∨ i = 1) with rfl | rfl
    · exact (OwnT.mk (e := 0) (base := 0) (k := 0) (s := []) hx (by simp) (OwnL.nil _ _ _)).lies
    · exact (OwnT.mk (e := 0) (base := 0) (k := 0) (s := []) hy (by simp) (OwnL.nil _ _ _)).lies
theorem liesS_one {w : World} {b : Nat} {x : Int} {e : TypeId} {fr : Nat × Nat} (hx : isI64 x) (hb : w.heap[b]? = some (.cells #[.int .u8 0, .int .i64 x, .string { data := #[] }, .slice none 0 0] e fr)) :
    LiesS w [numT x] (.slice (some ⟨b, 0, none⟩) 1 1) := by
  have hl : b < w.heap.size := (Array.getElem?_eq_some_iff.1 hb).1
  refine ⟨_, 1, rfl, by simp, by unfold maxLen; omega, (fun h => by cases h), (fun i j => (#[.int .u8 0, .int .i64 x, .string { data := #[] }, .slice none 0 0] : Array Value).getD (i * 4 + j) .nilFunc), fun _ => ⟨b, 0, rfl, hl, fun i j hi hj => ?_⟩, fun i hi => ?_⟩
  · have hi : i < 1 := hi
    unfold World.cell?
    rw [hb]
    rcases (by omega : i = 0) with rfl
    rcases (by omega : j = 0 ∨ j = 1 ∨ j = 2 ∨ j = 3) with rfl | rfl | rfl | rfl <;> rfl
  · have hi : i < 1 := hi
    rcases (by omega : i = 0) with rfl
    exact (OwnT.mk (e := 0) (base := 0) (k := 0) (s := []) hx (by simp) (OwnL.nil _ _ _)).lies
/-- A copy's nodes, and a block behind it. -/
theorem CopyN.farN {eN eI eV : TypeId} {base : Nat} {w w' : World} {v : Value} {l : List Nd} (h : CopyN eN eI eV base w v l) (hE : Ext w w') {b : Nat} (hb : w.heap.size ≤ b) :
    ∃ ds : List (List Value), ds.length = l.length ∧ w'.ownsRow base eN 16 v l.length ds.flatten ∧ ∀ (i : Nat) (hi : i < l.length) (hc : i < ds.length), FarNd w' (some b) l[i] ds[i] := by
  obtain ⟨cs, lo, h1, h2, h3, h4, h5, h6, h7⟩ := h
  have hmon := lo_mono h5
  refine ⟨cs, h1, hE.own h2, fun i hi hc => farNd_of (fun w'' hw' => ((h7 i hi hc).far (fun c hb1 hb2 => ?_)).v)⟩
  have := hmon l.length (Nat.le_refl _) (i + 1) (by omega)
  rw [hw'.block c (by have := hE.size; omega) (fun e => by injection e with e; omega)]
  exact hE.grownBy.block c (by omega) (by simp)
end Fm
namespace Go.Proofs.YtpcgpcjleedilaaDoor
open Go Go.Proofs Fm

theorem awA_v {w0 : World} {a : Option Addr} {n c : Nat} (h : LiesS w0 [numT 5, numT 7] (.slice a n c)) : ∀ W, Ext w0 W → NdV W awA (.agg #[.string { data := #[48, 47, 97] }, .string { data := #[] }, .int .u8 0, .int .i64 0, .int .i64 (-1), .int .i64 0, .slice none 0 0, .int .i64 0, .int .i64 0, .int .u8 4, .int .i64 0, .int .i64 0, .int .u8 2, .int .i64 0, .string { data := #[] }, .slice a n c]) := fun W hW => by
  have z : isI64 0 := by unfold isI64; omega
  exact ⟨none, 0, 0, .int .u8 2, .int .i64 0, .string { data := #[] }, .slice a n c, rfl, Elem.Row.void _ _ _, list18_lies (h.ext hW), by simp [awA], by simp [awA], z, by show isI64 (-1); unfold isI64; omega, z, z, z, z, z⟩
theorem awM_v {W : World} {wd : Int} (hwd : isI64 wd) {a : Option Addr} {n c : Nat} (h : intE.Row W [0] (.slice a n c)) : NdV W (awM wd) (.agg #[.string { data := #[48, 47, 109] }, .string { data := #[] }, .int .u8 1, .int .i64 0, .int .i64 (-1), .int .i64 0, .slice a n c, .int .i64 wd, .int .i64 0, .int .u8 0, .int .i64 0, .int .i64 0, .int .u8 0, .int .i64 0, .string { data := #[] }, .slice none 0 0]) := by
  have z : isI64 0 := by unfold isI64; omega
  exact ⟨a, n, c, .int .u8 0, .int .i64 0, .string { data := #[] }, .slice none 0 0, rfl, h, (num18_own z W 0).lies, by simp [awM], by simp [awM], z, by show isI64 (-1); unfold isI64; omega, z, hwd, z, z, z⟩
set_option maxRecDepth 100000 in
set_option maxHeartbeats 8000000 in
theorem awake18_any (w : World) (hw : KW w) :
    Calls Tryd.prog 23 #[] w fun e w' => e = .returned (.bool true) ∧ Ext w w' := by
  have HKW := Lib.hid hw
  clear hw
  go_enter Tryd.func23, Tryd.ntmps23
  go_wp2_with fail
  refine (num18_any 5 w).mono ?_
  rintro e w1 ⟨rfl, hE1⟩
  go_wp2_with fail
  refine (num18_any 7 w1).mono ?_
  rintro e w2 ⟨rfl, hE2⟩
  have hb3 := heap_alloc_new w2 (.cells #[.int .u8 0, .int .i64 5, .string { data := #[] }, .slice none 0 0, .int .u8 0, .int .i64 7, .string { data := #[] }, .slice none 0 0] 46)
  have hE3 := (Ext.refl w2).alloc (.cells #[.int .u8 0, .int .i64 5, .string { data := #[] }, .slice none 0 0, .int .u8 0, .int .i64 7, .string { data := #[] }, .slice none 0 0] 46)
  have hz3 : w2.heap.size < (w2.alloc (.cells #[.int .u8 0, .int .i64 5, .string { data := #[] }, .slice none 0 0, .int .u8 0, .int .i64 7, .string { data := #[] }, .slice none 0 0] 46)).heap.size := by simp
  go_wp2_with fail
  generalize w2.alloc (.cells #[.int .u8 0, .int .i64 5, .string { data := #[] }, .slice none 0 0, .int .u8 0, .int .i64 7, .string { data := #[] }, .slice none 0 0] 46) = W3 at *
  have HL := Lib.hid (liesS_two (by unfold isI64; omega) (by unfold isI64; omega) hb3)
  have HE3 := Lib.hid ((hE1.trans hE2).trans hE3)
  refine (list18_any _ 2 2 W3).mono ?_
  rintro e w4 ⟨rfl, hE4⟩
  generalize w2.heap.size = VB at *
  obtain ⟨Ca, hCa⟩ : ∃ Ca, Ca = ([.string { data := #[48, 47, 97] }, .string { data := #[] }, .int .u8 0, .int .i64 0, .int .i64 (-1), .int .i64 0, .slice none 0 0, .int .i64 0, .int .i64 0, .int .u8 4, .int .i64 0, .int .i64 0, .int .u8 2, .int .i64 0, .string { data := #[] }, .slice (some ⟨VB, 0, none⟩) 2 2] : List Value) := ⟨_, rfl⟩
  have HAG : Hid ((Value.agg #[.string { data := #[48, 47, 97] }, .string { data := #[] }, .int .u8 0, .int .i64 0, .int .i64 (-1), .int .i64 0, .slice none 0 0, .int .i64 0, .int .i64 0, .int .u8 4, .int .i64 0, .int .i64 0, .int .u8 2, .int .i64 0, .string { data := #[] }, .slice (some ⟨VB, 0, none⟩) 2 2]) = .agg Ca.toArray) := Lib.hid (by rw [hCa])
  have HLa : Hid (Ca.length = 16) := Lib.hid (by rw [hCa]; rfl)
  have HLna : Hid ((Tryd.prog.info? 54).map (·.size) = some Ca.length) := Lib.hid (by rw [hCa]; exact sizenode_F)
  have HVa : Hid (∀ W, Ext w4 W → NdV W awA (.agg Ca.toArray)) := Lib.hid (by rw [hCa]; exact fun W hW => awA_v HL.out W (hE4.trans hW))
  have HN1 := Lib.hid (ndV_one (HVa.out w4 (Ext.refl _))).2
  have HE4 := Lib.hid (HE3.out.trans hE4)
  clear hCa hE1 hE2 hE3 hE4 hb3 hz3 HL HE3
  go_upto_region 2 with (refine wpList_storeBox rfl _ _ _ rfl _ _ _ _ rfl rfl rfl (by exact HAG.out) sizenode_F rfl HLa.out HN1.out ?_)
  have hE5 := (Ext.refl w4).alloc (.cells Ca.toArray 54)
  have hR5 := rangeAt_new w4 Ca 54
  have hz5 : w4.heap.size < (w4.alloc (.cells Ca.toArray 54)).heap.size := by simp
  generalize w4.alloc (.cells Ca.toArray 54) = W5 at *
  generalize hB1 : w4.heap.size = B1 at *
  have hb6 := heap_alloc_new W5 (.cells #[.int .i64 0] 3)
  have hE6 := (Ext.refl W5).alloc (.cells #[.int .i64 0] 3)
  have ho6 := World.ownsRow_lit W5 #[.int .i64 0] 1 (base := 0) (e := 3) (size := 1) (Nat.zero_le _) (by unfold maxLen; omega) rfl
  have hz6 : (W5.alloc (.cells #[.int .i64 0] 3)).heap.size = W5.heap.size + 1 := by simp
  obtain ⟨AB, hAB⟩ : ∃ AB, AB = W5.heap.size := ⟨_, rfl⟩
  rw [← hAB] at ho6 hb6 hz6
  obtain ⟨Cm, hCm⟩ : ∃ Cm, Cm = ([.string { data := #[48, 47, 109] }, .string { data := #[] }, .int .u8 1, .int .i64 0, .int .i64 (-1), .int .i64 0, .slice (some ⟨AB, 0, none⟩) 1 1, .int .i64 2, .int .i64 0, .int .u8 0, .int .i64 0, .int .i64 0, .int .u8 0, .int .i64 0, .string { data := #[] }, .slice none 0 0] : List Value) := ⟨_, rfl⟩
  have HMG : Hid ((Value.agg #[.string { data := #[48, 47, 109] }, .string { data := #[] }, .int .u8 1, .int .i64 0, .int .i64 (-1), .int .i64 0, .slice (some ⟨AB, 0, none⟩) 1 1, .int .i64 2, .int .i64 0, .int .u8 0, .int .i64 0, .int .i64 0, .int .u8 0, .int .i64 0, .string { data := #[] }, .slice none 0 0]) = .agg Cm.toArray) := Lib.hid (by rw [hCm])
  have HLm : Hid (Cm.length = 16) := Lib.hid (by rw [hCm]; rfl)
  have HLnm : Hid ((Tryd.prog.info? 54).map (·.size) = some Cm.length) := Lib.hid (by rw [hCm]; exact sizenode_F)
  have HVm : Hid (∀ W, Ext (W5.alloc (.cells #[.int .i64 0] 3)) W → NdV W (awM 2) (.agg Cm.toArray)) := Lib.hid (by
    rw [hCm]
    exact fun W hW => awM_v (by unfold isI64; omega) (OwnN.row (e := 3) (base := 0) (hW.own ho6) (fun i hi => by rw [List.mem_singleton] at hi; subst hi; unfold isI64; omega)))
  have HM1 := Lib.hid (ndV_one (HVm.out _ (Ext.refl _))).2
  have HE6 := Lib.hid (HE4.out.trans (hE5.trans hE6))
  have HE46 := Lib.hid (hE5.trans hE6)
  have HR6 := Lib.hid (rangeAt_ext hR5 hE6 hz5)
  subst hAB
  have HZ6 := Lib.hid hz6
  clear hCm ho6 hb6 hE5 hE6 hR5 HAG
  go_upto_region 3 with (refine wpList_storeBox rfl _ _ _ rfl _ _ _ _ rfl (by exact HZ6.out.symm) rfl (by exact HMG.out) sizenode_F rfl HLm.out HM1.out ?_)
  have HZ1 := Lib.hid (show B1 < (W5.alloc (.cells #[.int .i64 0] 3)).heap.size by omega)
  generalize W5.alloc (.cells #[.int .i64 0] 3) = W6 at *
  have hE7 := (Ext.refl W6).alloc (.cells Cm.toArray 54)
  have hR7 := rangeAt_new W6 Cm 54
  have HZ2 := Lib.hid (show W6.heap.size < (W6.alloc (.cells Cm.toArray 54)).heap.size by simp)
  rw [← hz6]
  generalize W6.alloc (.cells Cm.toArray 54) = W at *
  generalize hB2 : W6.heap.size = B2 at *
  have HSZ := Lib.hid (Nat.le_refl W.heap.size)
  have HSS : Hid (∀ wx, Ext W wx → wx.rangeAt B1 0 Ca ∧ wx.rangeAt B2 0 Cm) := Lib.hid (fun wx hx => ⟨rangeAt_ext HR6.out (hE7.trans hx) (by rw [hB2]; exact HZ1.out), rangeAt_ext hR7 hx HZ2.out⟩)
  have HE7 := Lib.hid (HE6.out.trans hE7)
  have ED := Lib.hid (Ext.refl W).drew
  have HEC : Hid (∀ wx, Ext W wx → Calls Tryd.prog 38 #[.agg Cm.toArray, .int .i64 1, .int .i64 2] wx (EachPost wx (awM 2) 1 2)) := Lib.hid (fun wx hx => feach_any (awM 2) 1 2 (by unfold isI64; omega) (by simp [awM]) (by simp [awM]) wx (HKW.out.ext (HE7.out.trans hx)) _ (HVm.out wx (hE7.trans hx)))
  have HLam : Hid ((Ca ++ Cm).toArray.size = 2 * 16) := Lib.hid (by rw [List.size_toArray, List.length_append, HLa.out, HLm.out])
  have HFam : Hid (∀ wx, Ext W wx → ∀ row : Option Nat, (∀ b, row = some b → W.heap.size ≤ b) → ∀ (i : Nat) (hi : i < [awA, awM 2].length) (hc : i < [Ca, Cm].length), FarNd wx row [awA, awM 2][i] [Ca, Cm][i]) := Lib.hid (fun wx hx row hrow i hi hc => by
    refine farNd_of (fun w' hw' => ?_)
    have hX : Ext W w' := hx.grown hw' hrow
    have hi : i < 2 := hi
    rcases (by omega : i = 0 ∨ i = 1) with rfl | rfl
    · exact HVa.out w' (HE46.out.trans (hE7.trans hX))
    · exact HVm.out w' (hE7.trans hX))
  have HEF := Lib.hid aw_eachF
  clear hE7 hR7 hz6 HR6 HM1 HN1 HMG
  simp only [Act.put]
  go_cut [3] from 23 to 28 (fun l w' => ∃ A C, l = .slice A 4 C ∧ Hid (HeldN 54 w.heap.size w' (.slice A 4 C) aw0) ∧ Hid (Ext w w'))
  case first =>
   refine wp_region_held_drew (S := (fun w' => w'.rangeAt B1 0 Ca ∧ w'.rangeAt B2 0 Cm)) (by kernel_rfl) ?_ (fun hHeld => ?_)
   · (try dsimp only)
     (first | exact HSS.out _ ED.out | exact HSS.out _ E1.out | exact HSS.out _ E2.out | exact HSS.out _ E3.out)
   refine take_mid 0 (some 23) (cs := Ca) (by kernel_rfl) (by kernel_rfl) (by kernel_rfl) (by kernel_rfl) (by kernel_rfl) (fun _ _ _ h => h) (by rfl) 54 (.tmp 1) (by kernel_rfl) B1 0 (by rfl) _ (fun _ h => h.1) Tryd.underlying54 rfl HLna.out (by assumption) ?_
   try simp only [Act.put, List.setIfInBounds_toArray, List.set_cons_zero, List.set_cons_succ]
   refine take_mid 1 (some 24) (cs := Cm) (by kernel_rfl) (by kernel_rfl) (by kernel_rfl) (by kernel_rfl) (by kernel_rfl) (fun _ _ _ h => h) (by rfl) 54 (.tmp 2) (by kernel_rfl) B2 0 (by rfl) _ (fun _ h => h.2) Tryd.underlying54 rfl HLnm.out (by assumption) ?_
   try simp only [Act.put, List.setIfInBounds_toArray, List.set_cons_zero, List.set_cons_succ]
   refine take_mid 3 (some 26) (cs := Cm) (by kernel_rfl) (by kernel_rfl) (by kernel_rfl) (by kernel_rfl) (by kernel_rfl) (fun _ _ _ h => h) (by rfl) 54 (.tmp 2) (by kernel_rfl) B2 0 (by rfl) _ (fun _ h => h.2) Tryd.underlying54 rfl HLnm.out (by assumption) ?_
   try simp only [Act.put, List.setIfInBounds_toArray, List.set_cons_zero, List.set_cons_succ]
   refine ready_two 2 4 (by kernel_rfl) (by kernel_rfl) (by kernel_rfl) (by rfl) (by rfl) (fun Kc hKc => ?_) (fun Kc hKc => ?_)
   · refine wp_nodes2 (.tmp 23) (.tmp 24) (by rfl) (by kernel_rfl) (by kernel_rfl) HLa.out HLm.out ?_
     change Kc (Act.put _ (some 25) _) _
     have E1 := Lib.hid (ED.out.alloc (.cells (Ca ++ Cm).toArray 54))
     have HO1 : Hid ((W.drew.alloc (.cells (Ca ++ Cm).toArray 54)).ownsRow W.heap.size 54 16 (.slice (some ⟨W.heap.size, 0, none⟩) 2 2) 2 (Ca ++ Cm)) := Lib.hid (World.ownsRow_lit W.drew (Ca ++ Cm).toArray 2 (Nat.le_refl _) (by unfold maxLen; omega) HLam.out)
     refine hKc.out _ _ ?_ (fun hHeld => ?_)
     · (try dsimp only)
       (first | exact HSS.out _ ED.out | exact HSS.out _ E1.out | exact HSS.out _ E2.out | exact HSS.out _ E3.out)
     clear hKc Kc
     try simp only [Act.put, List.setIfInBounds_toArray, List.set_cons_zero, List.set_cons_succ]
     refine ready_one 4 (by kernel_rfl) (by kernel_rfl) (by rfl) (fun Kc hKc => ?_)
     go_simp
     refine (HEC.out _ E1.out).mono ?_
     rintro e w4 ⟨d, rfl, hE4, hC4⟩
     obtain ⟨a4, c4, rfl⟩ := hC4.slice
     have E2 := Lib.hid (E1.out.trans hE4)
     have HC4 := Lib.hid hC4
     have HO2 := Lib.hid (hE4.own HO1.out)
     clear hE4 hC4
     try go_wp2_with fail
     refine hKc.out _ _ ?_ (fun hHeld => ?_)
     · (try dsimp only)
       (first | exact HSS.out _ ED.out | exact HSS.out _ E1.out | exact HSS.out _ E2.out | exact HSS.out _ E3.out)
     clear hKc Kc
     try simp only [Act.put, List.setIfInBounds_toArray, List.set_cons_zero, List.set_cons_succ]
     refine ready_one 5 (by kernel_rfl) (by kernel_rfl) (by rfl) (fun Kc hKc => ?_)
     have hc4 := HC4.out
     have hz4 : W.heap.size ≤ (W.drew.alloc (.cells (Ca ++ Cm).toArray 54)).heap.size := by simp
     obtain ⟨ds, hds, hdrow, hdf⟩ := hc4.far (row := (Value.slice (some ⟨W.heap.size, 0, none⟩) 2 2).ownBlock) (fun b hb => by simp [Value.ownBlock] at hb; rw [← hb]; simp)
     have HSrc := Lib.hid (Src.nodes Tryd.underlying48 hdrow (fun D hD u hu => by
       obtain ⟨k, hk, rfl⟩ := List.getElem_of_mem hD
       exact (hdf k (by rw [← hds]; exact hk) hk).2.1 u hu))
     rw [HEF.out] at HSrc hdf hds
     refine wp_appendS (.tmp 25) (.tmp 27) 48 (by rfl) elemnode_F W.heap.size (.slice (some ⟨W.heap.size, 0, none⟩) 2 2) 2 (Ca ++ Cm) (by rfl) HO2.out _ 2 ds.flatten (by rw [HEF.out]; rfl) HSrc.out (by unfold maxLen; omega) (by omega) E2.out.size ?_
     intro A C w6 hown6 hgr6 hat6
     change Kc (Act.put _ (some 28) _) _
     have E3 := Lib.hid (E2.out.grown hgr6 (fun k hk => (World.ownsRow.lt HO2.out k hk).1))
     have hH6 : HeldN 54 W.heap.size w6 (.slice A (2 + 2) C) aw0 := HeldN.app (v := .slice (some ⟨W.heap.size, 0, none⟩) 2 2) (l := [awA, awM 2]) (m := [awE 0, awE 1]) (cs := [Ca, Cm]) rfl (HFam.out _ E2.out _ (fun b hb => by simp [Value.ownBlock] at hb; have := HSZ.out; omega)) hds hdf (by simpa using hown6) hgr6 hat6
     have HH6 := Lib.hid hH6
     clear hH6 hown6 hgr6 hat6 hds hdrow hdf
     refine hKc.out _ _ ?_ (fun hHeld => ?_)
     · (try dsimp only)
       (first | exact HSS.out _ ED.out | exact HSS.out _ E1.out | exact HSS.out _ E2.out | exact HSS.out _ E3.out)
     clear hKc Kc
     try simp only [Act.put, List.setIfInBounds_toArray, List.set_cons_zero, List.set_cons_succ]
     refine take_w 6 (some 3) (v := ?_) (by kernel_rfl) (by kernel_rfl) (by kernel_rfl) (by kernel_rfl) (by kernel_rfl) (fun _ _ _ h => h) (by rfl) ?_ (by assumption) ?_
     rotate_left
     · (intro w hSw; (try dsimp only at hSw); go_simp; try with_reducible rfl)
     try simp only [Act.put, List.setIfInBounds_toArray, List.set_cons_zero, List.set_cons_succ]
     refine wpAnyH_done (by kernel_rfl) ?_ _
     have HE6 := Lib.hid (HE7.out.trans E3.out)
     go_wp2_with fail
     go_meet
     case rel => exact ⟨_, _, rfl, Lib.hid (HH6.out.mono HE7.out.size), HE6⟩
   · go_simp
     refine (HEC.out _ ED.out).mono ?_
     rintro e w4 ⟨d, rfl, hE4, hC4⟩
     obtain ⟨a4, c4, rfl⟩ := hC4.slice
     have E1 := Lib.hid (ED.out.trans hE4)
     have HC4 := Lib.hid hC4
     have HZ4 := Lib.hid (Nat.le_refl w4.heap.size)
     clear hE4 hC4
     try go_wp2_with fail
     refine hKc.out _ _ ?_ (fun hHeld => ?_)
     · (try dsimp only)
       (first | exact HSS.out _ ED.out | exact HSS.out _ E1.out | exact HSS.out _ E2.out | exact HSS.out _ E3.out)
     clear hKc Kc
     try simp only [Act.put, List.setIfInBounds_toArray, List.set_cons_zero, List.set_cons_succ]
     refine ready_one 2 (by kernel_rfl) (by kernel_rfl) (by rfl) (fun Kc hKc => ?_)
     refine wp_nodes2 (.tmp 23) (.tmp 24) (by rfl) (by kernel_rfl) (by kernel_rfl) HLa.out HLm.out ?_
     change Kc (Act.put _ (some 25) _) _
     have E2 := Lib.hid (E1.out.alloc (.cells (Ca ++ Cm).toArray 54))
     have HO2 : Hid ((w4.alloc (.cells (Ca ++ Cm).toArray 54)).ownsRow W.heap.size 54 16 (.slice (some ⟨w4.heap.size, 0, none⟩) 2 2) 2 (Ca ++ Cm)) := Lib.hid (World.ownsRow_lit w4 (Ca ++ Cm).toArray 2 E1.out.size (by unfold maxLen; omega) HLam.out)
     have HE0 := Lib.hid ((Ext.refl w4).alloc (.cells (Ca ++ Cm).toArray 54))
     refine hKc.out _ _ ?_ (fun hHeld => ?_)
     · (try dsimp only)
       (first | exact HSS.out _ ED.out | exact HSS.out _ E1.out | exact HSS.out _ E2.out | exact HSS.out _ E3.out)
     clear hKc Kc
     try simp only [Act.put, List.setIfInBounds_toArray, List.set_cons_zero, List.set_cons_succ]
     refine ready_one 5 (by kernel_rfl) (by kernel_rfl) (by rfl) (fun Kc hKc => ?_)
     have hc4 := (CopyN.kept (HC4.out) HE0.out.grownBy (fun b hb => by cases hb))
     obtain ⟨ds, hds, hdrow, hdf⟩ := HC4.out.farN HE0.out (b := w4.heap.size) (Nat.le_refl _)
     have HSrc := Lib.hid (Src.nodes Tryd.underlying48 hdrow (fun D hD u hu => by
       obtain ⟨k, hk, rfl⟩ := List.getElem_of_mem hD
       exact (hdf k (by rw [← hds]; exact hk) hk).2.1 u hu))
     rw [HEF.out] at HSrc hdf hds
     refine wp_appendS (.tmp 25) (.tmp 27) 48 (by rfl) elemnode_F W.heap.size (.slice (some ⟨w4.heap.size, 0, none⟩) 2 2) 2 (Ca ++ Cm) (by rfl) HO2.out _ 2 ds.flatten (by rw [HEF.out]; rfl) HSrc.out (by unfold maxLen; omega) (by omega) E2.out.size ?_
     intro A C w6 hown6 hgr6 hat6
     change Kc (Act.put _ (some 28) _) _
     have E3 := Lib.hid (E2.out.grown hgr6 (fun k hk => (World.ownsRow.lt HO2.out k hk).1))
     have hH6 : HeldN 54 W.heap.size w6 (.slice A (2 + 2) C) aw0 := HeldN.app (v := .slice (some ⟨w4.heap.size, 0, none⟩) 2 2) (l := [awA, awM 2]) (m := [awE 0, awE 1]) (cs := [Ca, Cm]) rfl (HFam.out _ E2.out _ (fun b hb => by simp [Value.ownBlock] at hb; have := E1.out.size; omega)) hds hdf (by simpa using hown6) hgr6 hat6
     have HH6 := Lib.hid hH6
     clear hH6 hown6 hgr6 hat6 hds hdrow hdf
     refine hKc.out _ _ ?_ (fun hHeld => ?_)
     · (try dsimp only)
       (first | exact HSS.out _ ED.out | exact HSS.out _ E1.out | exact HSS.out _ E2.out | exact HSS.out _ E3.out)
     clear hKc Kc
     try simp only [Act.put, List.setIfInBounds_toArray, List.set_cons_zero, List.set_cons_succ]
     refine take_w 6 (some 3) (v := ?_) (by kernel_rfl) (by kernel_rfl) (by kernel_rfl) (by kernel_rfl) (by kernel_rfl) (fun _ _ _ h => h) (by rfl) ?_ (by assumption) ?_
     rotate_left
     · (intro w hSw; (try dsimp only at hSw); go_simp; try with_reducible rfl)
     try simp only [Act.put, List.setIfInBounds_toArray, List.set_cons_zero, List.set_cons_succ]
     refine wpAnyH_done (by kernel_rfl) ?_ _
     have HE6 := Lib.hid (HE7.out.trans E3.out)
     go_wp2_with fail
     go_meet
     case rel => exact ⟨_, _, rfl, Lib.hid (HH6.out.mono HE7.out.size), HE6⟩
  case rest =>
  obtain ⟨A, C, rfl, HH, HE⟩ := hcut
  rename World => WA
  obtain ⟨g, c, hA, hg1, hg2⟩ := HH.out.form (by decide)
  injection hA with hA1 hA2 hA3
  subst hA1 hA3
  clear hA2 HSS ED HEC HLam HFam HEF HSZ HZ2 HZ1 hB2 HLa HLm HLna HLnm HVa HVm HE4 HE6 HE46 HE7 HZ6
  have e2 : WA.cell? ⟨g, 32, none⟩ = some (.string { data := #[48, 47, 109, 91, 48, 93] }) := by
    have h := HH.out.idAt (i := 2) (by decide)
    rw [show aw0[2].id = [48, 47, 109, 91, 48, 93] from awE0_id] at h
    exact h
  have e3 : WA.cell? ⟨g, 48, none⟩ = some (.string { data := #[48, 47, 109, 91, 49, 93] }) := by
    have h := HH.out.idAt (i := 3) (by decide)
    rw [show aw0[3].id = [48, 47, 109, 91, 49, 93] from awE1_id] at h
    exact h
  go_wp2_with fail
  clear e2 e3
  refine (finput_any aw0 2 (aw_light (.inl rfl)) WA _ HH.out.row).mono ?_
  rintro e w5 ⟨A1, m1, c1, b1, rfl, hE5, hyes, -⟩
  obtain ⟨rfl, ho1⟩ := hyes _ aw_in2
  have HH5 := Lib.hid (HH.out.ext hE5)
  have HE5 := Lib.hid (HE.out.trans hE5)
  have HO1 := Lib.hid ho1.lies
  clear hyes ho1 hE5 HH HE
  go_wp2_with fail
  refine (finput_any aw0 3 (aw_light (.inl rfl)) w5 _ HH5.out.row).mono ?_
  rintro e w6 ⟨A2, m2, c2, b2, rfl, hE6, hyes, -⟩
  obtain ⟨rfl, ho2⟩ := hyes _ aw_in3
  have HH6 := Lib.hid (HH5.out.ext hE6)
  have HE6 := Lib.hid (HE5.out.trans hE6)
  have HO1 := Lib.hid (HO1.out.ext hE6)
  have HO2 := Lib.hid ho2.lies
  clear hyes ho2 hE6 HH5 HE5
  go_wp2_with fail
  refine (num18_any 5 w6).mono ?_
  rintro e w7 ⟨rfl, hE7⟩
  have hb8 := heap_alloc_new w7 (.cells #[.int .u8 0, .int .i64 5, .string { data := #[] }, .slice none 0 0] 46)
  have hE8 := (Ext.refl w7).alloc (.cells #[.int .u8 0, .int .i64 5, .string { data := #[] }, .slice none 0 0] 46)
  have HV8 := Lib.hid (values18_any [numT 5] [numT 5] _ _ _ _ _ _ _ (HO1.out.ext (hE7.trans hE8)) (liesS_one (by unfold isI64; omega) hb8))
  have HH8 := Lib.hid (HH6.out.ext (hE7.trans hE8))
  have HE8 := Lib.hid (HE6.out.trans (hE7.trans hE8))
  have HO2 := Lib.hid (HO2.out.ext (hE7.trans hE8))
  clear hb8 hE8 hE7 HH6 HE6 HO1
  go_wp2_with fail
  refine HV8.out.mono ?_
  rintro e w9 ⟨rfl, hE9⟩
  rw [eqT_self]
  have HH9 := Lib.hid (HH8.out.ext hE9)
  have HE9 := Lib.hid (HE8.out.trans hE9)
  have HO2 := Lib.hid (HO2.out.ext hE9)
  clear HV8 hE9 HH8 HE8
  go_wp2_with fail
  refine (num18_any 7 w9).mono ?_
  rintro e w10 ⟨rfl, hE7⟩
  have hb8 := heap_alloc_new w10 (.cells #[.int .u8 0, .int .i64 7, .string { data := #[] }, .slice none 0 0] 46)
  have hE8 := (Ext.refl w10).alloc (.cells #[.int .u8 0, .int .i64 7, .string { data := #[] }, .slice none 0 0] 46)
  have HV8 := Lib.hid (values18_any [numT 7] [numT 7] _ _ _ _ _ _ _ (HO2.out.ext (hE7.trans hE8)) (liesS_one (by unfold isI64; omega) hb8))
  have HH10 := Lib.hid (HH9.out.ext (hE7.trans hE8))
  have HE10 := Lib.hid (HE9.out.trans (hE7.trans hE8))
  clear hb8 hE8 hE7 HH9 HE9 HO2
  go_wp2_with fail
  refine HV8.out.mono ?_
  rintro e w11 ⟨rfl, hE9⟩
  rw [eqT_self]
  have HH11 := Lib.hid (HH10.out.ext hE9)
  have HE11 := Lib.hid (HE10.out.trans hE9)
  clear HV8 hE9 HH10 HE10
  go_wp2_with fail
  refine (num18_any 70 w11).mono ?_
  rintro e w12 ⟨rfl, hE7⟩
  have HE12 := Lib.hid (HE11.out.trans hE7)
  have hH := HH11.out.ext hE7
  have ⟨⟨u9, c9⟩, f9⟩ := hH.spot (i := 3) (by decide) 9 (by omega)
  have ⟨⟨u12, c12⟩, f12⟩ := hH.spot (i := 3) (by decide) 12 (by omega)
  have ⟨⟨u13, c13⟩, f13⟩ := hH.spot (i := 3) (by decide) 13 (by omega)
  have ⟨⟨u14, c14⟩, f14⟩ := hH.spot (i := 3) (by decide) 14 (by omega)
  have ⟨⟨u15, c15⟩, f15⟩ := hH.spot (i := 3) (by decide) 15 (by omega)
  simp only [Nat.reduceMul, Nat.reduceAdd] at c9 f9 c12 f12 c13 f13 c14 f14 c15 f15
  obtain ⟨HH13, hgr⟩ : Hid (HeldN 54 w.heap.size (((((w12.setCell ⟨g, 57, none⟩ (.int .u8 4)).setCell ⟨g, 60, none⟩ (.int .u8 0)).setCell ⟨g, 61, none⟩ (.int .i64 70)).setCell ⟨g, 62, none⟩ (.string { data := #[] })).setCell ⟨g, 63, none⟩ (.slice none 0 0)) (.slice (some ⟨g, 0, none⟩) aw0.length C) aw1) ∧ w12.grownBy (((((w12.setCell ⟨g, 57, none⟩ (.int .u8 4)).setCell ⟨g, 60, none⟩ (.int .u8 0)).setCell ⟨g, 61, none⟩ (.int .i64 70)).setCell ⟨g, 62, none⟩ (.string { data := #[] })).setCell ⟨g, 63, none⟩ (.slice none 0 0)) (some g) := by
    obtain ⟨q1, q2⟩ := hH.put (i := 3) (by decide) 9 (by omega) (.int .u8 4) { awE 1 with stand := 4 } (fun w' C h => ndV_stand h 4)
    obtain ⟨q3, q4⟩ := q1.putV (i := 3) (by decide) (numT 70) (.int .u8 0) (.int .i64 70) (.string { data := #[] }) (.slice none 0 0) (fun w' _ => (num18_own (by unfold isI64; omega) w' 0).lies)
    exact ⟨Lib.hid q3, grown_trans q2 q4⟩
  have HE13 := Lib.hid (HE12.out.grown hgr (fun k hk => by injection hk with hk; omega))
  clear hgr hH hE7 HH11 HE11 HE12
  go_upto_region 11 with (fail)
  generalize ((((w12.setCell ⟨g, 57, none⟩ (.int .u8 4)).setCell ⟨g, 60, none⟩ (.int .u8 0)).setCell ⟨g, 61, none⟩ (.int .i64 70)).setCell ⟨g, 62, none⟩ (.string { data := #[] })).setCell ⟨g, 63, none⟩ (.slice none 0 0) = w13 at *
  clear c9 f9 c12 f12 c13 f13 c14 f14 c15 f15
  go_wp2_with fail
  refine (fvalues_any aw1 1 (by decide) (fun x hx => (aw_light (.inr (.inl rfl)) x hx).1) w13 _ HH13.out.row).mono ?_
  rintro e w14 ⟨v14, b14, rfl, hE14, -, hno⟩
  obtain ⟨rfl, rfl⟩ := hno aw_v1
  have hEa := (Ext.refl w14).alloc (.cells #[.int .u8 0, .int .i64 0, .string { data := #[] }, .slice none 0 0] 46)
  have HH14 := Lib.hid (HH13.out.ext (hE14.trans hEa))
  have HE14 := Lib.hid (HE13.out.trans (hE14.trans hEa))
  clear hno hE14 hEa HH13 HE13
  go_upto_region 12 with (fail)
  generalize w14.alloc (.cells #[.int .u8 0, .int .i64 0, .string { data := #[] }, .slice none 0 0] 46) = w15 at *
  go_wp2_with fail
  refine (num18_any 50 w15).mono ?_
  rintro e w16 ⟨rfl, hE7⟩
  have HE16 := Lib.hid (HE14.out.trans hE7)
  have hH := HH14.out.ext hE7
  have ⟨⟨u9, c9⟩, f9⟩ := hH.spot (i := 2) (by decide) 9 (by omega)
  have ⟨⟨u12, c12⟩, f12⟩ := hH.spot (i := 2) (by decide) 12 (by omega)
  have ⟨⟨u13, c13⟩, f13⟩ := hH.spot (i := 2) (by decide) 13 (by omega)
  have ⟨⟨u14, c14⟩, f14⟩ := hH.spot (i := 2) (by decide) 14 (by omega)
  have ⟨⟨u15, c15⟩, f15⟩ := hH.spot (i := 2) (by decide) 15 (by omega)
  simp only [Nat.reduceMul, Nat.reduceAdd] at c9 f9 c12 f12 c13 f13 c14 f14 c15 f15
  obtain ⟨HH17, hgr⟩ : Hid (HeldN 54 w.heap.size (((((w16.setCell ⟨g, 41, none⟩ (.int .u8 4)).setCell ⟨g, 44, none⟩ (.int .u8 0)).setCell ⟨g, 45, none⟩ (.int .i64 50)).setCell ⟨g, 46, none⟩ (.string { data := #[] })).setCell ⟨g, 47, none⟩ (.slice none 0 0)) (.slice (some ⟨g, 0, none⟩) aw1.length C) aw2) ∧ w16.grownBy (((((w16.setCell ⟨g, 41, none⟩ (.int .u8 4)).setCell ⟨g, 44, none⟩ (.int .u8 0)).setCell ⟨g, 45, none⟩ (.int .i64 50)).setCell ⟨g, 46, none⟩ (.string { data := #[] })).setCell ⟨g, 47, none⟩ (.slice none 0 0)) (some g) := by
    obtain ⟨q1, q2⟩ := hH.put (i := 2) (by decide) 9 (by omega) (.int .u8 4) { awE 0 with stand := 4 } (fun w' C h => ndV_stand h 4)
    obtain ⟨q3, q4⟩ := q1.putV (i := 2) (by decide) (numT 50) (.int .u8 0) (.int .i64 50) (.string { data := #[] }) (.slice none 0 0) (fun w' _ => (num18_own (by unfold isI64; omega) w' 0).lies)
    exact ⟨Lib.hid q3, grown_trans q2 q4⟩
  have HE17 := Lib.hid (HE16.out.grown hgr (fun k hk => by injection hk with hk; omega))
  clear hgr hH hE7 HH14 HE14 HE16
  go_upto_region 13 with (fail)
  generalize ((((w16.setCell ⟨g, 41, none⟩ (.int .u8 4)).setCell ⟨g, 44, none⟩ (.int .u8 0)).setCell ⟨g, 45, none⟩ (.int .i64 50)).setCell ⟨g, 46, none⟩ (.string { data := #[] })).setCell ⟨g, 47, none⟩ (.slice none 0 0) = w17 at *
  clear c9 f9 c12 f12 c13 f13 c14 f14 c15 f15
  go_wp2_with fail
  refine (fvalues_any aw2 1 (by decide) (fun x hx => (aw_light (.inr (.inr (.inl rfl))) x hx).1) w17 _ HH17.out.row).mono ?_
  rintro e w18 ⟨v18, b18, rfl, hE18, hyes, -⟩
  obtain ⟨rfl, ho18⟩ := hyes _ aw_v2
  obtain ⟨d18, rfl, -, -, hl18⟩ := ho18.lies.parts
  obtain ⟨a18, cap18, rfl, -⟩ := id hl18
  have hEa := (Ext.refl w18).alloc (.cells #[.int .u8 ((2 : UInt8).toNat : Int), .int .i64 0, .string (str []), .slice a18 [numT 50, numT 70].length cap18] 46)
  have HB18 := Lib.hid (Box4.new w18 (.int .u8 ((2 : UInt8).toNat : Int)) (.int .i64 0) (.string (str [])) (.slice a18 [numT 50, numT 70].length cap18))
  have HV18 := Lib.hid (ho18.ext hEa)
  have hgB : g < w17.heap.size := (HH17.out.lt g rfl).2
  have hgB' : w17.heap.size ≤ w18.heap.size := hE18.size
  have HH18 := Lib.hid (HH17.out.ext (hE18.trans hEa))
  have HE18 := Lib.hid (HE17.out.trans (hE18.trans hEa))
  generalize hx18 : ((2 : UInt8).toNat : Int) = X18 at *
  generalize hy18 : str [] = Y18 at *
  generalize hz18 : [numT 50, numT 70].length = Z18 at *
  clear hE18 hEa HH17 HE17 hyes ho18 hl18
  go_upto_region 14 with (fail)
  generalize hBV : w18.heap.size = BV at *
  generalize w18.alloc (.cells #[.int .u8 X18, .int .i64 0, .string Y18, .slice a18 Z18 cap18] 46) = w19 at *
  have ⟨⟨u7, c7⟩, f7⟩ := HH18.out.spot (i := 1) (by decide) 7 (by omega)
  simp only [Nat.reduceMul, Nat.reduceAdd] at c7 f7
  obtain ⟨HH20, hgr⟩ : Hid (HeldN 54 w.heap.size (w19.setCell ⟨g, 23, none⟩ (.int .i64 1)) (.slice (some ⟨g, 0, none⟩) aw2.length C) aw3) ∧ w19.grownBy (w19.setCell ⟨g, 23, none⟩ (.int .i64 1)) (some g) := by
    obtain ⟨q1, q2⟩ := HH18.out.put (i := 1) (by decide) 7 (by omega) (.int .i64 1) (awM 1) (fun w' C h => ndV_width h (by unfold isI64; omega))
    exact ⟨Lib.hid q1, q2⟩
  have HE20 := Lib.hid (HE18.out.grown hgr (fun k hk => by injection hk with hk; omega))
  have HB20 := Lib.hid (HB18.out.kept hgr (fun e => by injection e with e; omega))
  have HV20 := Lib.hid (HV18.out.grown hgr (fun b hb => by injection hb with hb; omega))
  clear hgr HH18 HE18 HB18 HV18
  go_upto_region 15 with (fail)
  generalize w19.setCell ⟨g, 23, none⟩ (.int .i64 1) = w20 at *
  clear c7 f7
  go_wp2_with fail
  refine (flist_any aw3 1 (fun x hx => (aw_light (.inr (.inr (.inr (.inl rfl)))) x hx).1) w20 _ HH20.out.row).mono ?_
  rintro e w21 ⟨d21, rfl, hE21, ho21⟩
  rw [aw_l3] at ho21 ⊢
  dsimp only at ho21 ⊢
  obtain ⟨a21, m21, c21, rfl⟩ : ∃ a m c, d21 = .slice a m c := by
    obtain ⟨F, h⟩ := ho21
    obtain ⟨a, c, h⟩ := h.slice
    exact ⟨_, _, _, h⟩
  have HH21 := Lib.hid (HH20.out.ext hE21)
  have HE21 := Lib.hid (HE20.out.trans hE21)
  have HB21 := Lib.hid (HB20.out.ext hE21)
  have HV21 := Lib.hid (HV20.out.ext hE21)
  clear ho21 hE21 HH20 HE20 HB20 HV20
  go_wp2_with fail
  refine (num18_any 3 w21).mono ?_
  rintro e w22 ⟨rfl, hE7⟩
  have HE22 := Lib.hid (HE21.out.trans hE7)
  have HB22 := Lib.hid (HB21.out.ext hE7)
  have HV22 := Lib.hid (HV21.out.ext hE7)
  have hH := HH21.out.ext hE7
  have ⟨⟨u12, c12⟩, f12⟩ := hH.spot (i := 0) (by decide) 12 (by omega)
  have ⟨⟨u13, c13⟩, f13⟩ := hH.spot (i := 0) (by decide) 13 (by omega)
  have ⟨⟨u14, c14⟩, f14⟩ := hH.spot (i := 0) (by decide) 14 (by omega)
  have ⟨⟨u15, c15⟩, f15⟩ := hH.spot (i := 0) (by decide) 15 (by omega)
  simp only [Nat.reduceMul, Nat.reduceAdd, Nat.zero_mul, Nat.zero_add] at c12 f12 c13 f13 c14 f14 c15 f15
  obtain ⟨HH23, hgr⟩ : Hid (HeldN 54 w.heap.size (((((w22).setCell ⟨g, 12, none⟩ (.int .u8 0)).setCell ⟨g, 13, none⟩ (.int .i64 3)).setCell ⟨g, 14, none⟩ (.string { data := #[] })).setCell ⟨g, 15, none⟩ (.slice none 0 0)) (.slice (some ⟨g, 0, none⟩) aw3.length C) aw4) ∧ w22.grownBy (((((w22).setCell ⟨g, 12, none⟩ (.int .u8 0)).setCell ⟨g, 13, none⟩ (.int .i64 3)).setCell ⟨g, 14, none⟩ (.string { data := #[] })).setCell ⟨g, 15, none⟩ (.slice none 0 0)) (some g) := by
    obtain ⟨q3, q4⟩ := hH.putV (i := 0) (by decide) (numT 3) (.int .u8 0) (.int .i64 3) (.string { data := #[] }) (.slice none 0 0) (fun w' _ => (num18_own (by unfold isI64; omega) w' 0).lies)
    exact ⟨Lib.hid q3, q4⟩
  have HE23 := Lib.hid (HE22.out.grown hgr (fun k hk => by injection hk with hk; omega))
  have HB23 := Lib.hid (HB22.out.kept hgr (fun e => by injection e with e; omega))
  have HV23 := Lib.hid (HV22.out.grown hgr (fun b hb => by injection hb with hb; omega))
  clear hgr hH hE7 HH21 HE21 HE22 HB21 HB22 HV21 HV22
  go_upto_region 17 with (fail)
  generalize ((((w22).setCell ⟨g, 12, none⟩ (.int .u8 0)).setCell ⟨g, 13, none⟩ (.int .i64 3)).setCell ⟨g, 14, none⟩ (.string { data := #[] })).setCell ⟨g, 15, none⟩ (.slice none 0 0) = w23 at *
  clear c12 f12 c13 f13 c14 f14 c15 f15
  go_wp2_with fail
  refine (flist_any aw4 1 (fun x hx => (aw_light (.inr (.inr (.inr (.inr rfl)))) x hx).1) w23 _ HH23.out.row).mono ?_
  rintro e w24 ⟨d24, rfl, hE24, ho24⟩
  rw [aw_l4] at ho24 ⊢
  dsimp only at ho24 ⊢
  obtain ⟨a24, m24, c24, rfl⟩ : ∃ a m c, d24 = .slice a m c := by
    obtain ⟨F, h⟩ := ho24
    obtain ⟨a, c, h⟩ := h.slice
    exact ⟨_, _, _, h⟩
  have HE24 := Lib.hid (HE23.out.trans hE24)
  have HB24 := Lib.hid (HB23.out.ext hE24)
  have HV24 := Lib.hid (HV23.out.ext hE24)
  clear ho24 hE24 HH23 HE23 HB23 HV23
  go_wp2_with fail
  have HS : Hid (∀ wx, Ext w24 wx → wx.cell? ⟨BV, 0, none⟩ = some (.int .u8 X18) ∧ wx.cell? ⟨BV, 1, none⟩ = some (.int .i64 0) ∧ wx.cell? ⟨BV, 2, none⟩ = some (.string Y18) ∧ wx.cell? ⟨BV, 3, none⟩ = some (.slice a18 Z18 cap18)) := Lib.hid (fun wx hx => (HB24.out.ext hx).cells)
  have ED := Lib.hid (Ext.refl w24).drew
  refine wp_region_held_drew (S := (fun w' => w'.cell? ⟨BV, 0, none⟩ = some (.int .u8 X18) ∧ w'.cell? ⟨BV, 1, none⟩ = some (.int .i64 0) ∧ w'.cell? ⟨BV, 2, none⟩ = some (.string Y18) ∧ w'.cell? ⟨BV, 3, none⟩ = some (.slice a18 Z18 cap18))) (by kernel_rfl) ?_ (fun hHeld => ?_)
  · (try dsimp only)
    (first | exact HS.out _ ED.out | exact HS.out _ E1.out | exact HS.out _ E2.out | exact HS.out _ E3.out | exact HS.out _ E4.out | exact HS.out _ E5.out)
  refine take_w 0 (some 117) (v := ?_) (by kernel_rfl) (by kernel_rfl) (by kernel_rfl) (by kernel_rfl) (by kernel_rfl) (fun _ _ _ h => h) (by rfl) ?_ (by assumption) ?_
  rotate_left
  · (intro w hSw; (try dsimp only at hSw); go_simp; try with_reducible rfl)
  try simp only [Act.put, List.setIfInBounds_toArray, List.set_cons_zero, List.set_cons_succ]
  refine take_w 1 (some 118) (v := ?_) (by kernel_rfl) (by kernel_rfl) (by kernel_rfl) (by kernel_rfl) (by kernel_rfl) (fun _ _ _ h => h) (by rfl) ?_ (by assumption) ?_
  rotate_left
  · (intro w hSw; (try dsimp only at hSw); go_simp; try with_reducible rfl)
  try simp only [Act.put, List.setIfInBounds_toArray, List.set_cons_zero, List.set_cons_succ]
  refine take_w 2 (some 119) (v := ?_) (by kernel_rfl) (by kernel_rfl) (by kernel_rfl) (by kernel_rfl) (by kernel_rfl) (fun _ _ _ h => h) (by rfl) ?_ (by assumption) ?_
  rotate_left
  · (intro w hSw; (try dsimp only at hSw); go_simp; try with_reducible rfl)
  try simp only [Act.put, List.setIfInBounds_toArray, List.set_cons_zero, List.set_cons_succ]
  refine take_w 3 (some 120) (v := ?_) (by kernel_rfl) (by kernel_rfl) (by kernel_rfl) (by kernel_rfl) (by kernel_rfl) (fun _ _ _ h => h) (by rfl) ?_ (by assumption) ?_
  rotate_left
  · (intro w hSw; (try dsimp only at hSw); go_simp; try with_reducible rfl)
  try simp only [Act.put, List.setIfInBounds_toArray, List.set_cons_zero, List.set_cons_succ]
  refine take_w 4 (some 121) (v := ?_) (by kernel_rfl) (by kernel_rfl) (by kernel_rfl) (by kernel_rfl) (by kernel_rfl) (fun _ _ _ h => h) (by rfl) ?_ (by assumption) ?_
  rotate_left
  · (intro w hSw; (try dsimp only at hSw); go_simp; try with_reducible rfl)
  try simp only [Act.put, List.setIfInBounds_toArray, List.set_cons_zero, List.set_cons_succ]
  refine take_w 5 (some 122) (v := ?_) (by kernel_rfl) (by kernel_rfl) (by kernel_rfl) (by kernel_rfl) (by kernel_rfl) (fun _ _ _ h => h) (by rfl) ?_ (by assumption) ?_
  rotate_left
  · (intro w hSw; (try dsimp only at hSw); go_simp; try with_reducible rfl)
  try simp only [Act.put, List.setIfInBounds_toArray, List.set_cons_zero, List.set_cons_succ]
  refine take_w 6 (some 123) (v := ?_) (by kernel_rfl) (by kernel_rfl) (by kernel_rfl) (by kernel_rfl) (by kernel_rfl) (fun _ _ _ h => h) (by rfl) ?_ (by assumption) ?_
  rotate_left
  · (intro w hSw; (try dsimp only at hSw); go_simp; try with_reducible rfl)
  try simp only [Act.put, List.setIfInBounds_toArray, List.set_cons_zero, List.set_cons_succ]
  refine ready_one 7 (by kernel_rfl) (by kernel_rfl) (by rfl) (fun Kc hKc => ?_)
  go_simp
  refine (num18_any 50 _).mono ?_
  rintro e y1 ⟨rfl, hE1⟩
  have E1 := Lib.hid (ED.out.trans hE1)
  clear hE1
  try go_wp2_with fail
  refine hKc.out _ _ ?_ (fun hHeld => ?_)
  · (try dsimp only)
    (first | exact HS.out _ ED.out | exact HS.out _ E1.out | exact HS.out _ E2.out | exact HS.out _ E3.out | exact HS.out _ E4.out | exact HS.out _ E5.out)
  clear hKc Kc
  try simp only [Act.put, List.setIfInBounds_toArray, List.set_cons_zero, List.set_cons_succ]
  refine ready_one 8 (by kernel_rfl) (by kernel_rfl) (by rfl) (fun Kc hKc => ?_)
  go_simp
  refine (num18_any 70 _).mono ?_
  rintro e y2 ⟨rfl, hE2⟩
  have E2 := Lib.hid (E1.out.trans hE2)
  clear hE2
  try go_wp2_with fail
  refine hKc.out _ _ ?_ (fun hHeld => ?_)
  · (try dsimp only)
    (first | exact HS.out _ ED.out | exact HS.out _ E1.out | exact HS.out _ E2.out | exact HS.out _ E3.out | exact HS.out _ E4.out | exact HS.out _ E5.out)
  clear hKc Kc
  try simp only [Act.put, List.setIfInBounds_toArray, List.set_cons_zero, List.set_cons_succ]
  refine ready_one 9 (by kernel_rfl) (by kernel_rfl) (by rfl) (fun Kc hKc => ?_)
  go_simp
  have HLn := Lib.hid (liesS_two (x := 50) (y := 70) (by unfold isI64; omega) (by unfold isI64; omega) (heap_alloc_new y2 (.cells #[.int .u8 0, .int .i64 50, .string { data := #[] }, .slice none 0 0, .int .u8 0, .int .i64 70, .string { data := #[] }, .slice none 0 0] 46)))
  have E3 := Lib.hid (E2.out.alloc (.cells #[.int .u8 0, .int .i64 50, .string { data := #[] }, .slice none 0 0, .int .u8 0, .int .i64 70, .string { data := #[] }, .slice none 0 0] 46))
  try go_wp2_with fail
  refine hKc.out _ _ ?_ (fun hHeld => ?_)
  · (try dsimp only)
    (first | exact HS.out _ ED.out | exact HS.out _ E1.out | exact HS.out _ E2.out | exact HS.out _ E3.out | exact HS.out _ E4.out | exact HS.out _ E5.out)
  clear hKc Kc
  try simp only [Act.put, List.setIfInBounds_toArray, List.set_cons_zero, List.set_cons_succ]
  refine ready_one 10 (by kernel_rfl) (by kernel_rfl) (by rfl) (fun Kc hKc => ?_)
  go_simp
  refine (list18_any _ 2 2 _).mono ?_
  rintro e y4 ⟨rfl, hE4⟩
  have E4 := Lib.hid (E3.out.trans hE4)
  have HL4 := Lib.hid (list18_lies (HLn.out.ext hE4))
  clear hE4 HLn
  try go_wp2_with fail
  refine hKc.out _ _ ?_ (fun hHeld => ?_)
  · (try dsimp only)
    (first | exact HS.out _ ED.out | exact HS.out _ E1.out | exact HS.out _ E2.out | exact HS.out _ E3.out | exact HS.out _ E4.out | exact HS.out _ E5.out)
  clear hKc Kc
  try simp only [Act.put, List.setIfInBounds_toArray, List.set_cons_zero, List.set_cons_succ]
  refine ready_one 11 (by kernel_rfl) (by kernel_rfl) (by rfl) (fun Kc hKc => ?_)
  go_simp
  refine (vsame_any (listV [numT 50, numT 70]) (listV [numT 50, numT 70]) _ _ _ (HV24.out.ext E4.out).lies HL4.out).mono ?_
  rintro e y5 ⟨rfl, hE5⟩
  rw [eqT_self]
  have E5 := Lib.hid (E4.out.trans hE5)
  clear hE5
  try go_wp2_with fail
  refine hKc.out _ _ ?_ (fun hHeld => ?_)
  · (try dsimp only)
    (first | exact HS.out _ ED.out | exact HS.out _ E1.out | exact HS.out _ E2.out | exact HS.out _ E3.out | exact HS.out _ E4.out | exact HS.out _ E5.out)
  clear hKc Kc
  try simp only [Act.put, List.setIfInBounds_toArray, List.set_cons_zero, List.set_cons_succ]
  refine take_w 12 (some 129) (v := ?_) (by kernel_rfl) (by kernel_rfl) (by kernel_rfl) (by kernel_rfl) (by kernel_rfl) (fun _ _ _ h => h) (by rfl) ?_ (by assumption) ?_
  rotate_left
  · (intro w hSw; (try dsimp only at hSw); go_simp; try with_reducible rfl)
  try simp only [Act.put, List.setIfInBounds_toArray, List.set_cons_zero, List.set_cons_succ]
  refine take_w 13 (some 130) (v := ?_) (by kernel_rfl) (by kernel_rfl) (by kernel_rfl) (by kernel_rfl) (by kernel_rfl) (fun _ _ _ h => h) (by rfl) ?_ (by assumption) ?_
  rotate_left
  · (intro w hSw; (try dsimp only at hSw); go_simp; try with_reducible rfl)
  try simp only [Act.put, List.setIfInBounds_toArray, List.set_cons_zero, List.set_cons_succ]
  refine take_w 14 (some 131) (v := ?_) (by kernel_rfl) (by kernel_rfl) (by kernel_rfl) (by kernel_rfl) (by kernel_rfl) (fun _ _ _ h => h) (by rfl) ?_ (by assumption) ?_
  rotate_left
  · (intro w hSw; (try dsimp only at hSw); go_simp; try with_reducible rfl)
  try simp only [Act.put, List.setIfInBounds_toArray, List.set_cons_zero, List.set_cons_succ]
  refine take_w 15 (some 132) (v := ?_) (by kernel_rfl) (by kernel_rfl) (by kernel_rfl) (by kernel_rfl) (by kernel_rfl) (fun _ _ _ h => h) (by rfl) ?_ (by assumption) ?_
  rotate_left
  · (intro w hSw; (try dsimp only at hSw); go_simp; try with_reducible rfl)
  try simp only [Act.put, List.setIfInBounds_toArray, List.set_cons_zero, List.set_cons_succ]
  refine take_w 16 (some 133) (v := ?_) (by kernel_rfl) (by kernel_rfl) (by kernel_rfl) (by kernel_rfl) (by kernel_rfl) (fun _ _ _ h => h) (by rfl) ?_ (by assumption) ?_
  rotate_left
  · (intro w hSw; (try dsimp only at hSw); go_simp; try with_reducible rfl)
  try simp only [Act.put, List.setIfInBounds_toArray, List.set_cons_zero, List.set_cons_succ]
  refine take_w 17 (some 134) (v := ?_) (by kernel_rfl) (by kernel_rfl) (by kernel_rfl) (by kernel_rfl) (by kernel_rfl) (fun _ _ _ h => h) (by rfl) ?_ (by assumption) ?_
  rotate_left
  · (intro w hSw; (try dsimp only at hSw); go_simp; try with_reducible rfl)
  try simp only [Act.put, List.setIfInBounds_toArray, List.set_cons_zero, List.set_cons_succ]
  refine take_w 18 (some 135) (v := ?_) (by kernel_rfl) (by kernel_rfl) (by kernel_rfl) (by kernel_rfl) (by kernel_rfl) (fun _ _ _ h => h) (by rfl) ?_ (by assumption) ?_
  rotate_left
  · (intro w hSw; (try dsimp only at hSw); go_simp; try with_reducible rfl)
  try simp only [Act.put, List.setIfInBounds_toArray, List.set_cons_zero, List.set_cons_succ]
  refine take_w 19 (some 136) (v := ?_) (by kernel_rfl) (by kernel_rfl) (by kernel_rfl) (by kernel_rfl) (by kernel_rfl) (fun _ _ _ h => h) (by rfl) ?_ (by assumption) ?_
  rotate_left
  · (intro w hSw; (try dsimp only at hSw); go_simp; try with_reducible rfl)
  try simp only [Act.put, List.setIfInBounds_toArray, List.set_cons_zero, List.set_cons_succ]
  refine take_w 20 (some 137) (v := ?_) (by kernel_rfl) (by kernel_rfl) (by kernel_rfl) (by kernel_rfl) (by kernel_rfl) (fun _ _ _ h => h) (by rfl) ?_ (by assumption) ?_
  rotate_left
  · (intro w hSw; (try dsimp only at hSw); go_simp; try with_reducible rfl)
  try simp only [Act.put, List.setIfInBounds_toArray, List.set_cons_zero, List.set_cons_succ]
  refine take_w 21 (some 0) (v := ?_) (by kernel_rfl) (by kernel_rfl) (by kernel_rfl) (by kernel_rfl) (by kernel_rfl) (fun _ _ _ h => h) (by rfl) ?_ (by assumption) ?_
  rotate_left
  · (intro w hSw; (try dsimp only at hSw); go_simp; try with_reducible rfl)
  try simp only [Act.put, List.setIfInBounds_toArray, List.set_cons_zero, List.set_cons_succ]
  refine wpAnyH_done (by kernel_rfl) ?_ _
  have HE9 := Lib.hid (HE24.out.trans E5.out)
  go_wp2
  go_ret
  exact ⟨rfl, HE9.out⟩
end Go.Proofs.YtpcgpcjleedilaaDoor

namespace Fm
open Go Go.RowKit

/-- Numbers that stay, whatever becomes of that block. -/
def FarI (w : World) (row : Option Nat) (l : List Int) (v : Value) : Prop := ∀ w', w.grownBy w' row → intE.Row w' l v
theorem FarI.row {w : World} {row : Option Nat} {l : List Int} {v : Value} (h : FarI w row l v) : intE.Row w l v := h w (grown_ext (Ext.refl w) row)
theorem FarI.then {w w' : World} {row row' : Option Nat} {l : List Int} {v : Value} (h : FarI w row l v) (hg : w.grownBy w' row) (hr : row' = row ∨ ∃ g, row' = some g ∧ w.heap.size ≤ g) : FarI w' row' l v := fun w'' hg' => h w'' (grown_row hg hg' hr)
theorem FarI.ext {w w' : World} {row : Option Nat} {l : List Int} {v : Value} (h : FarI w row l v) (hE : Ext w w') : FarI w' row l v := h.then (grown_ext hE row) (.inl rfl)
theorem OwnN.farI {e : TypeId} {base g : Nat} {w : World} {v : Value} {l : List Int} (h : OwnN e base w v l) (hl : ∀ i, i ∈ l → isI64 i) (hg : g < base) : FarI w (some g) l v := fun w' hw' =>
  OwnN.row (World.ownsRow.kept h hw' (by
    cases hv : v.ownBlock with
    | none => exact .inl rfl
    | some b => exact .inr (fun e => by injection e with e; have := (World.ownsRow.lt h b hv).1; omega))) hl
end Fm
namespace Fm
open Go Go.RowKit
/-! ### instances done one by one -/
def stB (ins : List Tr) (pend : List Nat) : Nat → Option Tr := fun j => if j ∈ pend then none else some (ins.getD j zT)
theorem open_light {ins : List Tr} {os : List Int} {pend : List Nat} (h : ∀ t, t ∈ ins → partsT t ≤ 600) (hl : ins.length ≤ 20) (hos : os.length ≤ 40) : ∀ x, x ∈ openO ins os (stB ins pend) → partsT x.val ≤ 1000000 ∧ x.after.length ≤ 900 := by
  have hz : partsT zT = 1 := by unfold zT; rw [partsT_node]; rfl
  have hsum : partsL ins ≤ 600 * ins.length := by
    unfold partsL
    clear hl
    induction ins with
    | nil => simp
    | cons t l ih =>
      have := ih (fun u hu => h u (List.mem_cons_of_mem _ hu))
      have := h t List.mem_cons_self
      simp only [List.map_cons, List.sum_cons, List.length_cons]
      omega
  intro x hx
  unfold openO at hx
  rcases List.mem_append.1 hx with hx | hx
  · unfold baseO at hx
    simp only [List.mem_cons, List.mem_append, List.mem_map, List.not_mem_nil, or_false] at hx
    rcases hx with rfl | ⟨n, _, rfl⟩ | rfl
    · refine ⟨?_, by simp [ndOA]⟩
      show partsT (listV ins) ≤ _
      unfold listV
      rw [partsT_node]; omega
    · refine ⟨?_, by simp [ndOB]⟩
      show partsT (numT n) ≤ _
      unfold numT
      rw [partsT_node]; show 1 + 0 ≤ _; omega
    · refine ⟨by show partsT zT ≤ _; omega, ?_⟩
      show (aftO os.length).length ≤ 900
      rw [aftO_len]; omega
  · obtain ⟨i, hi, rfl⟩ := List.mem_map.1 hx
    have hi := List.mem_range.1 hi
    have ha : (ndOE ins.length os.length (stB ins pend) i).after.length ≤ 900 := by
      obtain ⟨_, _, _, d⟩ := ndOE_kind ins.length os.length (stB ins pend) i
      rw [d, List.length_tail, aftO_len]; omega
    refine ⟨?_, ha⟩
    unfold ndOE stB
    by_cases hp : i ∈ pend
    · rw [if_pos hp]; show partsT zT ≤ _; omega
    · rw [if_neg hp]
      have := h (ins.getD i zT) (by rw [List.getD_eq_getElem?_getD, List.getElem?_eq_getElem hi]; exact List.getElem_mem hi)
      show partsT (ins.getD i zT) ≤ _
      omega
end Fm
namespace Fm
open Go Go.RowKit
end Fm

namespace Fm
open Go Go.RowKit

/-- An instance that is done, its value none. -/
def ndL (n K j : Nat) : Nd := { eachNd (ndOM n K) ((1 + K : Nat) : Int) j with stand := 4 }
def updG (g : Nat → Nd) (k : Nat) (x : Nd) : Nat → Nd := fun j => if j = k then x else g j
/-- The first i are done. -/
def begL (n K i : Nat) : Nat → Nd := fun j => if j < i then ndL n K j else eachNd (ndOM n K) ((1 + K : Nat) : Int) j
theorem openG_congr {ins : List Tr} {os : List Int} {g h : Nat → Nd} (e : ∀ i, i < ins.length → g i = h i) : openG ins os g = openG ins os h := by
  unfold openG
  congr 1
  exact List.map_congr_left fun i hi => e i (List.mem_range.1 hi)
theorem openO_openG (ins : List Tr) (os : List Int) : openO ins os (fun _ => none) = openG ins os (begL ins.length os.length 0) := by
  unfold openO openG
  congr 1
theorem openG_at {ins : List Tr} {os : List Int} {g : Nat → Nd} {k : Nat} (hk : k < ins.length) {I : Nat} (hI : I = 1 + os.length + 1 + k) (hl : I < (openG ins os g).length) : (openG ins os g)[I] = g k := by
  subst hI
  have : (openG ins os g)[1 + os.length + 1 + k]? = some (g k) := by
    unfold openG
    rw [List.getElem?_append_right (by rw [baseO_len]; omega), baseO_len, show 1 + os.length + 1 + k - (os.length + 2) = k by omega]
    simp [hk]
  exact (List.getElem?_eq_some_iff.1 this).2
theorem openG_set {ins : List Tr} {os : List Int} {g : Nat → Nd} {k : Nat} (x : Nd) {I : Nat} (hI : I = 1 + os.length + 1 + k) : (openG ins os g).set I x = openG ins os (updG g k x) := by
  subst hI
  unfold openG
  rw [List.set_append_right _ _ (by rw [baseO_len]; omega), baseO_len, show 1 + os.length + 1 + k - (os.length + 2) = k by omega]
  congr 1
  apply List.ext_getElem (by simp)
  intro i h1 h2
  by_cases e : k = i
  · subst e
    rw [List.getElem_set_self, List.getElem_map, List.getElem_range]
    unfold updG
    rw [if_pos rfl]
  · rw [List.getElem_set_ne e]
    simp only [List.getElem_map, List.getElem_range]
    unfold updG
    rw [if_neg (fun h => e h.symm)]
theorem updG_updG (g : Nat → Nd) (k : Nat) (x y : Nd) : updG (updG g k x) k y = updG g k y := by
  funext j; unfold updG; by_cases h : j = k <;> simp [h]
theorem updG_self (g : Nat → Nd) (k : Nat) (x : Nd) : updG g k x k = x := by unfold updG; rw [if_pos rfl]
theorem updG_same (g : Nat → Nd) (k : Nat) : updG g k (g k) = g := by
  funext j; unfold updG; by_cases h : j = k <;> simp [h]
theorem begL_step (n K i : Nat) : updG (begL n K i) i (ndL n K i) = begL n K (i + 1) := by
  funext j
  unfold updG begL
  by_cases h : j = i
  · subst h; simp
  · by_cases h2 : j < i
    · rw [if_neg h, if_pos h2, if_pos (by omega)]
    · rw [if_neg h, if_neg h2, if_neg (by omega)]
theorem begL_set {ins : List Tr} {os : List Int} {j : Nat} (hj : j < ins.length) {I : Nat} (hI : I = 1 + os.length + 1 + j) (hl : I < (openG ins os (begL ins.length os.length j)).length) : (openG ins os (begL ins.length os.length j)).set I { (openG ins os (begL ins.length os.length j))[I] with stand := 4 } = openG ins os (begL ins.length os.length (j + 1)) := by
  rw [openG_at hj hI hl, openG_set _ hI, ← begL_step]
  have e : begL ins.length os.length j j = eachNd (ndOM ins.length os.length) ((1 + os.length : Nat) : Int) j := by unfold begL; rw [if_neg (Nat.lt_irrefl j)]
  rw [e]
  rfl
theorem begL_end {ins : List Tr} {os : List Int} : openG ins os (begL ins.length os.length ins.length) = openG ins os (ndL ins.length os.length) := openG_congr fun i hi => by unfold begL; rw [if_pos hi]
theorem ndL_kind (n K j : Nat) : (ndL n K j).kind = 2 ∧ (ndL n K j).owner = ((1 + K : Nat) : Int) ∧ (ndL n K j).place = (j : Int) ∧ (ndL n K j).stand = 4 := ⟨rfl, rfl, rfl, rfl⟩
theorem valAt_G (ins : List Tr) (os : List Int) (g : Nat → Nd) (m k : Int) : valAt (openG ins os g) m k = ((((List.range ins.length).map g).filter (doneAt m k)).getLast?).map (·.val) := by
  unfold valAt openG
  rw [List.filter_append, base_done, List.nil_append]
/-- All are there. -/
theorem lack_all (ins : List Tr) (os : List Int) : ∃ r, valuesF (openG ins os (ndL ins.length os.length)) ((1 + os.length : Nat) : Int) = some r := by
  refine ⟨List.replicate ins.length zT, ?_⟩
  rw [openG_vals _ _ _ (fun i => ⟨rfl, rfl⟩), valsF_some]
  refine ⟨by simp, fun j hj => ?_⟩
  rw [valAt_G, filter_one (ndL ins.length os.length) _ j (fun i hi => by unfold doneAt; rw [(ndL_kind _ _ i).2.2.1]; simp; omega)]
  rw [if_pos ⟨hj, by unfold doneAt isEach; obtain ⟨a, b, c, d⟩ := ndL_kind ins.length os.length j; rw [a, b, c, d]; simp⟩]
  simp [hj, ndL, eachNd]
/-- One is not: another stand, or another place. -/
theorem lack_one {ins : List Tr} {os : List Int} {k : Nat} {x : Nd} (hk : k < ins.length) (h2 : x.kind = 2) (ho : x.owner = ((1 + os.length : Nat) : Int)) (h : x.stand ≠ 4 ∨ x.place ≠ (k : Int)) : valuesF (openG ins os (updG (ndL ins.length os.length) k x)) ((1 + os.length : Nat) : Int) = none := by
  rw [openG_vals _ _ _ (fun i => by
    unfold updG
    by_cases e : i = k
    · rw [if_pos e]; exact ⟨h2, ho⟩
    · rw [if_neg e]; exact ⟨rfl, rfl⟩)]
  refine valsF_dead hk ?_
  rw [valAt_G, filter_one (updG (ndL ins.length os.length) k x) _ k (fun i hi => by
    unfold updG doneAt
    rw [if_neg hi, (ndL_kind _ _ i).2.2.1]; simp; omega), if_neg]
  · rfl
  · rintro ⟨-, hd⟩
    rw [updG_self] at hd
    unfold doneAt at hd
    simp only [Bool.and_eq_true, decide_eq_true_eq] at hd
    rcases h with h | h
    · exact h hd.1.2
    · exact h hd.2
theorem nthG_base (ins : List Tr) (os : List Int) (g : Nat → Nd) {i : Nat} (h : i < os.length + 2) : nthF (openG ins os g) (i : Int) = (baseO ins os).getD i ndZero := by
  unfold nthF openG
  rw [Int.toNat_natCast, List.getD_eq_getElem?_getD, List.getD_eq_getElem?_getD, List.getElem?_append_left (by rw [baseO_len]; exact h)]
theorem nthG_map (ins : List Tr) (os : List Int) (g : Nat → Nd) : nthF (openG ins os g) ((1 + os.length : Nat) : Int) = ndOM ins.length os.length := by
  rw [nthG_base ins os g (by omega)]
  unfold baseO
  rw [show 1 + os.length = os.length + 1 by omega, List.getD_cons_succ, List.getD_eq_getElem?_getD, List.getElem?_append_right (by simp)]
  simp
theorem nthG_zero (ins : List Tr) (os : List Int) (g : Nat → Nd) : nthF (openG ins os g) 0 = ndOA ins := by
  have := nthG_base ins os g (i := 0) (by omega)
  rw [show ((0 : Nat) : Int) = 0 from rfl] at this
  rw [this]; rfl
theorem placeG (ins : List Tr) (os : List Int) (g : Nat → Nd) {i : Nat} (h : i < os.length + 2 + ins.length) : placeF (openG ins os g) (i : Int) = true := by
  unfold placeF; rw [openG_len]; simp; omega
theorem listG (ins : List Tr) (os : List Int) (g : Nat → Nd) : listF (openG ins os g) ((1 + os.length : Nat) : Int) = (ins, 0) := by
  unfold listF
  rw [placeG ins os g (by omega), nthG_map]
  have h1 : mapsF (ndOM ins.length os.length) = true := by unfold mapsF ndOM aftO; simp
  have h2 : (ndOM ins.length os.length).after.headD 0 = 0 := by unfold ndOM aftO; rw [List.range_succ_eq_map]; rfl
  have h3 : placeF (openG ins os g) 0 = true := placeG ins os g (i := 0) (by omega)
  rw [h1, h2, h3, nthG_zero]
  have h4 : fitsF (ndOA ins).val (ndOM ins.length os.length).width = 0 := by
    unfold fitsF ndOA ndOM listV kindV kidsV
    simp
  rw [h4]
  simp [ndOA, listV, kidsV]
theorem nthG_each {ins : List Tr} {os : List Int} {g : Nat → Nd} {k : Nat} (hk : k < ins.length) : nthF (openG ins os g) ((os.length + 2 + k : Nat) : Int) = g k := by
  unfold nthF openG
  rw [Int.toNat_natCast, List.getD_eq_getElem?_getD, List.getElem?_append_right (by rw [baseO_len]; omega), baseO_len]
  simp [hk]
/-- What an instance is given that names places of its own. -/
theorem lack_input {ins : List Tr} {os : List Int} {g : Nat → Nd} {k : Nat} (hk : k < ins.length) (h2 : (g k).kind = 2) (ho : (g k).owner = ((1 + os.length : Nat) : Int)) (hp : (g k).place = (k : Int)) (h0 : 0 < os.length) (p : Int) (ha : (g k).after = [1, p]) :
    inputF (openG ins os g) ((os.length + 2 + k : Nat) : Int) = if placeF (openG ins os g) p = true ∧ (nthF (openG ins os g) p).stand = 4 then some [ins[k], numT os[0], (nthF (openG ins os g) p).val] else none := by
  unfold inputF
  rw [placeG ins os g (by omega), nthG_each hk, h2, ha]
  simp only [if_true]
  have hn1 : nthF (openG ins os g) 1 = ndOB os[0] := by
    have := nthG_base ins os g (i := 1) (by omega)
    rw [show ((1 : Nat) : Int) = 1 from rfl] at this
    rw [this]
    unfold baseO
    rw [List.getD_cons_succ, List.getD_eq_getElem?_getD, List.getElem?_append_left (by simpa using h0)]
    simp [h0]
  have hp1 : placeF (openG ins os g) 1 = true := placeG ins os g (i := 1) (by omega)
  have ho2 : ownF (openG ins os g) (g k) = some ins[k] := by
    unfold ownF
    rw [ho, hp, listG, if_pos ⟨rfl, by omega, by simp only; omega⟩]
    simp [hk]
  rw [ho2]
  simp only [aftF, hp1, hn1, Option.bind_some]
  rw [if_pos ⟨trivial, rfl⟩]
  by_cases h : placeF (openG ins os g) p = true ∧ (nthF (openG ins os g) p).stand = 4
  · rw [if_pos h, if_pos h]; rfl
  · rw [if_neg h, if_neg h]; rfl
end Fm
namespace Fm
open Go Go.RowKit
theorem lack_stand {ins : List Tr} {os : List Int} {k : Nat} (hk : k < ins.length) (s : UInt8) : (valuesF (openG ins os (updG (ndL ins.length os.length) k { ndL ins.length os.length k with stand := s })) ((1 + os.length : Nat) : Int)).isSome = decide (s = 4) := by
  by_cases h : s = 4
  · subst h
    have e : ({ ndL ins.length os.length k with stand := 4 } : Nd) = ndL ins.length os.length k := rfl
    rw [e, updG_same]
    obtain ⟨r, hr⟩ := lack_all ins os
    rw [hr]; simp
  · rw [lack_one hk rfl rfl (.inl h)]; simp [h]
theorem lack_place {ins : List Tr} {os : List Int} {k : Nat} (hk : k < ins.length) (p : Int) : (valuesF (openG ins os (updG (ndL ins.length os.length) k { ndL ins.length os.length k with place := p })) ((1 + os.length : Nat) : Int)).isSome = decide (p = (k : Int)) := by
  by_cases h : p = (k : Int)
  · subst h
    have e : ({ ndL ins.length os.length k with place := (k : Int) } : Nd) = ndL ins.length os.length k := rfl
    rw [e, updG_same]
    obtain ⟨r, hr⟩ := lack_all ins os
    rw [hr]; simp
  · rw [lack_one hk rfl rfl (.inr h)]; simp [h]
theorem lack_given {ins : List Tr} {os : List Int} {k : Nat} (hk : k < ins.length) (h0 : 0 < os.length) (p : Int) : (inputF (openG ins os (updG (ndL ins.length os.length) k { ndL ins.length os.length k with after := [1, p] })) ((os.length + 2 + k : Nat) : Int)).isSome = (placeF (openG ins os (updG (ndL ins.length os.length) k { ndL ins.length os.length k with after := [1, p] })) p && decide ((nthF (openG ins os (updG (ndL ins.length os.length) k { ndL ins.length os.length k with after := [1, p] })) p).stand = 4)) := by
  rw [lack_input (g := updG (ndL ins.length os.length) k { ndL ins.length os.length k with after := [1, p] }) hk (by rw [updG_self]; rfl) (by rw [updG_self]; rfl) (by rw [updG_self]; rfl) h0 p (by rw [updG_self])]
  by_cases h : placeF (openG ins os (updG (ndL ins.length os.length) k { ndL ins.length os.length k with after := [1, p] })) p = true ∧ (nthF (openG ins os (updG (ndL ins.length os.length) k { ndL ins.length os.length k with after := [1, p] })) p).stand = 4
  · rw [if_pos h]; obtain ⟨h1, h2⟩ := h; rw [h1, h2]; rfl
  · rw [if_neg h]
    by_cases h1 : placeF (openG ins os (updG (ndL ins.length os.length) k { ndL ins.length os.length k with after := [1, p] })) p = true
    · rw [h1]
      simp only [Bool.true_and, Option.isSome_none]
      exact (decide_eq_false (fun h2 => h ⟨h1, h2⟩)).symm
    · rw [Bool.not_eq_true] at h1; rw [h1]; rfl
/-- One cell of one instance is written. -/
theorem HeldN.putG {eN : TypeId} {base : Nat} {w : World} {g cap LN : Nat} {ins : List Tr} {os : List Int} {G : Nat → Nd} (h : HeldN eN base w (.slice (some ⟨g, 0, none⟩) LN cap) (openG ins os G)) (hl : LN = os.length + 2 + ins.length) {q I : Nat} (hq : q < ins.length) (hI : I = os.length + 2 + q) (j : Nat) (hj : j < 16) (u : Value) (n' : Nd)
    (hN : ∀ (w' : World) (C : List Value), NdV w' (G q) (.agg C.toArray) → NdV w' n' (.agg (C.set j u).toArray)) :
    ((∃ v, w.cell? ⟨g, I * 16 + j, none⟩ = some v) ∧ w.frozen? ⟨g, I * 16 + j, none⟩ = false) ∧ HeldN eN base (w.setCell ⟨g, I * 16 + j, none⟩ u) (.slice (some ⟨g, 0, none⟩) LN cap) (openG ins os (updG G q n')) ∧ w.grownBy (w.setCell ⟨g, I * 16 + j, none⟩ u) (some g) := by
  have hLE : LN = (openG ins os G).length := by rw [openG_len]; exact hl
  have hLI : I < (openG ins os G).length := by rw [openG_len]; omega
  have hH : HeldN eN base w (.slice (some ⟨g, 0, none⟩) (openG ins os G).length cap) (openG ins os G) := by rw [← hLE]; exact h
  have hI' : I = 1 + os.length + 1 + q := by omega
  have hat : (openG ins os G)[I] = G q := openG_at hq hI' hLI
  obtain ⟨p1, p2⟩ := hH.put hLI j hj u n' (fun w' C hn => hN w' C (by rw [← hat]; exact hn))
  rw [← hLE, openG_set _ hI'] at p1
  exact ⟨hH.spot hLI j hj, p1, p2⟩
theorem HeldN.putA {eN : TypeId} {base : Nat} {w : World} {g cap LN : Nat} {ins : List Tr} {os : List Int} {G : Nat → Nd} (h : HeldN eN base w (.slice (some ⟨g, 0, none⟩) LN cap) (openG ins os G)) (hl : LN = os.length + 2 + ins.length) {q I : Nat} (hq : q < ins.length) (hI : I = os.length + 2 + q) {xs : List Int} {a : Option Addr} {m c : Nat} (hr : FarI w (some g) xs (.slice a m c)) :
    ((∃ v, w.cell? ⟨g, I * 16 + 6, none⟩ = some v) ∧ w.frozen? ⟨g, I * 16 + 6, none⟩ = false) ∧ HeldN eN base (w.setCell ⟨g, I * 16 + 6, none⟩ (.slice a m c)) (.slice (some ⟨g, 0, none⟩) LN cap) (openG ins os (updG G q { G q with after := xs })) ∧ w.grownBy (w.setCell ⟨g, I * 16 + 6, none⟩ (.slice a m c)) (some g) := by
  have hLE : LN = (openG ins os G).length := by rw [openG_len]; exact hl
  have hLI : I < (openG ins os G).length := by rw [openG_len]; omega
  have hH : HeldN eN base w (.slice (some ⟨g, 0, none⟩) (openG ins os G).length cap) (openG ins os G) := by rw [← hLE]; exact h
  have hI' : I = 1 + os.length + 1 + q := by omega
  have hat : (openG ins os G)[I] = G q := openG_at hq hI' hLI
  have hg := setOne_grown w g (I * 16 + 6) (.slice a m c)
  have p1 := hH.upd hLI { G q with after := xs } (fun C => C.set 6 (.slice a m c)) (W := w.setCell ⟨g, I * 16 + 6, none⟩ (.slice a m c)) (fun cs _ h16 hc ho => by
    rw [← flat16_set1 hc h16 (by omega)]
    exact (ho.stored (I * 16 + 6) _).1) hg (fun C hC => farNd_of (fun w' hw' => by
      have := hC.2.2 w' (grown_trans hg hw')
      rw [hat] at this
      exact ndV_after this (hr w' (grown_trans hg hw'))))
  rw [← hLE, openG_set _ hI'] at p1
  exact ⟨hH.spot hLI 6 (by omega), p1, hg⟩
/-- How a node stands. -/
theorem HeldN.standAt {eN : TypeId} {base : Nat} {w : World} {g cap LN : Nat} {l : List Nd} (h : HeldN eN base w (.slice (some ⟨g, 0, none⟩) LN cap) l) (hl : LN = l.length) {i : Nat} (hi : i < LN) : w.cell? ⟨g, i * 16 + 9, none⟩ = some (.int .u8 ((nthF l (i : Int)).stand.toNat : Int)) := by
  subst hl
  obtain ⟨C, h1, h2, -⟩ := h.at hi
  obtain ⟨a, m, c, k, N, s, d, e, -⟩ := h1.2.2 w (grown_ext (Ext.refl w) _)
  injection e with e
  injection e with e
  subst e
  have e2 : nthF l (i : Int) = l[i] := by unfold nthF; simp [hi]
  rw [e2]
  exact h2 9 _ rfl
theorem lk_mod (x : UInt8) (n : Nat) : ((wrap64 (x.toNat : Int)).tmod (n : Int)) = ((x.toNat % n : Nat) : Int) := by
  rw [show wrap64 (x.toNat : Int) = (x.toNat : Int) by (have := x.toNat_lt; unfold wrap64; omega)]; rfl
theorem lk_st (x : UInt8) : (x.toNat : Int).tmod 7 = ((x % 7).toNat : Int) := by
  have e : (x % 7).toNat = x.toNat % 7 := by rw [UInt8.toNat_mod]; simp
  rw [Int.tmod_eq_emod_of_nonneg (by omega), e]; omega
theorem far_lit {w : World} {g : Nat} {xs : List Int} {e : TypeId} {n : Nat} {cs : Array Value} (hc : cs.toList = xs.map (Value.int .i64)) (hn : n = xs.length) (hx : ∀ i, i ∈ xs → isI64 i) (hg : g < w.heap.size) (hm : n ≤ 1000) : FarI (w.alloc (.cells cs e)) (some g) xs (.slice (some ⟨w.heap.size, 0, none⟩) n n) := by
  subst hn
  have ho := World.ownsRow_lit w cs xs.length (base := w.heap.size) (e := e) (size := 1) (Nat.le_refl _) (by unfold maxLen; omega) (by rw [← Array.length_toList, hc]; simp)
  refine OwnN.farI (e := e) (base := w.heap.size) ?_ hx hg
  unfold OwnN
  rw [hc] at ho
  exact ho
end Fm

open Go.RowKit Go.Shelf
namespace Go.Proofs.YtpcgpcjleedilaaDoor
open Go Go.Proofs Fm

/-- The values 0, 1, .. -/
def upL (n : Nat) : List Tr := (List.range n).map fun (i : Nat) => numT (i : Int)
theorem upL_len (n : Nat) : (upL n).length = n := by unfold upL; simp
theorem upL_succ (n : Nat) : upL (n + 1) = upL n ++ [numT (n : Int)] := by unfold upL; rw [List.range_succ, List.map_append]; rfl
theorem ValuesPost.said {w w' : World} {l : List Nd} {m : Int} {e : Ending} (h : ValuesPost w l m e w') : ∃ (k0 n0 : Int) (s0 : ByteArray) (a0 : Option Addr) (m0 c0 : Nat), e = .returned (.tuple #[.agg #[.int .u8 k0, .int .i64 n0, .string s0, .slice a0 m0 c0], .bool (valuesF l m).isSome]) ∧ Ext w w' := by
  obtain ⟨v, b, rfl, hE, hy, hn⟩ := h
  cases e : valuesF l m with
  | none =>
    obtain ⟨rfl, rfl⟩ := hn e
    exact ⟨_, _, _, _, _, _, rfl, hE⟩
  | some r =>
    obtain ⟨rfl, ho⟩ := hy r e
    obtain ⟨d, rfl, -, -, hl⟩ := ho.lies.parts
    obtain ⟨a, c, rfl, -⟩ := hl
    exact ⟨_, _, _, _, _, _, rfl, hE⟩
theorem lightG {ins : List Tr} {os : List Int} {g : Nat → Nd} (h : ∀ t, t ∈ ins → partsT t ≤ 600) (hl : ins.length ≤ 20) (hos : os.length ≤ 40) (hg : ∀ i, i < ins.length → partsT (g i).val ≤ 1000000 ∧ (g i).after.length ≤ 900) : ∀ x, x ∈ openG ins os g → partsT x.val ≤ 1000000 ∧ x.after.length ≤ 900 := by
  intro x hx
  unfold openG at hx
  rcases List.mem_append.1 hx with hx | hx
  · exact open_light (pend := []) h hl hos x (by unfold openO; exact List.mem_append_left _ hx)
  · obtain ⟨i, hi, rfl⟩ := List.mem_map.1 hx
    exact hg i (List.mem_range.1 hi)
theorem upL_parts (n : Nat) : ∀ t, t ∈ upL n → partsT t ≤ 600 := by
  intro t ht
  obtain ⟨i, -, rfl⟩ := List.mem_map.1 ht
  unfold numT
  rw [partsT_node]; show 1 + 0 ≤ _; omega
theorem ndL_parts (n K j : Nat) (hK : K ≤ 40) : partsT (ndL n K j).val ≤ 1000000 ∧ (ndL n K j).after.length ≤ 900 := by
  refine ⟨?_, ?_⟩
  · show partsT zT ≤ _
    unfold zT; rw [partsT_node]; show 1 + 0 ≤ _; omega
  · show (aftO K).tail.length ≤ 900
    rw [List.length_tail, aftO_len]; omega
theorem updG_light {g : Nat → Nd} {k : Nat} {x : Nd} (hx : partsT x.val ≤ 1000000 ∧ x.after.length ≤ 900) (h : ∀ i, partsT (g i).val ≤ 1000000 ∧ (g i).after.length ≤ 900) (i : Nat) : partsT (updG g k x i).val ≤ 1000000 ∧ (updG g k x i).after.length ≤ 900 := by
  unfold updG
  by_cases e : i = k
  · rw [if_pos e]; exact hx
  · rw [if_neg e]; exact h i
theorem IntRow_nil (w : World) : intE.Row w [] (.slice none 0 0) := OwnN.row (OwnN.nil 3 0 w) (fun i hi => by cases hi)
theorem InputPost.said {w w' : World} {l : List Nd} {i : Int} {e : Ending} (h : InputPost w l i e w') : ∃ (A : Option Addr) (m c : Nat), e = .returned (.tuple #[.slice A m c, .bool (inputF l i).isSome]) ∧ Ext w w' := by
  obtain ⟨A, m, c, b, rfl, hE, hy, hn⟩ := h
  cases e : inputF l i with
  | none =>
    obtain ⟨rfl, -⟩ := hn e
    exact ⟨_, _, _, rfl, hE⟩
  | some r =>
    obtain ⟨rfl, -⟩ := hy r e
    exact ⟨_, _, _, rfl, hE⟩
set_option maxRecDepth 100000 in
set_option maxHeartbeats 1600000 in
theorem fanLacks_any (w : World) (many which stand at' : UInt8) (place : Int) (hp : isI64 place) (hw : KW w) :
    Calls Tryd.prog 7 #[.int .u8 (many.toNat : Int), .int .u8 (which.toNat : Int), .int .u8 (stand.toNat : Int), .int .u8 (at'.toNat : Int), .int .i64 place] w fun e w' => e = .returned (.bool true) ∧ Ext w w' := by
  have HKW := Lib.hid hw
  have HPL := Lib.hid hp
  obtain ⟨NI, hNI⟩ : ∃ NI : Nat, NI = 1 + many.toNat % 20 := ⟨_, rfl⟩
  have hNI1 : 1 ≤ NI ∧ NI ≤ 20 := by omega
  obtain ⟨mz, hmz⟩ : ∃ mz : Int, mz = (many.toNat : Int) := ⟨_, rfl⟩
  have hmz2 : mz.tmod 20 = ((NI - 1 : Nat) : Int) := by rw [hmz, hNI, Int.tmod_eq_emod_of_nonneg (by omega)]; omega
  have hmz3 : IntKind.u8.wrap ((NI - 1 : Nat) : Int) = ((NI - 1 : Nat) : Int) := IntWalk.u8_in _ (by omega)
  obtain ⟨wz, hwz⟩ : ∃ wz : Int, wz = (which.toNat : Int) := ⟨_, rfl⟩
  obtain ⟨sz, hsz⟩ : ∃ sz : Int, sz = (stand.toNat : Int) := ⟨_, rfl⟩
  obtain ⟨az, haz⟩ : ∃ az : Int, az = (at'.toNat : Int) := ⟨_, rfl⟩
  obtain ⟨sx, hsx⟩ : ∃ sx : UInt8, sx = stand % 7 := ⟨_, rfl⟩
  have HST := Lib.hid (show sz.tmod 7 = (sx.toNat : Int) by rw [hsz, hsx]; exact lk_st stand)
  have HAZ := Lib.hid (show isI64 az by (have := at'.toNat_lt; unfold isI64; omega))
  have HW64 := Lib.hid (show wrap64 az = az by (have := at'.toNat_lt; unfold wrap64; omega))
  rw [← hmz, ← hwz, ← hsz, ← haz]
  have HWZ := Lib.hid hwz
  obtain ⟨NJ, hNJ⟩ : ∃ NJ : Nat, NJ = NI - 1 := ⟨_, rfl⟩
  rw [← hNJ] at hmz2 hmz3
  have hNJ1 : (1 : Int) + (NJ : Int) = (NI : Int) := by omega
  have HNJ := Lib.hid hNJ
  clear hp hw hNI hmz hNJ hwz hsz haz hsx
  go_enter Tryd.func7, Tryd.ntmps7
  go_wp2_with fail
  go_loopw [30, 11] (fun i l wr => ∃ (j : Nat) (A : Option Addr) (n C : Nat), j ≤ NI ∧ i = .int .i64 j ∧ l = .slice A n C ∧ n = j ∧ Hid (Ext w wr) ∧ Hid (OwnL 46 wr w.heap.size (upL j) (.slice A n C))) (fun i _ _ => NI - (intOf i).toNat)
  case atStart => exact ⟨0, _, _, _, by omega, rfl, rfl, rfl, Lib.hid (Ext.refl _), Lib.hid (OwnL.nil _ _ _)⟩
  case round =>
    obtain ⟨j, A, n, C, hj, rfl, rfl, rfl, HE, HO⟩ := hrel
    by_cases hlt : n < NI
    case pos =>
      have hjl : (n : Int) < (NI : Int) := by omega
      go_wp2_with fail
      refine (num18_any (n : Int) wr).mono ?_
      rintro e w4 ⟨rfl, hE4⟩
      obtain ⟨xsr, hrow⟩ := HO.out.row
      rw [upL_len] at hrow
      have hEa := (Ext.refl w4).alloc (.cells #[.int .u8 0, .int .i64 (n : Int), .string { data := #[] }, .slice none 0 0] 46)
      have HBn := Lib.hid (heap_alloc_new w4 (.cells #[.int .u8 0, .int .i64 (n : Int), .string { data := #[] }, .slice none 0 0] 46))
      have HRw : Hid ((w4.alloc (.cells #[.int .u8 0, .int .i64 (n : Int), .string { data := #[] }, .slice none 0 0] 46)).ownsRow w.heap.size 46 4 (.slice A n C) n xsr) := Lib.hid ((hE4.trans hEa).own hrow)
      have HOt5 := Lib.hid (num18_own (n := (n : Int)) (by unfold isI64; omega) (w4.alloc (.cells #[.int .u8 0, .int .i64 (n : Int), .string { data := #[] }, .slice none 0 0] 46)) wr.heap.size)
      have HE5 := Lib.hid (HE.out.trans (hE4.trans hEa))
      have HE45 := Lib.hid (hE4.trans hEa)
      have hEs := HE.out.size
      clear hE4 hEa hrow
      go_wp2_with (at_builtin; refine wpList_appOne elemval_F rfl _ _ rfl rfl HRw.out (news := [.int .u8 0, .int .i64 (n : Int), .string { data := #[] }, .slice none 0 0]) rfl HBn.out rfl (by simp [Value.oneCell']) (by omega) (by omega) HE5.out.size ?_)
      intro v6 w6 hown6 hgr6 hat6
      obtain ⟨gg, cap6, rfl⟩ := ownsRow_succ hown6
      have HRw2 : Hid ((w4.alloc (.cells #[.int .u8 0, .int .i64 (n : Int), .string { data := #[] }, .slice none 0 0] 46)).ownsRow w.heap.size 46 4 (.slice A n C) (upL n).length xsr) := Lib.hid (by rw [upL_len]; exact HRw.out)
      have HO9 := Lib.hid (OwnL.snoc (w0 := wr) (mid := wr.heap.size) HO.out (Nat.le_refl _) (fun b h1 h2 => HE45.out.grownBy.block b h2 (by simp)) HOt5.out hEs hgr6 HRw2.out (by rw [upL_len]; exact hown6) (by rcases hat6 with h | h; exact .inl h; exact .inr (by rw [h]; simp)))
      have HE9 := Lib.hid (HE5.out.grown hgr6 (fun k hk => (World.ownsRow.lt HRw.out k hk).1))
      rw [← upL_succ] at HO9
      clear hown6 hgr6 hat6 HBn HE5 HOt5 HRw HRw2 HE45 HO HE
      go_wp2
      go_roundw
      case rel => exact ⟨n + 1, _, _, _, by omega, by go_num, rfl, rfl, HE9, HO9⟩
      case measure => simp [intOf]; omega
    obtain rfl : n = NI := by omega
    clear hlt
    have hjl : ¬ (n : Int) < (n : Int) := by omega
    obtain ⟨ins, hins⟩ : ∃ ins, ins = upL n := ⟨_, rfl⟩
    rw [← hins] at HO
    have hil : ins.length = n := by rw [hins, upL_len]
    have HIL := Lib.hid hil
    have HLI := Lib.hid HO.out.lies
    have hb1 := heap_alloc_new wr (.cells #[.int .i64 9] 2)
    have hE1 := (Ext.refl wr).alloc (.cells #[.int .i64 9] 2)
    have hO1 := World.ownsRow_lit wr #[.int .i64 9] 1 (base := wr.heap.size) (e := 2) (size := 1) (Nat.le_refl _) (by unfold maxLen; omega) rfl
    have HR9 : Hid (intE.Row (wr.alloc (.cells #[.int .i64 9] 2)) [9] (.slice (some ⟨wr.heap.size, 0, none⟩) 1 1)) := Lib.hid (OwnN.row hO1 (fun i hi => by rw [List.mem_singleton] at hi; subst hi; unfold isI64; omega))
    have HL1 := Lib.hid (HLI.out.ext hE1)
    have HE1 := Lib.hid (HE.out.trans hE1)
    have HUP := Lib.hid (show ∀ t, t ∈ ins → partsT t ≤ 600 by rw [hins]; exact upL_parts n)
    clear hb1 hE1 hO1 hins hil HLI HO HE
    go_wp2_with fail
    generalize wr.alloc (.cells #[.int .i64 9] 2) = W1 at *
    obtain ⟨os, hos⟩ : ∃ os : List Int, os = [9] := ⟨_, rfl⟩
    rw [← hos] at HR9
    have HOL : Hid (os.length = 1) := Lib.hid (by rw [hos]; rfl)
    refine (opened_any ins os (by rw [HIL.out]; omega) (by rw [HOL.out]; omega) W1 (HKW.out.ext HE1.out) _ _ HL1.out HR9.out).mono ?_
    rintro e w2 ⟨g, LN, cl, rfl, hE2, hH2⟩
    have hLN : LN = 3 + n := by
      obtain ⟨a, c, e⟩ := hH2.slice
      rw [openO_len, HIL.out, HOL.out] at e
      injection e
    rw [openO_openG] at hH2
    have HE2 := Lib.hid (HE1.out.trans hE2)
    have HH2 := Lib.hid hH2
    have hgb := (hH2.lt g rfl)
    have HLN := Lib.hid hLN
    have hW1 := HE1.out.size
    rw [show ((1 + os.length : Nat) : Int) = 2 by rw [HOL.out]; rfl]
    have hne : ¬ (LN : Int) ≤ 2 + (n : Int) := by omega
    clear hE2 hH2 HR9 HL1 HE1 hLN hjl
    go_wp2_with fail
    clear hne
    go_loopw [54] (fun i wx => ∃ (j : Nat), j ≤ n ∧ i = .int .i64 j ∧ Hid (Ext w wx) ∧ Hid (HeldN 54 W1.heap.size wx (.slice (some ⟨g, 0, none⟩) LN cl) (openG ins os (begL ins.length os.length j)))) (fun i _ => n - (intOf i).toNat)
    case atStart => exact ⟨0, by omega, rfl, HE2, HH2⟩
    case round =>
      obtain ⟨j, hj, rfl, HE, HH⟩ := hrel
      rename World => wx
      by_cases hlt : j < n
      case pos =>
        have hjl : (j : Int) < (n : Int) := by omega
        obtain ⟨I, hI⟩ : ∃ I, I = 3 + j := ⟨_, rfl⟩
        have hw1 : (3 : Int) + (j : Int) = (I : Int) := by omega
        have hLIn : I < LN := by have := HLN.out; omega
        have hLE : LN = (openG ins os (begL ins.length os.length j)).length := by rw [openG_len, HIL.out, HLN.out, HOL.out]
        have hLI : I < (openG ins os (begL ins.length os.length j)).length := by rw [← hLE]; exact hLIn
        have hH : HeldN 54 W1.heap.size wx (.slice (some ⟨g, 0, none⟩) (openG ins os (begL ins.length os.length j)).length cl) (openG ins os (begL ins.length os.length j)) := by rw [← hLE]; exact HH.out
        have ⟨⟨u9, c9⟩, f9⟩ := hH.spot hLI 9 (by omega)
        obtain ⟨p1, hgr⟩ := hH.put hLI 9 (by omega) (.int .u8 4) { (openG ins os (begL ins.length os.length j))[I] with stand := 4 } (fun w' C h => ndV_stand h 4)
        rw [← hLE, begL_set (by rw [HIL.out]; exact hlt) (show I = 1 + os.length + 1 + j by rw [hI, HOL.out]) hLI] at p1
        have HH9 := Lib.hid p1
        have HE9 := Lib.hid (HE.out.grown hgr (fun k hk => by injection hk with hk; omega))
        clear p1 hgr hH hLI hLE hI HH HE
        go_wp2
        go_roundw
        case rel => exact ⟨j + 1, by omega, by go_num, HE9, HH9⟩
        case measure => simp [intOf]; omega
      obtain rfl : n = j := by omega
      rw [← HIL.out, begL_end] at HH
      have HLT := Lib.hid (lightG (g := ndL ins.length os.length) HUP.out (by rw [HIL.out]; omega) (by rw [HOL.out]; omega) (fun i _ => ndL_parts _ _ i (by rw [HOL.out]; omega)))
      have HO40 := Lib.hid (show os.length ≤ 40 by have := HOL.out; omega)
      have HLU := Lib.hid (fun (k : Nat) (x : Nd) (hx : partsT x.val ≤ 1000000 ∧ x.after.length ≤ 900) => lightG (g := updG (ndL ins.length os.length) k x) HUP.out (by rw [HIL.out]; omega) (by rw [HOL.out]; omega) (fun i _ => updG_light hx (fun i => ndL_parts _ _ i (by rw [HOL.out]; omega)) i))
      obtain ⟨rv, hrv⟩ := lack_all ins os
      obtain ⟨wq, hwq⟩ : ∃ wq, wq = which.toNat % n := ⟨_, rfl⟩
      have HWQ := Lib.hid hwq
      clear hwq
      have HLen : Hid (∀ g, (openG ins os g).length = LN) := Lib.hid (fun g => by rw [openG_len, HIL.out, HOL.out, HLN.out])
      have hV := (fvalues_any (openG ins os (ndL ins.length os.length)) 2 (by rw [HLen.out]; have := HLN.out; omega) (fun x hx => (HLT.out x hx).1) wx _ HH.out.row).mono (fun _ _ h => ValuesPost.said h)
      rw [show ((1 + os.length : Nat) : Int) = 2 by rw [HOL.out]; rfl] at hrv
      rw [hrv] at hV
      have HV := Lib.hid hV
      have hjl : ¬ (n : Int) < (n : Int) := by omega
      clear hV hrv hlt
      go_wp2_with fail
      refine HV.out.mono ?_
      rintro e w3 ⟨k0, n0, s0, a0, m0, c0, rfl, hE3⟩
      have hEa := (Ext.refl w3).alloc (.cells #[.int .u8 k0, .int .i64 n0, .string s0, .slice a0 m0 c0] 46)
      have HE3 := Lib.hid (HE.out.trans (hE3.trans hEa))
      have HH3 := Lib.hid (HH.out.ext (hE3.trans hEa))
      clear hE3 hEa HV HE HH
      go_upto_region 18 with (fail)
      generalize w3.alloc (.cells #[.int .u8 k0, .int .i64 n0, .string s0, .slice a0 m0 c0] 46) = w4 at *
      have hwn : wq < n := by rw [HWQ.out]; exact Nat.mod_lt _ (by omega)
      have hmod : (wrap64 wz).tmod (n : Int) = (wq : Int) := by rw [HWZ.out, HWQ.out]; exact lk_mod which n
      have hmz : ¬ (n : Int) = 0 := by omega
      obtain ⟨I, hI⟩ : ∃ I, I = 3 + wq := ⟨_, rfl⟩
      have hw1 : (3 : Int) + (wq : Int) = (I : Int) := by omega
      have HI := Lib.hid (show I = os.length + 2 + wq by have := HOL.out; omega)
      have hLIn : I < LN := by have := HLN.out; omega
      have hI30 : I ≤ 30 := by omega
      have HWN := Lib.hid (show wq < ins.length by rw [HIL.out]; exact hwn)
      have HLL := Lib.hid (show LN = os.length + 2 + ins.length by have := HIL.out; have := HOL.out; have := HLN.out; omega)
      have HIJ := Lib.hid (show (I : Int) = 3 + (wq : Int) by omega)
      clear hI
      go_upto_region 19 with (fail)
      clear hmod hmz hw1
      have hst2 : IntKind.u8.wrap (sx.toNat : Int) = (sx.toNat : Int) := IntWalk.u8_in _ (by have := sx.toNat_lt; omega)
      have hst : sz.tmod 7 = (sx.toNat : Int) := HST.out
      have ⟨⟨⟨u9, c9⟩, f9⟩, p1, hgr⟩ := HH3.out.putG HLL.out HWN.out HI.out 9 (by omega) (.int .u8 (sx.toNat : Int)) { ndL ins.length os.length wq with stand := sx } (fun w' C h => ndV_stand h sx)
      have HH4 := Lib.hid p1
      have HE4 := Lib.hid (HE3.out.grown hgr (fun k hk => by injection hk with hk; omega))
      clear p1 hgr HH3 HE3
      go_upto_region 20 with (fail)
      clear c9 f9 u9
      generalize w4.setCell ⟨g, I * 16 + 9, none⟩ (.int .u8 (sx.toNat : Int)) = w5 at *
      obtain ⟨b2, hb2⟩ : ∃ b2 : Bool, b2 = decide (sx = 4) := ⟨_, rfl⟩
      have hrv := lack_stand (os := os) HWN.out sx
      rw [show ((1 + os.length : Nat) : Int) = 2 by rw [HOL.out]; rfl, ← hb2] at hrv
      have hV := (fvalues_any (openG ins os (updG (ndL ins.length os.length) wq { ndL ins.length os.length wq with stand := sx })) 2 (by rw [HLen.out]; have := HLN.out; omega) (fun x hx => (HLU.out wq { ndL ins.length os.length wq with stand := sx } (ndL_parts ins.length os.length wq HO40.out) x hx).1) w5 _ HH4.out.row).mono (fun _ _ h => ValuesPost.said h)
      rw [hrv] at hV
      have HV := Lib.hid hV
      have HQ2 := Lib.hid (show ((sx.toNat : Int) == 4) = b2 by rw [hb2]; exact u8_one 4)
      clear hV hrv hb2
      go_wp2_with fail
      refine HV.out.mono ?_
      rintro e w6 ⟨k1, n1, s1, a1, m1, c1, rfl, hE6⟩
      have hEa := (Ext.refl w6).alloc (.cells #[.int .u8 k1, .int .i64 n1, .string s1, .slice a1 m1 c1] 46)
      have HE6 := Lib.hid (HE4.out.trans (hE6.trans hEa))
      have HH6 := Lib.hid (HH4.out.ext (hE6.trans hEa))
      have hq2 := HQ2.out
      clear hE6 hEa HV HE4 HH4
      go_upto_region 23 with (fail)
      clear hst hst2 hq2 HQ2
      generalize w6.alloc (.cells #[.int .u8 k1, .int .i64 n1, .string s1, .slice a1 m1 c1] 46) = w7 at *
      have ⟨⟨⟨u9, c9⟩, f9⟩, p1, hg1⟩ := HH6.out.putG HLL.out HWN.out HI.out 9 (by omega) (.int .u8 4) (ndL ins.length os.length wq) (fun w' C h => by rw [updG_self] at h; exact ndV_stand h 4)
      rw [updG_updG] at p1
      have ⟨_, p2, hg2⟩ := p1.putG HLL.out HWN.out HI.out 5 (by omega) (.int .i64 az) { ndL ins.length os.length wq with place := az } (fun w' C h => by rw [updG_self] at h; exact ndV_place h HAZ.out)
      rw [updG_updG] at p2
      have ⟨⟨⟨u5, c5⟩, f5⟩, _, _⟩ := HH6.out.putG HLL.out HWN.out HI.out 5 (by omega) (.int .i64 az) { ndL ins.length os.length wq with place := az, stand := sx } (fun w' C h => by rw [updG_self] at h; exact ndV_place h HAZ.out)
      have HH8 := Lib.hid p2
      have HE8 := Lib.hid (HE6.out.grown (grown_trans hg1 hg2) (fun k hk => by injection hk with hk; omega))
      clear p1 p2 hg1 hg2 HH6 HE6
      have hw64 := HW64.out
      go_upto_region 24 with (fail)
      clear c9 f9 u9 c5 f5 u5
      generalize (w7.setCell ⟨g, I * 16 + 9, none⟩ (.int .u8 4)).setCell ⟨g, I * 16 + 5, none⟩ (.int .i64 az) = w8 at *
      obtain ⟨b3, hb3⟩ : ∃ b3 : Bool, b3 = decide (az = (wq : Int)) := ⟨_, rfl⟩
      have hrv := lack_place (os := os) HWN.out az
      rw [show ((1 + os.length : Nat) : Int) = 2 by rw [HOL.out]; rfl, ← hb3] at hrv
      have hV := (fvalues_any (openG ins os (updG (ndL ins.length os.length) wq { ndL ins.length os.length wq with place := az })) 2 (by rw [HLen.out]; have := HLN.out; omega) (fun x hx => (HLU.out wq { ndL ins.length os.length wq with place := az } (ndL_parts ins.length os.length wq HO40.out) x hx).1) w8 _ HH8.out.row).mono (fun _ _ h => ValuesPost.said h)
      rw [hrv] at hV
      have HV := Lib.hid hV
      have HQ3 := Lib.hid (show (az == (wq : Int)) = b3 by rw [hb3]; rfl)
      clear hV hrv hb3
      go_wp2_with fail
      refine HV.out.mono ?_
      rintro e w9 ⟨k2, n2, s2, a2, m2, c2, rfl, hE9⟩
      have hEa := (Ext.refl w9).alloc (.cells #[.int .u8 k2, .int .i64 n2, .string s2, .slice a2 m2 c2] 46)
      have HE9 := Lib.hid (HE8.out.trans (hE9.trans hEa))
      have HH9 := Lib.hid (HH8.out.ext (hE9.trans hEa))
      have hq3 := HQ3.out
      obtain ⟨J, hJ⟩ : ∃ J : Nat, J = wq + 1 := ⟨_, rfl⟩
      have hs1 : (I : Int) - 2 = (J : Int) := by have := HIJ.out; omega
      have hs2 : (J : Int) - 1 = (wq : Int) := by omega
      have hJ40 : J ≤ 40 := by omega
      clear hE9 hEa HV HE8 HH8 hJ
      go_upto_region 27 with (fail)
      clear hq3 HQ3 hw64
      generalize w9.alloc (.cells #[.int .u8 k2, .int .i64 n2, .string s2, .slice a2 m2 c2] 46) = w10 at *
      have ⟨⟨⟨u5, c5⟩, f5⟩, p1, hg1⟩ := HH9.out.putG HLL.out HWN.out HI.out 5 (by omega) (.int .i64 (wq : Int)) (ndL ins.length os.length wq) (fun w' C h => by rw [updG_self] at h; exact ndV_place (x := (wq : Int)) h (by unfold isI64; omega))
      rw [updG_updG, updG_same] at p1
      have HH11 := Lib.hid p1
      have HE11 := Lib.hid (HE9.out.grown hg1 (fun k hk => by injection hk with hk; omega))
      clear p1 hg1 HH9 HE9
      go_upto_region 28 with (fail)
      clear c5 f5 u5 hs1 hs2
      generalize w10.setCell ⟨g, I * 16 + 5, none⟩ (.int .i64 (wq : Int)) = w11 at *
      have hg11 := (HH11.out.lt g rfl).2
      have hEa := (Ext.refl w11).alloc (.cells #[.int .i64 1, .int .i64 place] 3)
      have hF := far_lit (w := w11) (g := g) (xs := [1, place]) (e := 3) (n := 2) (cs := #[.int .i64 1, .int .i64 place]) rfl rfl (fun i hi => by
        simp only [List.mem_cons, List.not_mem_nil, or_false] at hi
        rcases hi with rfl | rfl
        · unfold isI64; omega
        · exact HPL.out) hg11 (by omega)
      have ⟨⟨⟨u6, c6⟩, f6⟩, p1, hg1⟩ := (HH11.out.ext hEa).putA HLL.out HWN.out HI.out hF
      rw [World.setCell_alloc_past _ _ _ _ hg11] at p1 hg1
      have HH12 := Lib.hid p1
      have HE12 := Lib.hid ((HE11.out.trans hEa).grown hg1 (fun k hk => by injection hk with hk; omega))
      have ⟨⟨u6', c6'⟩, f6'⟩ := (HH11.out.putG HLL.out HWN.out HI.out 6 (by omega) (.slice none 0 0) { ndL ins.length os.length wq with after := [] } (fun w' C h => ndV_after h (IntRow_nil w'))).1
      clear p1 hg1 HH11 HE11 hF hEa
      go_upto_region 29 with (fail)
      clear c6 f6 u6 c6' f6' u6'
      generalize (w11.setCell ⟨g, I * 16 + 6, none⟩ (.slice (some ⟨w11.heap.size, 0, none⟩) 2 2)).alloc (.cells #[.int .i64 1, .int .i64 place] 3) = w12 at *
      obtain ⟨ndl, hnd⟩ : ∃ ndl, ndl = openG ins os (updG (ndL ins.length os.length) wq { ndL ins.length os.length wq with after := [1, place] }) := ⟨_, rfl⟩
      rw [← hnd] at HH12
      obtain ⟨b4, hb4⟩ : ∃ b4 : Bool, b4 = (inputF ndl (I : Int)).isSome := ⟨_, rfl⟩
      have HB4 := Lib.hid (show b4 = (placeF ndl place && decide ((nthF ndl place).stand = 4)) by rw [hb4, HI.out, hnd]; exact lack_given HWN.out (by have := HOL.out; omega) place)
      have HNL := Lib.hid (show LN = ndl.length by rw [hnd, HLen.out])
      have hV := (finput_any ndl (I : Int) (fun x hx => (HLU.out wq { ndL ins.length os.length wq with after := [1, place] } ⟨(ndL_parts ins.length os.length wq HO40.out).1, by show 2 ≤ 900; omega⟩ x (by rw [← hnd]; exact hx))) w12 _ HH12.out.row).mono (fun _ _ h => InputPost.said h)
      rw [← hb4] at hV
      have HV := Lib.hid hV
      clear hV hnd hb4
      go_wp2_with fail
      refine HV.out.mono ?_
      rintro e w13 ⟨A4, m4, c4, rfl, hE13⟩
      have HE13 := Lib.hid (HE12.out.trans hE13)
      have HH13 := Lib.hid (HH12.out.ext hE13)
      clear hE13 HV HE12 HH12
      go_upto_region 30 with (fail)
      go_cut [25] from 143 to 158 (fun p w' => p = .bool b4 ∧ w13 = w')
      case first =>
        by_cases h0 : 0 ≤ place
        case neg =>
          have hf : b4 = false := by
            rw [HB4.out]; unfold placeF
            rw [decide_eq_false h0]; rfl
          have hd : decide (0 ≤ place) = false := decide_eq_false h0
          have HF := Lib.hid hf
          clear hf
          go_wp2_with fail
          go_meet
          case rel => exact ⟨by rw [HF.out], rfl⟩
        case pos =>
          obtain ⟨P, rfl⟩ : ∃ P : Nat, place = (P : Int) := ⟨place.toNat, by omega⟩
          by_cases h1 : P < LN
          case neg =>
            have hf : b4 = false := by
              rw [HB4.out]; unfold placeF
              rw [← HNL.out, decide_eq_false (show ¬ (P : Int) < (LN : Int) by omega)]; simp
            have hd : decide ((P : Int) < (LN : Int)) = false := decide_eq_false (by omega)
            have HF := Lib.hid hf
            clear hf
            go_wp2_with fail
            go_meet
            case rel => exact ⟨by rw [HF.out], rfl⟩
          case pos =>
            have hc := HH13.out.standAt HNL.out h1
            obtain ⟨ss, hss⟩ : ∃ ss, ss = (nthF ndl (P : Int)).stand := ⟨_, rfl⟩
            have hq : ((ss.toNat : Int) == 4) = b4 := by
              rw [HB4.out, ← hss]; unfold placeF
              rw [← HNL.out, decide_eq_true (show (0 : Int) ≤ (P : Int) by omega), decide_eq_true (show (P : Int) < (LN : Int) by omega)]
              exact u8_one 4
            rw [← hss] at hc
            have hd : decide ((P : Int) < (LN : Int)) = true := decide_eq_true (by omega)
            have hd2 : (P : Int) < (LN : Int) := by omega
            clear hss
            go_wp2_with fail
            go_meet
            case rel => exact ⟨rfl, rfl⟩
      case rest =>
      obtain ⟨rfl, hwc⟩ := hcut
      obtain rfl : w13 = _ := hwc
      have HAW := Lib.hid (awake18_any w13 (HKW.out.ext HE13.out))
      go_wp2_with fail
      refine HAW.out.mono ?_
      rintro e w14 ⟨rfl, hE14⟩
      have HE14 := Lib.hid (HE13.out.trans hE14)
      clear hE14
      go_wp2
      go_ret
      exact ⟨rfl, HE14.out⟩
end Go.Proofs.YtpcgpcjleedilaaDoor

namespace Fm
open Go Go.RowKit Go.ChangeShapes Go.WideShapes Go.ChangeAt

/-- What the reading of a slice of integers says: as the guide's skeleton has it. -/
def IsRow (k : IntKind) (w : World) (a : Option Addr) (len cap : Nat) (zs : List Int) : Prop :=
  (a = none ∧ len = 0 ∧ cap = 0 ∧ zs = []) ∨
  ∃ x, a = some x ∧ len ≤ cap ∧ cap ≤ maxLen ∧ zs.length = cap ∧ (∀ i, i < zs.length → w.cell? (x.add i) = some (.int k (zs.getD i 0))) ∧ ∀ n ∈ zs, (Lit.int k n).wf = true

theorem u8_of_wf {n : Int} (h : (Lit.int .u8 n).wf = true) : ((UInt8.ofNat n.toNat).toNat : Int) = n := by
  have : 0 ≤ n ∧ n ≤ 255 := by
    simp [Lit.wf, IntKind.min, IntKind.max, IntKind.signed, IntKind.bits] at h
    omega
  rw [toNat_ofNat_lt (by omega)]; omega

theorem i64_of_wf {n : Int} (h : (Lit.int .i64 n).wf = true) : isI64 n := by
  simp [Lit.wf, IntKind.min, IntKind.max, IntKind.signed, IntKind.bits] at h
  unfold isI64; omega

theorem IsRow.bytes {w : World} {a : Option Addr} {len cap : Nat} {zs : List Int} (h : IsRow .u8 w a len cap zs) :
    ∃ xs : List UInt8, xs.length = len ∧ Bytes w (.slice a len cap) xs := by
  rcases h with ⟨rfl, rfl, rfl, rfl⟩ | ⟨x, rfl, hl, hm, hz, hc, hw⟩
  · exact ⟨[], rfl, Bytes.nil w⟩
  · refine ⟨(zs.take len).map fun n => UInt8.ofNat n.toNat, by simp; omega, ?_⟩
    have hlen : ((zs.take len).map fun n => UInt8.ofNat n.toNat).length = len := by simp; omega
    refine ⟨some x, cap, by rw [hlen], by omega, hm, (fun h => by cases h), fun ad had h0 => ?_⟩
    cases had
    have h00 := hc 0 (by omega)
    have e0 : x.add 0 = x := by unfold Addr.add; rw [if_pos rfl]
    rw [e0] at h00
    have hs : x.spot = none := by
      cases hsp : x.spot with
      | none => rfl
      | some s =>
        unfold World.cell? at h00
        cases hb : w.heap[x.block]? with
        | none => rw [hb] at h00; cases h00
        | some o => rw [hb] at h00; cases o <;> simp [hsp] at h00
    refine ⟨hs, World.block_lt_of_cell? w x h00, fun j hj => ?_⟩
    have hj' : j < zs.length := by omega
    have hjl : j < len := by omega
    have hcj := hc j hj'
    have ea : x.add j = ⟨x.block, x.off + j, none⟩ := by
      unfold Addr.add; split
      · obtain ⟨b, o, s⟩ := x; simp at hs ⊢; exact ⟨by omega, hs⟩
      · rw [← hs]
    rw [ea] at hcj
    rw [hcj]
    have hg : zs.getD j 0 = zs[j] := by simp [List.getD, hj']
    have hwf := hw zs[j] (List.getElem_mem hj')
    rw [hg]
    simp [bv, hjl, hj']
    have := u8_of_wf hwf
    simp at this
    exact this.symm
end Fm

open Go.RowKit Go.Shelf
namespace Go.Proofs.YtpcgpcjleedilaaDoor
open Go Go.Proofs Fm

theorem errAt_of {W : World} {n : String} {g g' : Nat} {t : TypeId} {cs : Array Value} {f : Nat} {nm : String} {d : DataW Unit} {p : List MemPlace} (hn : Tryd.prog.globalNamed n = some g') (hty : (Tryd.prog.globals[g']?).map (·.type) = some 70)
    (hg : Tryd.prog.globalNamed n = some g) (ht : (Tryd.prog.globals[g]?).map (·.type) = some t) (hv : W.var? Tryd.prog n = some cs) (hd : DataW.trod (fun _ => ()) Tryd.prog W 0 (fun _ => true) false f t cs.toList = some (.iface nm d, p)) : ErrAt W g' := by
  obtain rfl := Option.some.inj (hn.symm.trans hg)
  obtain rfl := Option.some.inj (hty.symm.trans ht)
  obtain ⟨l⟩ := cs
  obtain ⟨f1, u, v, e, _, _⟩ := iface_of_trod Tryd.underlying70 hd
  subst e
  exact ⟨_, by simpa using World.var?_cell hg hv 0, .inr ⟨u, v, rfl⟩⟩
theorem kw_of {W : World} {g1 g2 g3 : Nat} {t1 t2 t3 : TypeId} {c1 c2 c3 : Array Value} {f1 f2 f3 : Nat} {nm2 nm3 : String} {d2 d3 : DataW Unit} {p1 p2 p3 : List MemPlace}
    (hg1 : Tryd.prog.globalNamed "internal/strconv.uint64pow10" = some g1) (ht1 : (Tryd.prog.globals[g1]?).map (·.type) = some t1) (hv1 : W.var? Tryd.prog "internal/strconv.uint64pow10" = some c1) (hd1 : DataW.trod (fun _ => ()) Tryd.prog W 0 (fun _ => true) false f1 t1 c1.toList = some (Lib.tabData .u64 Lib.pow10Tab, p1))
    (hg2 : Tryd.prog.globalNamed "strconv.ErrSyntax" = some g2) (ht2 : (Tryd.prog.globals[g2]?).map (·.type) = some t2) (hv2 : W.var? Tryd.prog "strconv.ErrSyntax" = some c2) (hd2 : DataW.trod (fun _ => ()) Tryd.prog W 0 (fun _ => true) false f2 t2 c2.toList = some (.iface nm2 d2, p2))
    (hg3 : Tryd.prog.globalNamed "strconv.ErrRange" = some g3) (ht3 : (Tryd.prog.globals[g3]?).map (·.type) = some t3) (hv3 : W.var? Tryd.prog "strconv.ErrRange" = some c3) (hd3 : DataW.trod (fun _ => ()) Tryd.prog W 0 (fun _ => true) false f3 t3 c3.toList = some (.iface nm3 d3, p3)) : KW W := by
  refine ⟨?_, errAt_of (by kernel_rfl) (by kernel_rfl) hg2 ht2 hv2 hd2, errAt_of (by kernel_rfl) (by kernel_rfl) hg3 ht3 hv3 hd3⟩
  have hg : Tryd.prog.globalNamed "internal/strconv.uint64pow10" = some 5 := by kernel_rfl
  have hty : (Tryd.prog.globals[5]?).map (·.type) = some 155 := by kernel_rfl
  obtain rfl := Option.some.inj (hg.symm.trans hg1)
  obtain rfl := Option.some.inj (hty.symm.trans ht1)
  unfold Tab Lib.TabIs
  rw [hv1]
  congr 1
  have h := Lib.cells_of_tab Tryd.underlying155 Tryd.underlying134 (by kernel_rfl) (by kernel_rfl) hd1
  rw [← h]
end Go.Proofs.YtpcgpcjleedilaaDoor
