/- What the reference of paths reads: plain facts. No program is imported. -/
import Derived.Test.YtpcgpcjleedilaaGreatDoorTake
import Derived.Test.YtpcgpcjleedilaaGreatDoorPlFj
import Derived.Test.YtpcgpcjleedilaaGreatDoorPlFh
import Derived.Deep.RegionLaw
import Derived.Test.YtpcgpcjleedilaaGreatDoorFaA
import Derived.LoopTactic
import Derived.Test.YtpcgpcjleedilaaGreatDoorPlI
import Derived.WalkLawsBesides
import Derived.Deep.RegionHeld3
import Derived.Deep.CutRange
import Derived.Deep.LoopGhost
import Derived.Deep.AppendLies
import Derived.BigQuiet
import Derived.Deep.QuietTactic
open Go.RowKit Go.Shelf
namespace Fm
open Go Go.RowKit
/-- Two numbers in a block. -/
theorem liesS_two {w : World} {b : Nat} {x y : Int} {e : TypeId} {fr : Nat × Nat} (hx : isI64 x) (hy : isI64 y) (hb : w.heap[b]? = some (.cells #[.int .u8 0, .int .i64 x, .string { data := #[] }, .slice none 0 0, .int .u8 0, .int .i64 y, .string { data := #[] }, .slice none 0 0] e fr)) :
    LiesS w [numT x, numT y] (.slice (some ⟨b, 0, none⟩) 2 2) := by
  have hl : b < w.heap.size := (Array.getElem?_eq_some_iff.1 hb).1
  refine ⟨_, 2, rfl, by simp, by unfold maxLen; omega, (fun h => by cases h), (fun i j => (#[.int .u8 0, .int .i64 x, .string { data := #[] }, .slice none 0 0, .int .u8 0, .int .i64 y, .string { data := #[] }, .slice none 0 0] : Array Value).getD (i * 4 + j) .nilFunc), fun _ => ⟨b, 0, rfl, hl, fun i j hi hj => ?_⟩, fun i hi => ?_⟩
  · have hi : i < 2 := hi
    unfold World.cell?
    rw [hb]
    rcases (by omega : i = 0 ∨ i = 1) with rfl | rfl <;> rcases (by omega : j = 0 ∨ j = 1 ∨ j = 2 ∨ j = 3) with rfl | rfl | rfl | rfl <;> rfl
  · have hi : i < 2 := hi
    rcases (by omega : i = 0 ∨ i = 1) with rfl | rfl
    · exact (OwnT.mk (e := 0) (base := 0) (k := 0) (s := []) hx (by simp) (OwnL.nil _ _ _)).lies
    · exact (OwnT.mk (e := 0) (base := 0) (k := 0) (s := []) hy (by simp) (OwnL.nil _ _ _)).lies
theorem liesS_one {w : World} {b : Nat} {x : Int} {e : TypeId} {fr : Nat × Nat} (hx : isI64 x) (hb : w.heap[b]? = some (.cells #[.int .u8 0, .int .i64 x, .string { data := #[] }, .slice none 0 0] e fr)) :
    LiesS w [numT x] (.slice (some ⟨b, 0, none⟩) 1 1) := by
  have hl : b < w.heap.size := (Array.getElem?_eq_some_iff.1 hb).1
  refine ⟨_, 1, rfl, by simp, by unfold maxLen; omega, (fun h => by cases h), (fun i j => (#[.int .u8 0, .int .i64 x, .string { data := #[] }, .slice none 0 0] : Array Value).getD (i * 4 + j) .nilFunc), fun _ => ⟨b, 0, rfl, hl, fun i j hi hj => ?_⟩, fun i hi => ?_⟩
  · have hi : i < 1 := hi
    unfold World.cell?
    rw [hb]
    rcases (by omega : i = 0) with rfl
    rcases (by omega : j = 0 ∨ j = 1 ∨ j = 2 ∨ j = 3) with rfl | rfl | rfl | rfl <;> rfl
  · have hi : i < 1 := hi
    rcases (by omega : i = 0) with rfl
    exact (OwnT.mk (e := 0) (base := 0) (k := 0) (s := []) hx (by simp) (OwnL.nil _ _ _)).lies
/-- A copy's nodes, and a block behind it. -/
theorem CopyN.farN {eN eI eV : TypeId} {base : Nat} {w w' : World} {v : Value} {l : List Nd} (h : CopyN eN eI eV base w v l) (hE : Ext w w') {b : Nat} (hb : w.heap.size ≤ b) :
    ∃ ds : List (List Value), ds.length = l.length ∧ w'.ownsRow base eN 16 v l.length ds.flatten ∧ ∀ (i : Nat) (hi : i < l.length) (hc : i < ds.length), FarNd w' (some b) l[i] ds[i] := by
  obtain ⟨cs, lo, h1, h2, h3, h4, h5, h6, h7⟩ := h
  have hmon := lo_mono h5
  refine ⟨cs, h1, hE.own h2, fun i hi hc => farNd_of (fun w'' hw' => ((h7 i hi hc).far (fun c hb1 hb2 => ?_)).v)⟩
  have := hmon l.length (Nat.le_refl _) (i + 1) (by omega)
  rw [hw'.block c (by have := hE.size; omega) (fun e => by injection e with e; omega)]
  exact hE.grownBy.block c (by omega) (by simp)
end Fm
namespace Go.Proofs.YtpcgpcjleedilaaGreatDoor
open Go Go.Proofs Fm

theorem awA_v {w0 : World} {a : Option Addr} {n c : Nat} (h : LiesS w0 [numT 5, numT 7] (.slice a n c)) : ∀ W, Ext w0 W → NdV W awA (.agg #[.string { data := #[48, 47, 97] }, .string { data := #[] }, .int .u8 0, .int .i64 0, .int .i64 (-1), .int .i64 0, .slice none 0 0, .int .i64 0, .int .i64 0, .int .u8 4, .int .i64 0, .int .i64 0, .int .u8 2, .int .i64 0, .string { data := #[] }, .slice a n c]) := fun W hW => by
  have z : isI64 0 := by unfold isI64; omega
  exact ⟨none, 0, 0, .int .u8 2, .int .i64 0, .string { data := #[] }, .slice a n c, rfl, Elem.Row.void _ _ _, list18_lies (h.ext hW), by simp [awA], by simp [awA], z, by show isI64 (-1); unfold isI64; omega, z, z, z, z, z⟩
theorem awM_v {W : World} {wd : Int} (hwd : isI64 wd) {a : Option Addr} {n c : Nat} (h : intE.Row W [0] (.slice a n c)) : NdV W (awM wd) (.agg #[.string { data := #[48, 47, 109] }, .string { data := #[] }, .int .u8 1, .int .i64 0, .int .i64 (-1), .int .i64 0, .slice a n c, .int .i64 wd, .int .i64 0, .int .u8 0, .int .i64 0, .int .i64 0, .int .u8 0, .int .i64 0, .string { data := #[] }, .slice none 0 0]) := by
  have z : isI64 0 := by unfold isI64; omega
  exact ⟨a, n, c, .int .u8 0, .int .i64 0, .string { data := #[] }, .slice none 0 0, rfl, h, (num18_own z W 0).lies, by simp [awM], by simp [awM], z, by show isI64 (-1); unfold isI64; omega, z, hwd, z, z, z⟩
set_option maxRecDepth 100000 in
set_option maxHeartbeats 8000000 in
theorem awake18_any (w : World) (hw : KW w) :
    Calls Tryz.prog 29 #[] w fun e w' => e = .returned (.bool true) ∧ Ext w w' := by
  have HKW := Lib.hid hw
  clear hw
  go_enter Tryz.func29, Tryz.ntmps29
  go_wp2_with fail
  refine (num18_any 5 w).mono ?_
  rintro e w1 ⟨rfl, hE1⟩
  go_wp2_with fail
  refine (num18_any 7 w1).mono ?_
  rintro e w2 ⟨rfl, hE2⟩
  have hb3 := heap_alloc_new w2 (.cells #[.int .u8 0, .int .i64 5, .string { data := #[] }, .slice none 0 0, .int .u8 0, .int .i64 7, .string { data := #[] }, .slice none 0 0] 44)
  have hE3 := (Ext.refl w2).alloc (.cells #[.int .u8 0, .int .i64 5, .string { data := #[] }, .slice none 0 0, .int .u8 0, .int .i64 7, .string { data := #[] }, .slice none 0 0] 44)
  have hz3 : w2.heap.size < (w2.alloc (.cells #[.int .u8 0, .int .i64 5, .string { data := #[] }, .slice none 0 0, .int .u8 0, .int .i64 7, .string { data := #[] }, .slice none 0 0] 44)).heap.size := by simp
  go_wp2_with fail
  generalize w2.alloc (.cells #[.int .u8 0, .int .i64 5, .string { data := #[] }, .slice none 0 0, .int .u8 0, .int .i64 7, .string { data := #[] }, .slice none 0 0] 44) = W3 at *
  have HL := Lib.hid (liesS_two (by unfold isI64; omega) (by unfold isI64; omega) hb3)
  have HE3 := Lib.hid ((hE1.trans hE2).trans hE3)
  refine (list18_any _ 2 2 W3).mono ?_
  rintro e w4 ⟨rfl, hE4⟩
  generalize w2.heap.size = VB at *
  obtain ⟨Ca, hCa⟩ : ∃ Ca, Ca = ([.string { data := #[48, 47, 97] }, .string { data := #[] }, .int .u8 0, .int .i64 0, .int .i64 (-1), .int .i64 0, .slice none 0 0, .int .i64 0, .int .i64 0, .int .u8 4, .int .i64 0, .int .i64 0, .int .u8 2, .int .i64 0, .string { data := #[] }, .slice (some ⟨VB, 0, none⟩) 2 2] : List Value) := ⟨_, rfl⟩
  have HAG : Hid ((Value.agg #[.string { data := #[48, 47, 97] }, .string { data := #[] }, .int .u8 0, .int .i64 0, .int .i64 (-1), .int .i64 0, .slice none 0 0, .int .i64 0, .int .i64 0, .int .u8 4, .int .i64 0, .int .i64 0, .int .u8 2, .int .i64 0, .string { data := #[] }, .slice (some ⟨VB, 0, none⟩) 2 2]) = .agg Ca.toArray) := Lib.hid (by rw [hCa])
  have HLa : Hid (Ca.length = 16) := Lib.hid (by rw [hCa]; rfl)
  have HLna : Hid ((Tryz.prog.info? 46).map (·.size) = some Ca.length) := Lib.hid (by rw [hCa]; exact sizenode_F)
  have HVa : Hid (∀ W, Ext w4 W → NdV W awA (.agg Ca.toArray)) := Lib.hid (by rw [hCa]; exact fun W hW => awA_v HL.out W (hE4.trans hW))
  have HN1 := Lib.hid (ndV_one (HVa.out w4 (Ext.refl _))).2
  have HE4 := Lib.hid (HE3.out.trans hE4)
  clear hCa hE1 hE2 hE3 hE4 hb3 hz3 HL HE3
  go_upto_region 2 with (refine wpList_storeBox rfl _ _ _ rfl _ _ _ _ rfl rfl rfl (by exact HAG.out) sizenode_F rfl HLa.out HN1.out ?_)
  have hE5 := (Ext.refl w4).alloc (.cells Ca.toArray 46)
  have hR5 := rangeAt_new w4 Ca 46
  have hz5 : w4.heap.size < (w4.alloc (.cells Ca.toArray 46)).heap.size := by simp
  generalize w4.alloc (.cells Ca.toArray 46) = W5 at *
  generalize hB1 : w4.heap.size = B1 at *
  have hb6 := heap_alloc_new W5 (.cells #[.int .i64 0] 3)
  have hE6 := (Ext.refl W5).alloc (.cells #[.int .i64 0] 3)
  have ho6 := World.ownsRow_lit W5 #[.int .i64 0] 1 (base := 0) (e := 3) (size := 1) (Nat.zero_le _) (by unfold maxLen; omega) rfl
  have hz6 : (W5.alloc (.cells #[.int .i64 0] 3)).heap.size = W5.heap.size + 1 := by simp
  obtain ⟨AB, hAB⟩ : ∃ AB, AB = W5.heap.size := ⟨_, rfl⟩
  rw [← hAB] at ho6 hb6 hz6
  obtain ⟨Cm, hCm⟩ : ∃ Cm, Cm = ([.string { data := #[48, 47, 109] }, .string { data := #[] }, .int .u8 1, .int .i64 0, .int .i64 (-1), .int .i64 0, .slice (some ⟨AB, 0, none⟩) 1 1, .int .i64 2, .int .i64 0, .int .u8 0, .int .i64 0, .int .i64 0, .int .u8 0, .int .i64 0, .string { data := #[] }, .slice none 0 0] : List Value) := ⟨_, rfl⟩
  have HMG : Hid ((Value.agg #[.string { data := #[48, 47, 109] }, .string { data := #[] }, .int .u8 1, .int .i64 0, .int .i64 (-1), .int .i64 0, .slice (some ⟨AB, 0, none⟩) 1 1, .int .i64 2, .int .i64 0, .int .u8 0, .int .i64 0, .int .i64 0, .int .u8 0, .int .i64 0, .string { data := #[] }, .slice none 0 0]) = .agg Cm.toArray) := Lib.hid (by rw [hCm])
  have HLm : Hid (Cm.length = 16) := Lib.hid (by rw [hCm]; rfl)
  have HLnm : Hid ((Tryz.prog.info? 46).map (·.size) = some Cm.length) := Lib.hid (by rw [hCm]; exact sizenode_F)
  have HVm : Hid (∀ W, Ext (W5.alloc (.cells #[.int .i64 0] 3)) W → NdV W (awM 2) (.agg Cm.toArray)) := Lib.hid (by
    rw [hCm]
    exact fun W hW => awM_v (by unfold isI64; omega) (OwnN.row (e := 3) (base := 0) (hW.own ho6) (fun i hi => by rw [List.mem_singleton] at hi; subst hi; unfold isI64; omega)))
  have HM1 := Lib.hid (ndV_one (HVm.out _ (Ext.refl _))).2
  have HE6 := Lib.hid (HE4.out.trans (hE5.trans hE6))
  have HE46 := Lib.hid (hE5.trans hE6)
  have HR6 := Lib.hid (rangeAt_ext hR5 hE6 hz5)
  subst hAB
  have HZ6 := Lib.hid hz6
  clear hCm ho6 hb6 hE5 hE6 hR5 HAG
  go_upto_region 3 with (refine wpList_storeBox rfl _ _ _ rfl _ _ _ _ rfl (by exact HZ6.out.symm) rfl (by exact HMG.out) sizenode_F rfl HLm.out HM1.out ?_)
  have HZ1 := Lib.hid (show B1 < (W5.alloc (.cells #[.int .i64 0] 3)).heap.size by omega)
  generalize W5.alloc (.cells #[.int .i64 0] 3) = W6 at *
  have hE7 := (Ext.refl W6).alloc (.cells Cm.toArray 46)
  have hR7 := rangeAt_new W6 Cm 46
  have HZ2 := Lib.hid (show W6.heap.size < (W6.alloc (.cells Cm.toArray 46)).heap.size by simp)
  rw [← hz6]
  generalize W6.alloc (.cells Cm.toArray 46) = W at *
  generalize hB2 : W6.heap.size = B2 at *
  have HSZ := Lib.hid (Nat.le_refl W.heap.size)
  have HSS : Hid (∀ wx, Ext W wx → wx.rangeAt B1 0 Ca ∧ wx.rangeAt B2 0 Cm) := Lib.hid (fun wx hx => ⟨rangeAt_ext HR6.out (hE7.trans hx) (by rw [hB2]; exact HZ1.out), rangeAt_ext hR7 hx HZ2.out⟩)
  have HE7 := Lib.hid (HE6.out.trans hE7)
  have ED := Lib.hid (Ext.refl W).drew
  have HEC : Hid (∀ wx, Ext W wx → Calls Tryz.prog 30 #[.agg Cm.toArray, .int .i64 1, .int .i64 2] wx (EachPost wx (awM 2) 1 2)) := Lib.hid (fun wx hx => feach_any (awM 2) 1 2 (by unfold isI64; omega) (by simp [awM]) (by simp [awM]) wx (HKW.out.ext (HE7.out.trans hx)) _ (HVm.out wx (hE7.trans hx)))
  have HLam : Hid ((Ca ++ Cm).toArray.size = 2 * 16) := Lib.hid (by rw [List.size_toArray, List.length_append, HLa.out, HLm.out])
  have HFam : Hid (∀ wx, Ext W wx → ∀ row : Option Nat, (∀ b, row = some b → W.heap.size ≤ b) → ∀ (i : Nat) (hi : i < [awA, awM 2].length) (hc : i < [Ca, Cm].length), FarNd wx row [awA, awM 2][i] [Ca, Cm][i]) := Lib.hid (fun wx hx row hrow i hi hc => by
    refine farNd_of (fun w' hw' => ?_)
    have hX : Ext W w' := hx.grown hw' hrow
    have hi : i < 2 := hi
    rcases (by omega : i = 0 ∨ i = 1) with rfl | rfl
    · exact HVa.out w' (HE46.out.trans (hE7.trans hX))
    · exact HVm.out w' (hE7.trans hX))
  have HEF := Lib.hid aw_eachF
  clear hE7 hR7 hz6 HR6 HM1 HN1 HMG
  simp only [Act.put]
  go_cut [3] from 23 to 28 (fun l w' => ∃ A C, l = .slice A 4 C ∧ Hid (HeldN 46 w.heap.size w' (.slice A 4 C) aw0) ∧ Hid (Ext w w'))
  case first =>
   refine wp_region_held_drew (S := (fun w' => w'.rangeAt B1 0 Ca ∧ w'.rangeAt B2 0 Cm)) (by kernel_rfl) ?_ (fun hHeld => ?_)
   · (try dsimp only)
     (first | exact HSS.out _ ED.out | exact HSS.out _ E1.out | exact HSS.out _ E2.out | exact HSS.out _ E3.out)
   refine take_mid 0 (some 23) (cs := Ca) (by kernel_rfl) (by kernel_rfl) (by kernel_rfl) (by kernel_rfl) (by kernel_rfl) (fun _ _ _ h => h) (by rfl) 46 (.tmp 1) (by kernel_rfl) B1 0 (by rfl) _ (fun _ h => h.1) Tryz.underlying46 rfl HLna.out (by assumption) ?_
   try simp only [Act.put, List.setIfInBounds_toArray, List.set_cons_zero, List.set_cons_succ]
   refine take_mid 1 (some 24) (cs := Cm) (by kernel_rfl) (by kernel_rfl) (by kernel_rfl) (by kernel_rfl) (by kernel_rfl) (fun _ _ _ h => h) (by rfl) 46 (.tmp 2) (by kernel_rfl) B2 0 (by rfl) _ (fun _ h => h.2) Tryz.underlying46 rfl HLnm.out (by assumption) ?_
   try simp only [Act.put, List.setIfInBounds_toArray, List.set_cons_zero, List.set_cons_succ]
   refine take_mid 3 (some 26) (cs := Cm) (by kernel_rfl) (by kernel_rfl) (by kernel_rfl) (by kernel_rfl) (by kernel_rfl) (fun _ _ _ h => h) (by rfl) 46 (.tmp 2) (by kernel_rfl) B2 0 (by rfl) _ (fun _ h => h.2) Tryz.underlying46 rfl HLnm.out (by assumption) ?_
   try simp only [Act.put, List.setIfInBounds_toArray, List.set_cons_zero, List.set_cons_succ]
   refine ready_two 2 4 (by kernel_rfl) (by kernel_rfl) (by kernel_rfl) (by rfl) (by rfl) (fun Kc hKc => ?_) (fun Kc hKc => ?_)
   · refine wp_nodes2 (.tmp 23) (.tmp 24) (by rfl) (by kernel_rfl) (by kernel_rfl) HLa.out HLm.out ?_
     change Kc (Act.put _ (some 25) _) _
     have E1 := Lib.hid (ED.out.alloc (.cells (Ca ++ Cm).toArray 46))
     have HO1 : Hid ((W.drew.alloc (.cells (Ca ++ Cm).toArray 46)).ownsRow W.heap.size 46 16 (.slice (some ⟨W.heap.size, 0, none⟩) 2 2) 2 (Ca ++ Cm)) := Lib.hid (World.ownsRow_lit W.drew (Ca ++ Cm).toArray 2 (Nat.le_refl _) (by unfold maxLen; omega) HLam.out)
     refine hKc.out _ _ ?_ (fun hHeld => ?_)
     · (try dsimp only)
       (first | exact HSS.out _ ED.out | exact HSS.out _ E1.out | exact HSS.out _ E2.out | exact HSS.out _ E3.out)
     clear hKc Kc
     try simp only [Act.put, List.setIfInBounds_toArray, List.set_cons_zero, List.set_cons_succ]
     refine ready_one 4 (by kernel_rfl) (by kernel_rfl) (by rfl) (fun Kc hKc => ?_)
     go_simp
     refine (HEC.out _ E1.out).mono ?_
     rintro e w4 ⟨d, rfl, hE4, hC4⟩
     obtain ⟨a4, c4, rfl⟩ := hC4.slice
     have E2 := Lib.hid (E1.out.trans hE4)
     have HC4 := Lib.hid hC4
     have HO2 := Lib.hid (hE4.own HO1.out)
     clear hE4 hC4
     try go_wp2_with fail
     refine hKc.out _ _ ?_ (fun hHeld => ?_)
     · (try dsimp only)
       (first | exact HSS.out _ ED.out | exact HSS.out _ E1.out | exact HSS.out _ E2.out | exact HSS.out _ E3.out)
     clear hKc Kc
     try simp only [Act.put, List.setIfInBounds_toArray, List.set_cons_zero, List.set_cons_succ]
     refine ready_one 5 (by kernel_rfl) (by kernel_rfl) (by rfl) (fun Kc hKc => ?_)
     have hc4 := HC4.out
     have hz4 : W.heap.size ≤ (W.drew.alloc (.cells (Ca ++ Cm).toArray 46)).heap.size := by simp
     obtain ⟨ds, hds, hdrow, hdf⟩ := hc4.far (row := (Value.slice (some ⟨W.heap.size, 0, none⟩) 2 2).ownBlock) (fun b hb => by simp [Value.ownBlock] at hb; rw [← hb]; simp)
     have HSrc := Lib.hid (Src.nodes Tryz.underlying40 hdrow (fun D hD u hu => by
       obtain ⟨k, hk, rfl⟩ := List.getElem_of_mem hD
       exact (hdf k (by rw [← hds]; exact hk) hk).2.1 u hu))
     rw [HEF.out] at HSrc hdf hds
     refine wp_appendS (.tmp 25) (.tmp 27) 40 (by rfl) elemnode_F W.heap.size (.slice (some ⟨W.heap.size, 0, none⟩) 2 2) 2 (Ca ++ Cm) (by rfl) HO2.out _ 2 ds.flatten (by rw [HEF.out]; rfl) HSrc.out (by unfold maxLen; omega) (by omega) E2.out.size ?_
     intro A C w6 hown6 hgr6 hat6
     change Kc (Act.put _ (some 28) _) _
     have E3 := Lib.hid (E2.out.grown hgr6 (fun k hk => (World.ownsRow.lt HO2.out k hk).1))
     have hH6 : HeldN 46 W.heap.size w6 (.slice A (2 + 2) C) aw0 := HeldN.app (v := .slice (some ⟨W.heap.size, 0, none⟩) 2 2) (l := [awA, awM 2]) (m := [awE 0, awE 1]) (cs := [Ca, Cm]) rfl (HFam.out _ E2.out _ (fun b hb => by simp [Value.ownBlock] at hb; have := HSZ.out; omega)) hds hdf (by simpa using hown6) hgr6 hat6
     have HH6 := Lib.hid hH6
     clear hH6 hown6 hgr6 hat6 hds hdrow hdf
     refine hKc.out _ _ ?_ (fun hHeld => ?_)
     · (try dsimp only)
       (first | exact HSS.out _ ED.out | exact HSS.out _ E1.out | exact HSS.out _ E2.out | exact HSS.out _ E3.out)
     clear hKc Kc
     try simp only [Act.put, List.setIfInBounds_toArray, List.set_cons_zero, List.set_cons_succ]
     refine take_w 6 (some 3) (v := ?_) (by kernel_rfl) (by kernel_rfl) (by kernel_rfl) (by kernel_rfl) (by kernel_rfl) (fun _ _ _ h => h) (by rfl) ?_ (by assumption) ?_
     rotate_left
     · (intro w hSw; (try dsimp only at hSw); go_simp; try with_reducible rfl)
     try simp only [Act.put, List.setIfInBounds_toArray, List.set_cons_zero, List.set_cons_succ]
     refine wpAnyH_done (by kernel_rfl) ?_ _
     have HE6 := Lib.hid (HE7.out.trans E3.out)
     go_wp2_with fail
     go_meet
     case rel => exact ⟨_, _, rfl, Lib.hid (HH6.out.mono HE7.out.size), HE6⟩
   · go_simp
     refine (HEC.out _ ED.out).mono ?_
     rintro e w4 ⟨d, rfl, hE4, hC4⟩
     obtain ⟨a4, c4, rfl⟩ := hC4.slice
     have E1 := Lib.hid (ED.out.trans hE4)
     have HC4 := Lib.hid hC4
     have HZ4 := Lib.hid (Nat.le_refl w4.heap.size)
     clear hE4 hC4
     try go_wp2_with fail
     refine hKc.out _ _ ?_ (fun hHeld => ?_)
     · (try dsimp only)
       (first | exact HSS.out _ ED.out | exact HSS.out _ E1.out | exact HSS.out _ E2.out | exact HSS.out _ E3.out)
     clear hKc Kc
     try simp only [Act.put, List.setIfInBounds_toArray, List.set_cons_zero, List.set_cons_succ]
     refine ready_one 2 (by kernel_rfl) (by kernel_rfl) (by rfl) (fun Kc hKc => ?_)
     refine wp_nodes2 (.tmp 23) (.tmp 24) (by rfl) (by kernel_rfl) (by kernel_rfl) HLa.out HLm.out ?_
     change Kc (Act.put _ (some 25) _) _
     have E2 := Lib.hid (E1.out.alloc (.cells (Ca ++ Cm).toArray 46))
     have HO2 : Hid ((w4.alloc (.cells (Ca ++ Cm).toArray 46)).ownsRow W.heap.size 46 16 (.slice (some ⟨w4.heap.size, 0, none⟩) 2 2) 2 (Ca ++ Cm)) := Lib.hid (World.ownsRow_lit w4 (Ca ++ Cm).toArray 2 E1.out.size (by unfold maxLen; omega) HLam.out)
     have HE0 := Lib.hid ((Ext.refl w4).alloc (.cells (Ca ++ Cm).toArray 46))
     refine hKc.out _ _ ?_ (fun hHeld => ?_)
     · (try dsimp only)
       (first | exact HSS.out _ ED.out | exact HSS.out _ E1.out | exact HSS.out _ E2.out | exact HSS.out _ E3.out)
     clear hKc Kc
     try simp only [Act.put, List.setIfInBounds_toArray, List.set_cons_zero, List.set_cons_succ]
     refine ready_one 5 (by kernel_rfl) (by kernel_rfl) (by rfl) (fun Kc hKc => ?_)
     have hc4 := (CopyN.kept (HC4.out) HE0.out.grownBy (fun b hb => by cases hb))
     obtain ⟨ds, hds, hdrow, hdf⟩ := HC4.out.farN HE0.out (b := w4.heap.size) (Nat.le_refl _)
     have HSrc := Lib.hid (Src.nodes Tryz.underlying40 hdrow (fun D hD u hu => by
       obtain ⟨k, hk, rfl⟩ := List.getElem_of_mem hD
       exact (hdf k (by rw [← hds]; exact hk) hk).2.1 u hu))
     rw [HEF.out] at HSrc hdf hds
     refine wp_appendS (.tmp 25) (.tmp 27) 40 (by rfl) elemnode_F W.heap.size (.slice (some ⟨w4.heap.size, 0, none⟩) 2 2) 2 (Ca ++ Cm) (by rfl) HO2.out _ 2 ds.flatten (by rw [HEF.out]; rfl) HSrc.out (by unfold maxLen; omega) (by omega) E2.out.size ?_
     intro A C w6 hown6 hgr6 hat6
     change Kc (Act.put _ (some 28) _) _
     have E3 := Lib.hid (E2.out.grown hgr6 (fun k hk => (World.ownsRow.lt HO2.out k hk).1))
     have hH6 : HeldN 46 W.heap.size w6 (.slice A (2 + 2) C) aw0 := HeldN.app (v := .slice (some ⟨w4.heap.size, 0, none⟩) 2 2) (l := [awA, awM 2]) (m := [awE 0, awE 1]) (cs := [Ca, Cm]) rfl (HFam.out _ E2.out _ (fun b hb => by simp [Value.ownBlock] at hb; have := E1.out.size; omega)) hds hdf (by simpa using hown6) hgr6 hat6
     have HH6 := Lib.hid hH6
     clear hH6 hown6 hgr6 hat6 hds hdrow hdf
     refine hKc.out _ _ ?_ (fun hHeld => ?_)
     · (try dsimp only)
       (first | exact HSS.out _ ED.out | exact HSS.out _ E1.out | exact HSS.out _ E2.out | exact HSS.out _ E3.out)
     clear hKc Kc
     try simp only [Act.put, List.setIfInBounds_toArray, List.set_cons_zero, List.set_cons_succ]
     refine take_w 6 (some 3) (v := ?_) (by kernel_rfl) (by kernel_rfl) (by kernel_rfl) (by kernel_rfl) (by kernel_rfl) (fun _ _ _ h => h) (by rfl) ?_ (by assumption) ?_
     rotate_left
     · (intro w hSw; (try dsimp only at hSw); go_simp; try with_reducible rfl)
     try simp only [Act.put, List.setIfInBounds_toArray, List.set_cons_zero, List.set_cons_succ]
     refine wpAnyH_done (by kernel_rfl) ?_ _
     have HE6 := Lib.hid (HE7.out.trans E3.out)
     go_wp2_with fail
     go_meet
     case rel => exact ⟨_, _, rfl, Lib.hid (HH6.out.mono HE7.out.size), HE6⟩
  case rest =>
  obtain ⟨A, C, rfl, HH, HE⟩ := hcut
  rename World => WA
  obtain ⟨g, c, hA, hg1, hg2⟩ := HH.out.form (by decide)
  injection hA with hA1 hA2 hA3
  subst hA1 hA3
  clear hA2 HSS ED HEC HLam HFam HEF HSZ HZ2 HZ1 hB2 HLa HLm HLna HLnm HVa HVm HE4 HE6 HE46 HE7 HZ6
  have e2 : WA.cell? ⟨g, 32, none⟩ = some (.string { data := #[48, 47, 109, 91, 48, 93] }) := by
    have h := HH.out.idAt (i := 2) (by decide)
    rw [show aw0[2].id = [48, 47, 109, 91, 48, 93] from awE0_id] at h
    exact h
  have e3 : WA.cell? ⟨g, 48, none⟩ = some (.string { data := #[48, 47, 109, 91, 49, 93] }) := by
    have h := HH.out.idAt (i := 3) (by decide)
    rw [show aw0[3].id = [48, 47, 109, 91, 49, 93] from awE1_id] at h
    exact h
  go_wp2_with fail
  clear e2 e3
  refine (finput_any aw0 2 (aw_light (.inl rfl)) WA _ HH.out.row).mono ?_
  rintro e w5 ⟨A1, m1, c1, b1, rfl, hE5, hyes, -⟩
  obtain ⟨rfl, ho1⟩ := hyes _ aw_in2
  have HH5 := Lib.hid (HH.out.ext hE5)
  have HE5 := Lib.hid (HE.out.trans hE5)
  have HO1 := Lib.hid ho1.lies
  clear hyes ho1 hE5 HH HE
  go_wp2_with fail
  refine (finput_any aw0 3 (aw_light (.inl rfl)) w5 _ HH5.out.row).mono ?_
  rintro e w6 ⟨A2, m2, c2, b2, rfl, hE6, hyes, -⟩
  obtain ⟨rfl, ho2⟩ := hyes _ aw_in3
  have HH6 := Lib.hid (HH5.out.ext hE6)
  have HE6 := Lib.hid (HE5.out.trans hE6)
  have HO1 := Lib.hid (HO1.out.ext hE6)
  have HO2 := Lib.hid ho2.lies
  clear hyes ho2 hE6 HH5 HE5
  go_wp2_with fail
  refine (num18_any 5 w6).mono ?_
  rintro e w7 ⟨rfl, hE7⟩
  have hb8 := heap_alloc_new w7 (.cells #[.int .u8 0, .int .i64 5, .string { data := #[] }, .slice none 0 0] 44)
  have hE8 := (Ext.refl w7).alloc (.cells #[.int .u8 0, .int .i64 5, .string { data := #[] }, .slice none 0 0] 44)
  have HV8 := Lib.hid (values18_any [numT 5] [numT 5] _ _ _ _ _ _ _ (HO1.out.ext (hE7.trans hE8)) (liesS_one (by unfold isI64; omega) hb8))
  have HH8 := Lib.hid (HH6.out.ext (hE7.trans hE8))
  have HE8 := Lib.hid (HE6.out.trans (hE7.trans hE8))
  have HO2 := Lib.hid (HO2.out.ext (hE7.trans hE8))
  clear hb8 hE8 hE7 HH6 HE6 HO1
  go_wp2_with fail
  refine HV8.out.mono ?_
  rintro e w9 ⟨rfl, hE9⟩
  rw [eqT_self]
  have HH9 := Lib.hid (HH8.out.ext hE9)
  have HE9 := Lib.hid (HE8.out.trans hE9)
  have HO2 := Lib.hid (HO2.out.ext hE9)
  clear HV8 hE9 HH8 HE8
  go_wp2_with fail
  refine (num18_any 7 w9).mono ?_
  rintro e w10 ⟨rfl, hE7⟩
  have hb8 := heap_alloc_new w10 (.cells #[.int .u8 0, .int .i64 7, .string { data := #[] }, .slice none 0 0] 44)
  have hE8 := (Ext.refl w10).alloc (.cells #[.int .u8 0, .int .i64 7, .string { data := #[] }, .slice none 0 0] 44)
  have HV8 := Lib.hid (values18_any [numT 7] [numT 7] _ _ _ _ _ _ _ (HO2.out.ext (hE7.trans hE8)) (liesS_one (by unfold isI64; omega) hb8))
  have HH10 := Lib.hid (HH9.out.ext (hE7.trans hE8))
  have HE10 := Lib.hid (HE9.out.trans (hE7.trans hE8))
  clear hb8 hE8 hE7 HH9 HE9 HO2
  go_wp2_with fail
  refine HV8.out.mono ?_
  rintro e w11 ⟨rfl, hE9⟩
  rw [eqT_self]
  have HH11 := Lib.hid (HH10.out.ext hE9)
  have HE11 := Lib.hid (HE10.out.trans hE9)
  clear HV8 hE9 HH10 HE10
  go_wp2_with fail
  refine (num18_any 70 w11).mono ?_
  rintro e w12 ⟨rfl, hE7⟩
  have HE12 := Lib.hid (HE11.out.trans hE7)
  have hH := HH11.out.ext hE7
  have ⟨⟨u9, c9⟩, f9⟩ := hH.spot (i := 3) (by decide) 9 (by omega)
  have ⟨⟨u12, c12⟩, f12⟩ := hH.spot (i := 3) (by decide) 12 (by omega)
  have ⟨⟨u13, c13⟩, f13⟩ := hH.spot (i := 3) (by decide) 13 (by omega)
  have ⟨⟨u14, c14⟩, f14⟩ := hH.spot (i := 3) (by decide) 14 (by omega)
  have ⟨⟨u15, c15⟩, f15⟩ := hH.spot (i := 3) (by decide) 15 (by omega)
  simp only [Nat.reduceMul, Nat.reduceAdd] at c9 f9 c12 f12 c13 f13 c14 f14 c15 f15
  obtain ⟨HH13, hgr⟩ : Hid (HeldN 46 w.heap.size (((((w12.setCell ⟨g, 57, none⟩ (.int .u8 4)).setCell ⟨g, 60, none⟩ (.int .u8 0)).setCell ⟨g, 61, none⟩ (.int .i64 70)).setCell ⟨g, 62, none⟩ (.string { data := #[] })).setCell ⟨g, 63, none⟩ (.slice none 0 0)) (.slice (some ⟨g, 0, none⟩) aw0.length C) aw1) ∧ w12.grownBy (((((w12.setCell ⟨g, 57, none⟩ (.int .u8 4)).setCell ⟨g, 60, none⟩ (.int .u8 0)).setCell ⟨g, 61, none⟩ (.int .i64 70)).setCell ⟨g, 62, none⟩ (.string { data := #[] })).setCell ⟨g, 63, none⟩ (.slice none 0 0)) (some g) := by
    obtain ⟨q1, q2⟩ := hH.put (i := 3) (by decide) 9 (by omega) (.int .u8 4) { awE 1 with stand := 4 } (fun w' C h => ndV_stand h 4)
    obtain ⟨q3, q4⟩ := q1.putV (i := 3) (by decide) (numT 70) (.int .u8 0) (.int .i64 70) (.string { data := #[] }) (.slice none 0 0) (fun w' _ => (num18_own (by unfold isI64; omega) w' 0).lies)
    exact ⟨Lib.hid q3, grown_trans q2 q4⟩
  have HE13 := Lib.hid (HE12.out.grown hgr (fun k hk => by injection hk with hk; omega))
  clear hgr hH hE7 HH11 HE11 HE12
  go_upto_region 11 with (fail)
  generalize ((((w12.setCell ⟨g, 57, none⟩ (.int .u8 4)).setCell ⟨g, 60, none⟩ (.int .u8 0)).setCell ⟨g, 61, none⟩ (.int .i64 70)).setCell ⟨g, 62, none⟩ (.string { data := #[] })).setCell ⟨g, 63, none⟩ (.slice none 0 0) = w13 at *
  clear c9 f9 c12 f12 c13 f13 c14 f14 c15 f15
  go_wp2_with fail
  refine (fvalues_any aw1 1 (by decide) (fun x hx => (aw_light (.inr (.inl rfl)) x hx).1) w13 _ HH13.out.row).mono ?_
  rintro e w14 ⟨v14, b14, rfl, hE14, -, hno⟩
  obtain ⟨rfl, rfl⟩ := hno aw_v1
  have hEa := (Ext.refl w14).alloc (.cells #[.int .u8 0, .int .i64 0, .string { data := #[] }, .slice none 0 0] 44)
  have HH14 := Lib.hid (HH13.out.ext (hE14.trans hEa))
  have HE14 := Lib.hid (HE13.out.trans (hE14.trans hEa))
  clear hno hE14 hEa HH13 HE13
  go_upto_region 12 with (fail)
  generalize w14.alloc (.cells #[.int .u8 0, .int .i64 0, .string { data := #[] }, .slice none 0 0] 44) = w15 at *
  go_wp2_with fail
  refine (num18_any 50 w15).mono ?_
  rintro e w16 ⟨rfl, hE7⟩
  have HE16 := Lib.hid (HE14.out.trans hE7)
  have hH := HH14.out.ext hE7
  have ⟨⟨u9, c9⟩, f9⟩ := hH.spot (i := 2) (by decide) 9 (by omega)
  have ⟨⟨u12, c12⟩, f12⟩ := hH.spot (i := 2) (by decide) 12 (by omega)
  have ⟨⟨u13, c13⟩, f13⟩ := hH.spot (i := 2) (by decide) 13 (by omega)
  have ⟨⟨u14, c14⟩, f14⟩ := hH.spot (i := 2) (by decide) 14 (by omega)
  have ⟨⟨u15, c15⟩, f15⟩ := hH.spot (i := 2) (by decide) 15 (by omega)
  simp only [Nat.reduceMul, Nat.reduceAdd] at c9 f9 c12 f12 c13 f13 c14 f14 c15 f15
  obtain ⟨HH17, hgr⟩ : Hid (HeldN 46 w.heap.size (((((w16.setCell ⟨g, 41, none⟩ (.int .u8 4)).setCell ⟨g, 44, none⟩ (.int .u8 0)).setCell ⟨g, 45, none⟩ (.int .i64 50)).setCell ⟨g, 46, none⟩ (.string { data := #[] })).setCell ⟨g, 47, none⟩ (.slice none 0 0)) (.slice (some ⟨g, 0, none⟩) aw1.length C) aw2) ∧ w16.grownBy (((((w16.setCell ⟨g, 41, none⟩ (.int .u8 4)).setCell ⟨g, 44, none⟩ (.int .u8 0)).setCell ⟨g, 45, none⟩ (.int .i64 50)).setCell ⟨g, 46, none⟩ (.string { data := #[] })).setCell ⟨g, 47, none⟩ (.slice none 0 0)) (some g) := by
    obtain ⟨q1, q2⟩ := hH.put (i := 2) (by decide) 9 (by omega) (.int .u8 4) { awE 0 with stand := 4 } (fun w' C h => ndV_stand h 4)
    obtain ⟨q3, q4⟩ := q1.putV (i := 2) (by decide) (numT 50) (.int .u8 0) (.int .i64 50) (.string { data := #[] }) (.slice none 0 0) (fun w' _ => (num18_own (by unfold isI64; omega) w' 0).lies)
    exact ⟨Lib.hid q3, grown_trans q2 q4⟩
  have HE17 := Lib.hid (HE16.out.grown hgr (fun k hk => by injection hk with hk; omega))
  clear hgr hH hE7 HH14 HE14 HE16
  go_upto_region 13 with (fail)
  generalize ((((w16.setCell ⟨g, 41, none⟩ (.int .u8 4)).setCell ⟨g, 44, none⟩ (.int .u8 0)).setCell ⟨g, 45, none⟩ (.int .i64 50)).setCell ⟨g, 46, none⟩ (.string { data := #[] })).setCell ⟨g, 47, none⟩ (.slice none 0 0) = w17 at *
  clear c9 f9 c12 f12 c13 f13 c14 f14 c15 f15
  go_wp2_with fail
  refine (fvalues_any aw2 1 (by decide) (fun x hx => (aw_light (.inr (.inr (.inl rfl))) x hx).1) w17 _ HH17.out.row).mono ?_
  rintro e w18 ⟨v18, b18, rfl, hE18, hyes, -⟩
  obtain ⟨rfl, ho18⟩ := hyes _ aw_v2
  obtain ⟨d18, rfl, -, -, hl18⟩ := ho18.lies.parts
  obtain ⟨a18, cap18, rfl, -⟩ := id hl18
  have hEa := (Ext.refl w18).alloc (.cells #[.int .u8 ((2 : UInt8).toNat : Int), .int .i64 0, .string (str []), .slice a18 [numT 50, numT 70].length cap18] 44)
  have HB18 := Lib.hid (Box4.new w18 (.int .u8 ((2 : UInt8).toNat : Int)) (.int .i64 0) (.string (str [])) (.slice a18 [numT 50, numT 70].length cap18))
  have HV18 := Lib.hid (ho18.ext hEa)
  have hgB : g < w17.heap.size := (HH17.out.lt g rfl).2
  have hgB' : w17.heap.size ≤ w18.heap.size := hE18.size
  have HH18 := Lib.hid (HH17.out.ext (hE18.trans hEa))
  have HE18 := Lib.hid (HE17.out.trans (hE18.trans hEa))
  generalize hx18 : ((2 : UInt8).toNat : Int) = X18 at *
  generalize hy18 : str [] = Y18 at *
  generalize hz18 : [numT 50, numT 70].length = Z18 at *
  clear hE18 hEa HH17 HE17 hyes ho18 hl18
  go_upto_region 14 with (fail)
  generalize hBV : w18.heap.size = BV at *
  generalize w18.alloc (.cells #[.int .u8 X18, .int .i64 0, .string Y18, .slice a18 Z18 cap18] 44) = w19 at *
  have ⟨⟨u7, c7⟩, f7⟩ := HH18.out.spot (i := 1) (by decide) 7 (by omega)
  simp only [Nat.reduceMul, Nat.reduceAdd] at c7 f7
  obtain ⟨HH20, hgr⟩ : Hid (HeldN 46 w.heap.size (w19.setCell ⟨g, 23, none⟩ (.int .i64 1)) (.slice (some ⟨g, 0, none⟩) aw2.length C) aw3) ∧ w19.grownBy (w19.setCell ⟨g, 23, none⟩ (.int .i64 1)) (some g) := by
    obtain ⟨q1, q2⟩ := HH18.out.put (i := 1) (by decide) 7 (by omega) (.int .i64 1) (awM 1) (fun w' C h => ndV_width h (by unfold isI64; omega))
    exact ⟨Lib.hid q1, q2⟩
  have HE20 := Lib.hid (HE18.out.grown hgr (fun k hk => by injection hk with hk; omega))
  have HB20 := Lib.hid (HB18.out.kept hgr (fun e => by injection e with e; omega))
  have HV20 := Lib.hid (HV18.out.grown hgr (fun b hb => by injection hb with hb; omega))
  clear hgr HH18 HE18 HB18 HV18
  go_upto_region 15 with (fail)
  generalize w19.setCell ⟨g, 23, none⟩ (.int .i64 1) = w20 at *
  clear c7 f7
  go_wp2_with fail
  refine (flist_any aw3 1 (fun x hx => (aw_light (.inr (.inr (.inr (.inl rfl)))) x hx).1) w20 _ HH20.out.row).mono ?_
  rintro e w21 ⟨d21, rfl, hE21, ho21⟩
  rw [aw_l3] at ho21 ⊢
  dsimp only at ho21 ⊢
  obtain ⟨a21, m21, c21, rfl⟩ : ∃ a m c, d21 = .slice a m c := by
    obtain ⟨F, h⟩ := ho21
    obtain ⟨a, c, h⟩ := h.slice
    exact ⟨_, _, _, h⟩
  have HH21 := Lib.hid (HH20.out.ext hE21)
  have HE21 := Lib.hid (HE20.out.trans hE21)
  have HB21 := Lib.hid (HB20.out.ext hE21)
  have HV21 := Lib.hid (HV20.out.ext hE21)
  clear ho21 hE21 HH20 HE20 HB20 HV20
  go_wp2_with fail
  refine (num18_any 3 w21).mono ?_
  rintro e w22 ⟨rfl, hE7⟩
  have HE22 := Lib.hid (HE21.out.trans hE7)
  have HB22 := Lib.hid (HB21.out.ext hE7)
  have HV22 := Lib.hid (HV21.out.ext hE7)
  have hH := HH21.out.ext hE7
  have ⟨⟨u12, c12⟩, f12⟩ := hH.spot (i := 0) (by decide) 12 (by omega)
  have ⟨⟨u13, c13⟩, f13⟩ := hH.spot (i := 0) (by decide) 13 (by omega)
  have ⟨⟨u14, c14⟩, f14⟩ := hH.spot (i := 0) (by decide) 14 (by omega)
  have ⟨⟨u15, c15⟩, f15⟩ := hH.spot (i := 0) (by decide) 15 (by omega)
  simp only [Nat.reduceMul, Nat.reduceAdd, Nat.zero_mul, Nat.zero_add] at c12 f12 c13 f13 c14 f14 c15 f15
  obtain ⟨HH23, hgr⟩ : Hid (HeldN 46 w.heap.size (((((w22).setCell ⟨g, 12, none⟩ (.int .u8 0)).setCell ⟨g, 13, none⟩ (.int .i64 3)).setCell ⟨g, 14, none⟩ (.string { data := #[] })).setCell ⟨g, 15, none⟩ (.slice none 0 0)) (.slice (some ⟨g, 0, none⟩) aw3.length C) aw4) ∧ w22.grownBy (((((w22).setCell ⟨g, 12, none⟩ (.int .u8 0)).setCell ⟨g, 13, none⟩ (.int .i64 3)).setCell ⟨g, 14, none⟩ (.string { data := #[] })).setCell ⟨g, 15, none⟩ (.slice none 0 0)) (some g) := by
    obtain ⟨q3, q4⟩ := hH.putV (i := 0) (by decide) (numT 3) (.int .u8 0) (.int .i64 3) (.string { data := #[] }) (.slice none 0 0) (fun w' _ => (num18_own (by unfold isI64; omega) w' 0).lies)
    exact ⟨Lib.hid q3, q4⟩
  have HE23 := Lib.hid (HE22.out.grown hgr (fun k hk => by injection hk with hk; omega))
  have HB23 := Lib.hid (HB22.out.kept hgr (fun e => by injection e with e; omega))
  have HV23 := Lib.hid (HV22.out.grown hgr (fun b hb => by injection hb with hb; omega))
  clear hgr hH hE7 HH21 HE21 HE22 HB21 HB22 HV21 HV22
  go_upto_region 17 with (fail)
  generalize ((((w22).setCell ⟨g, 12, none⟩ (.int .u8 0)).setCell ⟨g, 13, none⟩ (.int .i64 3)).setCell ⟨g, 14, none⟩ (.string { data := #[] })).setCell ⟨g, 15, none⟩ (.slice none 0 0) = w23 at *
  clear c12 f12 c13 f13 c14 f14 c15 f15
  go_wp2_with fail
  refine (flist_any aw4 1 (fun x hx => (aw_light (.inr (.inr (.inr (.inr rfl)))) x hx).1) w23 _ HH23.out.row).mono ?_
  rintro e w24 ⟨d24, rfl, hE24, ho24⟩
  rw [aw_l4] at ho24 ⊢
  dsimp only at ho24 ⊢
  obtain ⟨a24, m24, c24, rfl⟩ : ∃ a m c, d24 = .slice a m c := by
    obtain ⟨F, h⟩ := ho24
    obtain ⟨a, c, h⟩ := h.slice
    exact ⟨_, _, _, h⟩
  have HE24 := Lib.hid (HE23.out.trans hE24)
  have HB24 := Lib.hid (HB23.out.ext hE24)
  have HV24 := Lib.hid (HV23.out.ext hE24)
  clear ho24 hE24 HH23 HE23 HB23 HV23
  go_wp2_with fail
  have HS : Hid (∀ wx, Ext w24 wx → wx.cell? ⟨BV, 0, none⟩ = some (.int .u8 X18) ∧ wx.cell? ⟨BV, 1, none⟩ = some (.int .i64 0) ∧ wx.cell? ⟨BV, 2, none⟩ = some (.string Y18) ∧ wx.cell? ⟨BV, 3, none⟩ = some (.slice a18 Z18 cap18)) := Lib.hid (fun wx hx => (HB24.out.ext hx).cells)
  have ED := Lib.hid (Ext.refl w24).drew
  refine wp_region_held_drew (S := (fun w' => w'.cell? ⟨BV, 0, none⟩ = some (.int .u8 X18) ∧ w'.cell? ⟨BV, 1, none⟩ = some (.int .i64 0) ∧ w'.cell? ⟨BV, 2, none⟩ = some (.string Y18) ∧ w'.cell? ⟨BV, 3, none⟩ = some (.slice a18 Z18 cap18))) (by kernel_rfl) ?_ (fun hHeld => ?_)
  · (try dsimp only)
    (first | exact HS.out _ ED.out | exact HS.out _ E1.out | exact HS.out _ E2.out | exact HS.out _ E3.out | exact HS.out _ E4.out | exact HS.out _ E5.out)
  refine take_w 0 (some 117) (v := ?_) (by kernel_rfl) (by kernel_rfl) (by kernel_rfl) (by kernel_rfl) (by kernel_rfl) (fun _ _ _ h => h) (by rfl) ?_ (by assumption) ?_
  rotate_left
  · (intro w hSw; (try dsimp only at hSw); go_simp; try with_reducible rfl)
  try simp only [Act.put, List.setIfInBounds_toArray, List.set_cons_zero, List.set_cons_succ]
  refine take_w 1 (some 118) (v := ?_) (by kernel_rfl) (by kernel_rfl) (by kernel_rfl) (by kernel_rfl) (by kernel_rfl) (fun _ _ _ h => h) (by rfl) ?_ (by assumption) ?_
  rotate_left
  · (intro w hSw; (try dsimp only at hSw); go_simp; try with_reducible rfl)
  try simp only [Act.put, List.setIfInBounds_toArray, List.set_cons_zero, List.set_cons_succ]
  refine take_w 2 (some 119) (v := ?_) (by kernel_rfl) (by kernel_rfl) (by kernel_rfl) (by kernel_rfl) (by kernel_rfl) (fun _ _ _ h => h) (by rfl) ?_ (by assumption) ?_
  rotate_left
  · (intro w hSw; (try dsimp only at hSw); go_simp; try with_reducible rfl)
  try simp only [Act.put, List.setIfInBounds_toArray, List.set_cons_zero, List.set_cons_succ]
  refine take_w 3 (some 120) (v := ?_) (by kernel_rfl) (by kernel_rfl) (by kernel_rfl) (by kernel_rfl) (by kernel_rfl) (fun _ _ _ h => h) (by rfl) ?_ (by assumption) ?_
  rotate_left
  · (intro w hSw; (try dsimp only at hSw); go_simp; try with_reducible rfl)
  try simp only [Act.put, List.setIfInBounds_toArray, List.set_cons_zero, List.set_cons_succ]
  refine take_w 4 (some 121) (v := ?_) (by kernel_rfl) (by kernel_rfl) (by kernel_rfl) (by kernel_rfl) (by kernel_rfl) (fun _ _ _ h => h) (by rfl) ?_ (by assumption) ?_
  rotate_left
  · (intro w hSw; (try dsimp only at hSw); go_simp; try with_reducible rfl)
  try simp only [Act.put, List.setIfInBounds_toArray, List.set_cons_zero, List.set_cons_succ]
  refine take_w 5 (some 122) (v := ?_) (by kernel_rfl) (by kernel_rfl) (by kernel_rfl) (by kernel_rfl) (by kernel_rfl) (fun _ _ _ h => h) (by rfl) ?_ (by assumption) ?_
  rotate_left
  · (intro w hSw; (try dsimp only at hSw); go_simp; try with_reducible rfl)
  try simp only [Act.put, List.setIfInBounds_toArray, List.set_cons_zero, List.set_cons_succ]
  refine take_w 6 (some 123) (v := ?_) (by kernel_rfl) (by kernel_rfl) (by kernel_rfl) (by kernel_rfl) (by kernel_rfl) (fun _ _ _ h => h) (by rfl) ?_ (by assumption) ?_
  rotate_left
  · (intro w hSw; (try dsimp only at hSw); go_simp; try with_reducible rfl)
  try simp only [Act.put, List.setIfInBounds_toArray, List.set_cons_zero, List.set_cons_succ]
  refine ready_one 7 (by kernel_rfl) (by kernel_rfl) (by rfl) (fun Kc hKc => ?_)
  go_simp
  refine (num18_any 50 _).mono ?_
  rintro e y1 ⟨rfl, hE1⟩
  have E1 := Lib.hid (ED.out.trans hE1)
  clear hE1
  try go_wp2_with fail
  refine hKc.out _ _ ?_ (fun hHeld => ?_)
  · (try dsimp only)
    (first | exact HS.out _ ED.out | exact HS.out _ E1.out | exact HS.out _ E2.out | exact HS.out _ E3.out | exact HS.out _ E4.out | exact HS.out _ E5.out)
  clear hKc Kc
  try simp only [Act.put, List.setIfInBounds_toArray, List.set_cons_zero, List.set_cons_succ]
  refine ready_one 8 (by kernel_rfl) (by kernel_rfl) (by rfl) (fun Kc hKc => ?_)
  go_simp
  refine (num18_any 70 _).mono ?_
  rintro e y2 ⟨rfl, hE2⟩
  have E2 := Lib.hid (E1.out.trans hE2)
  clear hE2
  try go_wp2_with fail
  refine hKc.out _ _ ?_ (fun hHeld => ?_)
  · (try dsimp only)
    (first | exact HS.out _ ED.out | exact HS.out _ E1.out | exact HS.out _ E2.out | exact HS.out _ E3.out | exact HS.out _ E4.out | exact HS.out _ E5.out)
  clear hKc Kc
  try simp only [Act.put, List.setIfInBounds_toArray, List.set_cons_zero, List.set_cons_succ]
  refine ready_one 9 (by kernel_rfl) (by kernel_rfl) (by rfl) (fun Kc hKc => ?_)
  go_simp
  have HLn := Lib.hid (liesS_two (x := 50) (y := 70) (by unfold isI64; omega) (by unfold isI64; omega) (heap_alloc_new y2 (.cells #[.int .u8 0, .int .i64 50, .string { data := #[] }, .slice none 0 0, .int .u8 0, .int .i64 70, .string { data := #[] }, .slice none 0 0] 44)))
  have E3 := Lib.hid (E2.out.alloc (.cells #[.int .u8 0, .int .i64 50, .string { data := #[] }, .slice none 0 0, .int .u8 0, .int .i64 70, .string { data := #[] }, .slice none 0 0] 44))
  try go_wp2_with fail
  refine hKc.out _ _ ?_ (fun hHeld => ?_)
  · (try dsimp only)
    (first | exact HS.out _ ED.out | exact HS.out _ E1.out | exact HS.out _ E2.out | exact HS.out _ E3.out | exact HS.out _ E4.out | exact HS.out _ E5.out)
  clear hKc Kc
  try simp only [Act.put, List.setIfInBounds_toArray, List.set_cons_zero, List.set_cons_succ]
  refine ready_one 10 (by kernel_rfl) (by kernel_rfl) (by rfl) (fun Kc hKc => ?_)
  go_simp
  refine (list18_any _ 2 2 _).mono ?_
  rintro e y4 ⟨rfl, hE4⟩
  have E4 := Lib.hid (E3.out.trans hE4)
  have HL4 := Lib.hid (list18_lies (HLn.out.ext hE4))
  clear hE4 HLn
  try go_wp2_with fail
  refine hKc.out _ _ ?_ (fun hHeld => ?_)
  · (try dsimp only)
    (first | exact HS.out _ ED.out | exact HS.out _ E1.out | exact HS.out _ E2.out | exact HS.out _ E3.out | exact HS.out _ E4.out | exact HS.out _ E5.out)
  clear hKc Kc
  try simp only [Act.put, List.setIfInBounds_toArray, List.set_cons_zero, List.set_cons_succ]
  refine ready_one 11 (by kernel_rfl) (by kernel_rfl) (by rfl) (fun Kc hKc => ?_)
  go_simp
  refine (vsame_any (listV [numT 50, numT 70]) (listV [numT 50, numT 70]) _ _ _ (HV24.out.ext E4.out).lies HL4.out).mono ?_
  rintro e y5 ⟨rfl, hE5⟩
  rw [eqT_self]
  have E5 := Lib.hid (E4.out.trans hE5)
  clear hE5
  try go_wp2_with fail
  refine hKc.out _ _ ?_ (fun hHeld => ?_)
  · (try dsimp only)
    (first | exact HS.out _ ED.out | exact HS.out _ E1.out | exact HS.out _ E2.out | exact HS.out _ E3.out | exact HS.out _ E4.out | exact HS.out _ E5.out)
  clear hKc Kc
  try simp only [Act.put, List.setIfInBounds_toArray, List.set_cons_zero, List.set_cons_succ]
  refine take_w 12 (some 129) (v := ?_) (by kernel_rfl) (by kernel_rfl) (by kernel_rfl) (by kernel_rfl) (by kernel_rfl) (fun _ _ _ h => h) (by rfl) ?_ (by assumption) ?_
  rotate_left
  · (intro w hSw; (try dsimp only at hSw); go_simp; try with_reducible rfl)
  try simp only [Act.put, List.setIfInBounds_toArray, List.set_cons_zero, List.set_cons_succ]
  refine take_w 13 (some 130) (v := ?_) (by kernel_rfl) (by kernel_rfl) (by kernel_rfl) (by kernel_rfl) (by kernel_rfl) (fun _ _ _ h => h) (by rfl) ?_ (by assumption) ?_
  rotate_left
  · (intro w hSw; (try dsimp only at hSw); go_simp; try with_reducible rfl)
  try simp only [Act.put, List.setIfInBounds_toArray, List.set_cons_zero, List.set_cons_succ]
  refine take_w 14 (some 131) (v := ?_) (by kernel_rfl) (by kernel_rfl) (by kernel_rfl) (by kernel_rfl) (by kernel_rfl) (fun _ _ _ h => h) (by rfl) ?_ (by assumption) ?_
  rotate_left
  · (intro w hSw; (try dsimp only at hSw); go_simp; try with_reducible rfl)
  try simp only [Act.put, List.setIfInBounds_toArray, List.set_cons_zero, List.set_cons_succ]
  refine take_w 15 (some 132) (v := ?_) (by kernel_rfl) (by kernel_rfl) (by kernel_rfl) (by kernel_rfl) (by kernel_rfl) (fun _ _ _ h => h) (by rfl) ?_ (by assumption) ?_
  rotate_left
  · (intro w hSw; (try dsimp only at hSw); go_simp; try with_reducible rfl)
  try simp only [Act.put, List.setIfInBounds_toArray, List.set_cons_zero, List.set_cons_succ]
  refine take_w 16 (some 133) (v := ?_) (by kernel_rfl) (by kernel_rfl) (by kernel_rfl) (by kernel_rfl) (by kernel_rfl) (fun _ _ _ h => h) (by rfl) ?_ (by assumption) ?_
  rotate_left
  · (intro w hSw; (try dsimp only at hSw); go_simp; try with_reducible rfl)
  try simp only [Act.put, List.setIfInBounds_toArray, List.set_cons_zero, List.set_cons_succ]
  refine take_w 17 (some 134) (v := ?_) (by kernel_rfl) (by kernel_rfl) (by kernel_rfl) (by kernel_rfl) (by kernel_rfl) (fun _ _ _ h => h) (by rfl) ?_ (by assumption) ?_
  rotate_left
  · (intro w hSw; (try dsimp only at hSw); go_simp; try with_reducible rfl)
  try simp only [Act.put, List.setIfInBounds_toArray, List.set_cons_zero, List.set_cons_succ]
  refine take_w 18 (some 135) (v := ?_) (by kernel_rfl) (by kernel_rfl) (by kernel_rfl) (by kernel_rfl) (by kernel_rfl) (fun _ _ _ h => h) (by rfl) ?_ (by assumption) ?_
  rotate_left
  · (intro w hSw; (try dsimp only at hSw); go_simp; try with_reducible rfl)
  try simp only [Act.put, List.setIfInBounds_toArray, List.set_cons_zero, List.set_cons_succ]
  refine take_w 19 (some 136) (v := ?_) (by kernel_rfl) (by kernel_rfl) (by kernel_rfl) (by kernel_rfl) (by kernel_rfl) (fun _ _ _ h => h) (by rfl) ?_ (by assumption) ?_
  rotate_left
  · (intro w hSw; (try dsimp only at hSw); go_simp; try with_reducible rfl)
  try simp only [Act.put, List.setIfInBounds_toArray, List.set_cons_zero, List.set_cons_succ]
  refine take_w 20 (some 137) (v := ?_) (by kernel_rfl) (by kernel_rfl) (by kernel_rfl) (by kernel_rfl) (by kernel_rfl) (fun _ _ _ h => h) (by rfl) ?_ (by assumption) ?_
  rotate_left
  · (intro w hSw; (try dsimp only at hSw); go_simp; try with_reducible rfl)
  try simp only [Act.put, List.setIfInBounds_toArray, List.set_cons_zero, List.set_cons_succ]
  refine take_w 21 (some 0) (v := ?_) (by kernel_rfl) (by kernel_rfl) (by kernel_rfl) (by kernel_rfl) (by kernel_rfl) (fun _ _ _ h => h) (by rfl) ?_ (by assumption) ?_
  rotate_left
  · (intro w hSw; (try dsimp only at hSw); go_simp; try with_reducible rfl)
  try simp only [Act.put, List.setIfInBounds_toArray, List.set_cons_zero, List.set_cons_succ]
  refine wpAnyH_done (by kernel_rfl) ?_ _
  have HE9 := Lib.hid (HE24.out.trans E5.out)
  go_wp2
  go_ret
  exact ⟨rfl, HE9.out⟩
end Go.Proofs.YtpcgpcjleedilaaGreatDoor

namespace Fm
open Go Go.RowKit

/-! ### values in a row of one's own -/
theorem flatK (K : Nat) : ∀ (cs : List (List Value)) (i j : Nat) (hi : i < cs.length), (∀ C, C ∈ cs → C.length = K) → j < K → cs.flatten[i * K + j]? = cs[i][j]?
  | [], i, _, hi, _, _ => by simp at hi
  | C :: cs, 0, j, _, h, hj => by
    have := h C (List.mem_cons_self ..)
    rw [List.flatten_cons, List.getElem?_append_left (by omega)]
    simp
  | C :: cs, i + 1, j, hi, h, hj => by
    have h0 := h C (List.mem_cons_self ..)
    have h1 := flatK K cs i j (by simpa using hi) (fun D hD => h D (List.mem_cons_of_mem _ hD)) hj
    have e : (i + 1) * K + j = C.length + (i * K + j) := by rw [h0, Nat.add_mul]; omega
    rw [List.flatten_cons, e, List.getElem?_append_right (by omega), show C.length + (i * K + j) - C.length = i * K + j by omega, h1]
    simp
/-- Values in a row of one's own, what they hold was there ahead. -/
def OldV (eV : TypeId) (w0 : World) (base : Nat) (w : World) (v : Value) (l : List Tr) : Prop :=
  ∃ cs : List (List Value), cs.length = l.length ∧ w.ownsRow base eV 4 v l.length cs.flatten ∧ ∀ (i : Nat) (hi : i < l.length) (hc : i < cs.length), ∃ c0 c1 c2 c3, cs[i] = [c0, c1, c2, c3] ∧ ∀ W, Ext w0 W → Lies W l[i] (.agg #[c0, c1, c2, c3])
theorem OldV.nil (eV : TypeId) (w0 : World) (base : Nat) (w : World) : OldV eV w0 base w (.slice none 0 0) [] := ⟨[], rfl, World.ownsRow_nil _ _ _ _, fun i hi => (by cases hi)⟩
theorem OldV.kept {eV : TypeId} {w0 w w' : World} {base : Nat} {v : Value} {l : List Tr} {row : Option Nat} (h : OldV eV w0 base w v l) (hg : w.grownBy w' row) (hr : ∀ b, v.ownBlock = some b → row ≠ some b) : OldV eV w0 base w' v l := by
  obtain ⟨cs, h1, h2, h3⟩ := h
  refine ⟨cs, h1, h2.kept hg ?_, h3⟩
  cases e : v.ownBlock with
  | none => exact .inl rfl
  | some b => exact .inr (fun h => hr b e h.symm)
theorem OldV.ext {eV : TypeId} {w0 w w' : World} {base : Nat} {v : Value} {l : List Tr} (h : OldV eV w0 base w v l) (hE : Ext w w') : OldV eV w0 base w' v l := h.kept hE.grownBy (fun b _ e => by cases e)
theorem OldV.lt {eV : TypeId} {w0 w : World} {base : Nat} {v : Value} {l : List Tr} (h : OldV eV w0 base w v l) : ∀ k, v.ownBlock = some k → base ≤ k ∧ k < w.heap.size := by
  obtain ⟨cs, h1, h2, h3⟩ := h
  exact World.ownsRow.lt h2
theorem OldV.slice {eV : TypeId} {w0 w : World} {base : Nat} {v : Value} {l : List Tr} (h : OldV eV w0 base w v l) : ∃ a c, v = .slice a l.length c := by
  obtain ⟨cs, h1, h2, h3⟩ := h
  rcases h2.2 with ⟨e1, e2⟩ | ⟨g, cap, cur, e1, _⟩
  · exact ⟨none, 0, by rw [e1, e2]⟩
  · exact ⟨_, _, e1⟩
theorem OldV.more {eV : TypeId} {w0 w : World} {base : Nat} {v : Value} {l : List Tr} (h : OldV eV w0 base w v l) : ∃ xs, w.ownsRow base eV 4 v l.length xs ∧ ∀ (w' : World) (v' : Value) (t : Tr) (c0 c1 c2 c3 : Value), w'.ownsRow base eV 4 v' (l.length + 1) (xs ++ [c0, c1, c2, c3]) →
    (∀ W, Ext w0 W → Lies W t (.agg #[c0, c1, c2, c3])) → OldV eV w0 base w' v' (l ++ [t]) := by
  obtain ⟨cs, h1, h2, h3⟩ := h
  refine ⟨_, h2, fun w' v' t c0 c1 c2 c3 hrow hn => ⟨cs ++ [[c0, c1, c2, c3]], by simp [h1], by rw [List.length_append, List.flatten_append]; simpa using hrow, fun i hi hc => ?_⟩⟩
  by_cases hil : i < l.length
  · have hic : i < cs.length := by omega
    rw [List.getElem_append_left hil, List.getElem_append_left hic]
    exact h3 i hil hic
  · have hi' : i = l.length := by rw [List.length_append, List.length_singleton] at hi; omega
    subst hi'
    refine ⟨c0, c1, c2, c3, ?_, fun W hW => ?_⟩
    · rw [List.getElem_append_right (by omega)]; simp [h1]
    · rw [List.getElem_append_right (by omega)]; simpa using hn W hW
theorem OldV.lies {eV : TypeId} {w0 w : World} {base : Nat} {v : Value} {l : List Tr} (h : OldV eV w0 base w v l) (hE : Ext w0 w) : LiesS w l v := by
  obtain ⟨cs, h1, h2, h3⟩ := h
  have h4 : ∀ C, C ∈ cs → C.length = 4 := fun C hC => by
    obtain ⟨i, hi, rfl⟩ := List.getElem_of_mem hC
    obtain ⟨c0, c1, c2, c3, e, -⟩ := h3 i (by omega) hi
    rw [e]; rfl
  rcases h2.2 with ⟨e1, e2⟩ | ⟨g, cap, cur, e1, hb, hg, q1, q2, -⟩
  · have : l = [] := List.eq_nil_of_length_eq_zero e2
    subst this
    rw [e1]
    exact LiesS.nil w none
  · subst e1
    have hlt := World.ownsRow.lt h2 g rfl
    refine ⟨some ⟨g, 0, none⟩, cap, rfl, q1, q2, (fun e => by cases e), fun i j => (cs.flatten[i * 4 + j]?).getD undef, fun _ => ⟨g, 0, rfl, hlt.2, fun i j hi hj => ?_⟩, fun i hi => ?_⟩
    · have hic : i < cs.length := by omega
      obtain ⟨c0, c1, c2, c3, e, -⟩ := h3 i hi hic
      have hl : j < cs[i].length := by rw [e]; exact hj
      have e2 := flatK 4 cs i j hic h4 hj
      rw [List.getElem?_eq_getElem hl] at e2
      rw [Nat.zero_add, World.ownsRow.cellAt h2 _ (by omega)]
      show _ = some ((cs.flatten[i * 4 + j]?).getD undef)
      rw [e2]; rfl
    · have hic : i < cs.length := by omega
      obtain ⟨c0, c1, c2, c3, e, hL⟩ := h3 i hi hic
      have g0 := flatK 4 cs i 0 hic h4 (by omega)
      have g1 := flatK 4 cs i 1 hic h4 (by omega)
      have g2 := flatK 4 cs i 2 hic h4 (by omega)
      have g3 := flatK 4 cs i 3 hic h4 (by omega)
      rw [e] at g0 g1 g2 g3
      dsimp only
      rw [g0, g1, g2, g3]
      exact hL w hE
/-! ### each number once -/
def cntF (l : List Nd) (m : Int) (k : Nat) : Nat := (l.filter (doneAt m (k : Int))).length
def sumF (f : Nat → Nat) : Nat → Nat
  | 0 => 0
  | k + 1 => sumF f k + f k
theorem sumF_add (f g : Nat → Nat) : ∀ K, sumF (fun k => f k + g k) K = sumF f K + sumF g K
  | 0 => rfl
  | K + 1 => by simp only [sumF]; rw [sumF_add f g K]; omega
theorem sumF_zero : ∀ K, sumF (fun _ => 0) K = 0
  | 0 => rfl
  | K + 1 => by simp only [sumF]; rw [sumF_zero K]
theorem sumF_one (x : Nd) (m : Int) : ∀ K, sumF (fun (k : Nat) => if doneAt m (k : Int) x = true then 1 else 0) K = if isEach m x = true ∧ x.stand = 4 ∧ 0 ≤ x.place ∧ x.place < (K : Int) then 1 else 0
  | 0 => by simp only [sumF]; rw [if_neg (by omega)]
  | K + 1 => by
    simp only [sumF]
    rw [sumF_one x m K]
    by_cases h : doneAt m (K : Int) x = true
    · have h' := h
      unfold doneAt at h'
      simp only [Bool.and_eq_true, decide_eq_true_eq] at h'
      rw [if_pos h, if_neg (fun hh => by have := h'.2; have := hh.2.2.2; omega), if_pos (by obtain ⟨⟨a, b⟩, c⟩ := h'; exact ⟨a, b, by omega, by omega⟩)]
    · rw [if_neg h]
      have h' : ¬ (isEach m x = true ∧ x.stand = 4 ∧ x.place = (K : Int)) := fun hh => h (by unfold doneAt; simp only [Bool.and_eq_true, decide_eq_true_eq]; exact ⟨⟨hh.1, hh.2.1⟩, hh.2.2⟩)
      by_cases q : isEach m x = true ∧ x.stand = 4 ∧ 0 ≤ x.place ∧ x.place < (K : Int)
      · rw [if_pos q, if_pos ⟨q.1, q.2.1, q.2.2.1, by have := q.2.2.2; omega⟩]
      · rw [if_neg q, if_neg (fun hh => by
          have : x.place ≠ (K : Int) := fun e => h' ⟨hh.1, hh.2.1, e⟩
          exact q ⟨hh.1, hh.2.1, hh.2.2.1, by have := hh.2.2.2; omega⟩)]
theorem cnt_sum (m : Int) (K : Nat) : ∀ l : List Nd, sumF (cntF l m) K ≤ (l.filter (isEach m)).length
  | [] => by
    have e : cntF [] m = fun _ => 0 := by funext k; rfl
    rw [e, sumF_zero]; simp
  | x :: l => by
    have e : cntF (x :: l) m = fun (k : Nat) => (if doneAt m (k : Int) x = true then 1 else 0) + cntF l m k := by
      funext k
      unfold cntF
      by_cases h : doneAt m (k : Int) x = true <;> simp [h]; omega
    rw [e, sumF_add, sumF_one]
    have ih := cnt_sum m K l
    by_cases h : isEach m x = true
    · rw [List.filter_cons_of_pos h, List.length_cons]
      by_cases q : isEach m x = true ∧ x.stand = 4 ∧ 0 ≤ x.place ∧ x.place < (K : Int)
      · rw [if_pos q]; omega
      · rw [if_neg q]; omega
    · rw [List.filter_cons_of_neg h, if_neg (fun q => h q.1)]; omega
theorem ge_sum {f : Nat → Nat} : ∀ K, (∀ k, k < K → 1 ≤ f k) → ∀ k, k < K → K + (f k - 1) ≤ sumF f K
  | 0, _, k, hk => by omega
  | K + 1, h, k, hk => by
    simp only [sumF]
    have h0 := h K (by omega)
    have hall : ∀ K', K' ≤ K → K' ≤ sumF f K' := fun K' => by
      induction K' with
      | zero => intro _; exact Nat.zero_le _
      | succ K' ih => intro hk; simp only [sumF]; have := ih (by omega); have := h K' (by omega); omega
    by_cases e : k = K
    · subst e
      have := hall k (Nat.le_refl _)
      omega
    · have := ge_sum K (fun k hk => h k (by omega)) k (by omega)
      omega
theorem valAt_cnt {l : List Nd} {m : Int} {k : Nat} : valAt l m (k : Int) = none ↔ cntF l m k = 0 := by
  unfold valAt cntF
  cases h : (l.filter (doneAt m (k : Int))) with
  | nil => simp
  | cons x r => simp [List.getLast?_cons]
/-- If all numbers are there, each is there once. -/
theorem cnt_one {l : List Nd} {m : Int} {r : List Tr} (h : valsF (l.filter (isEach m)).length l m = some r) : ∀ k, k < (l.filter (isEach m)).length → cntF l m k = 1 := by
  intro k hk
  have h1 := ((valsF_some _ l m r).1 h).2
  have h2 : ∀ k, k < (l.filter (isEach m)).length → 1 ≤ cntF l m k := fun k hk => by
    have h3 := h1 k hk
    rcases Nat.eq_zero_or_pos (cntF l m k) with e | e
    · rw [valAt_cnt.2 e] at h3; cases h3
    · exact e
  have h4 := ge_sum _ h2 k hk
  have h5 := cnt_sum m (l.filter (isEach m)).length l
  have h6 := h2 k hk
  omega
theorem vals_dead {l : List Nd} {m : Int} {k : Nat} (hk : k < (l.filter (isEach m)).length) (h : cntF l m k ≠ 1) : valsF (l.filter (isEach m)).length l m = none := by
  cases e : valsF (l.filter (isEach m)).length l m with
  | none => rfl
  | some r => exact absurd (cnt_one e k hk) h
def cntR (l : List Nd) (m : Int) (k j : Nat) : Nat := ((l.take j).filter (doneAt m (k : Int))).length
theorem cntR_zero (l : List Nd) (m : Int) (k : Nat) : cntR l m k 0 = 0 := rfl
theorem cntR_succ (l : List Nd) (m : Int) (k j : Nat) (hj : j < l.length) : cntR l m k (j + 1) = cntR l m k j + if doneAt m (k : Int) l[j] = true then 1 else 0 := by
  unfold cntR
  rw [List.take_add_one, List.getElem?_eq_getElem hj, List.filter_append]
  by_cases h : doneAt m (k : Int) l[j] = true <;> simp [h]
theorem cntR_all (l : List Nd) (m : Int) (k : Nat) : cntR l m k l.length = cntF l m k := by unfold cntR cntF; rw [List.take_length]
def valR (l : List Nd) (m : Int) (k j : Nat) : Tr := (valAt (l.take j) m (k : Int)).getD zT
theorem valR_succ (l : List Nd) (m : Int) (k j : Nat) (hj : j < l.length) : valR l m k (j + 1) = if doneAt m (k : Int) l[j] = true then l[j].val else valR l m k j := by
  unfold valR valAt
  rw [List.take_add_one, List.getElem?_eq_getElem hj, List.filter_append]
  by_cases h : doneAt m (k : Int) l[j] = true <;> simp [h]
theorem valR_all {l : List Nd} {m : Int} {k : Nat} (h : cntF l m k = 1) : valAt l m (k : Int) = some (valR l m k l.length) := by
  unfold valR
  rw [List.take_length]
  cases e : valAt l m (k : Int) with
  | none => rw [valAt_cnt] at e; omega
  | some v => rfl
end Fm

open Go.RowKit Go.Shelf
namespace Go.Proofs.YtpcgpcjleedilaaGreatDoor
open Go Go.Proofs Fm

/-- What the reference's List comes to. -/
def RListPost (w : World) (l : List Nd) (m : Int) (e : Ending) (w' : World) : Prop := ∃ (a : Option Addr) (n c : Nat), e = .returned (.tuple #[.slice a n c, .int .i64 (listF l m).2]) ∧ Ext w w' ∧ LiesS w' (listF l m).1 (.slice a n c)
theorem rlist_fin {w w' : World} {l : List Nd} {m : Int} {r : List Tr} {fv : Int} {a : Option Addr} {n c : Nat} (h : listF l m = (r, fv)) (hE : Ext w w') (hO : LiesS w' r (.slice a n c)) : RListPost w l m (.returned (.tuple #[.slice a n c, .int .i64 fv])) w' := by
  unfold RListPost
  rw [h]
  exact ⟨_, _, _, rfl, hE, hO⟩
set_option maxRecDepth 100000 in
set_option maxHeartbeats 2000000 in
theorem rlist18_any (l : List Nd) (m : Int) (w : World) (v : Value) (h : ndE.Row w l v) :
    Calls Tryz.prog 34 #[v, .int .i64 m] w (RListPost w l m) := by
  have HX := Lib.hid (show listF l m = if placeF l m && mapsF (nthF l m) && placeF l ((nthF l m).after.headD 0) then
    if fitsF (nthF l ((nthF l m).after.headD 0)).val (nthF l m).width = 0 then (kidsV (nthF l ((nthF l m).after.headD 0)).val, 0)
    else ([], fitsF (nthF l ((nthF l m).after.headD 0)).val (nthF l m).width)
  else ([], 2) from rfl)
  have HR := Lib.hid h
  obtain ⟨a, c, rfl, hc1, hc2⟩ := h.slice
  clear h
  have BAD := Lib.hid (fun (e : listF l m = ([], 2)) => rlist_fin (w := w) (w' := w) (a := none) (n := 0) (c := 0) e (Ext.refl w) (LiesS.nil w none))
  have HC := Lib.hid (rplace18_any l m w _ HR.out)
  cases hpl : placeF l m with
  | false =>
    have HY := Lib.hid (show listF l m = ([], 2) by rw [HX.out, hpl]; rfl)
    rw [hpl] at HC
    clear HX hpl
    go_enter Tryz.func34, Tryz.ntmps34
    go_wp2_with fail
    refine HC.out.mono ?_
    rintro e w1 ⟨rfl, rfl⟩
    go_wp2
    go_ret2
    exact BAD.out HY.out
  | true =>
    obtain ⟨hm0, hm1⟩ := place_iff.1 hpl
    obtain ⟨i, rfl⟩ : ∃ i : Nat, m = (i : Int) := ⟨m.toNat, by omega⟩
    have hi : i < l.length := by omega
    rw [hpl] at HC
    have HX := Lib.hid (show listF l i = if mapsF l[i] && placeF l (l[i].after.headD 0) then
      if fitsF (nthF l (l[i].after.headD 0)).val l[i].width = 0 then (kidsV (nthF l (l[i].after.headD 0)).val, 0)
      else ([], fitsF (nthF l (l[i].after.headD 0)).val l[i].width)
      else ([], 2) by rw [HX.out, hpl, nth_at hi]; simp)
    obtain ⟨b, off, rfl, hb, aa, ma, ca, k, N, s, d, ⟨x0, x1, c2, x3, x4, x5, c6, c7, x8, x9, x10, x11, x12, x13, x14, x15⟩, hnv⟩ := nd_at16 HR.out (Ext.refl w) i hi
    have HNV := Lib.hid hnv
    have hk := u8_one (k := l[i].kind) 1
    rw [show (((1 : UInt8).toNat : Nat) : Int) = 1 from rfl] at hk
    obtain ⟨K, hK⟩ : ∃ K, K = (l[i].kind.toNat : Int) := ⟨_, rfl⟩
    rw [← hK] at c2 hk
    clear hpl hm0 hm1 hnv hK x0 x1 x3 x4 x5 x8 x9 x10 x11 x12 x13 x14 x15
    by_cases h1 : l[i].kind = 1
    case neg =>
      have f1 : (K == 1) = false := by rw [hk]; simpa using h1
      have f2 : (K != 1) = true := by rw [bne, f1]; rfl
      have HY := Lib.hid (show listF l i = ([], 2) by rw [HX.out]; unfold mapsF; rw [decide_eq_false h1]; rfl)
      clear hk h1 HX
      go_enter Tryz.func34, Tryz.ntmps34
      go_wp2_with fail
      refine HC.out.mono ?_
      rintro e w1 ⟨rfl, rfl⟩
      go_wp2
      go_ret2
      exact BAD.out HY.out
    have f1 : (K == 1) = true := by rw [hk]; simpa using h1
    have f2 : (K != 1) = false := by rw [bne, f1]; rfl
    obtain ⟨hrow, -, hwd⟩ := nd_parts HNV.out
    have hml : ma = l[i].after.length := by
      obtain ⟨_, _, e, _⟩ := hrow.slice
      injection e
    have H1 := Lib.hid h1
    clear hk h1
    by_cases hne : l[i].after = []
    case pos =>
      have h0 : ma = 0 := by rw [hml, hne]; rfl
      subst h0
      have HY := Lib.hid (show listF l i = ([], 2) by rw [HX.out]; unfold mapsF; rw [hne]; simp)
      clear hrow hwd hml hne HX
      go_enter Tryz.func34, Tryz.ntmps34
      go_wp2_with fail
      refine HC.out.mono ?_
      rintro e w1 ⟨rfl, rfl⟩
      go_wp2
      go_ret2
      exact BAD.out HY.out
    have hal : 0 < l[i].after.length := List.length_pos_iff.2 hne
    obtain ⟨b3, o3, rfl, hb3, k0, hk0⟩ := int_at hrow (Ext.refl w) 0 hal
    rw [Nat.add_zero] at k0
    have hhd : l[i].after.headD 0 = l[i].after[0] := head_at hal
    have HX := Lib.hid (show listF l i = if placeF l l[i].after[0] then
      if fitsF (nthF l l[i].after[0]).val l[i].width = 0 then (kidsV (nthF l l[i].after[0]).val, 0)
      else ([], fitsF (nthF l l[i].after[0]).val l[i].width)
      else ([], 2) by rw [HX.out, hhd]; unfold mapsF; rw [decide_eq_true H1.out, decide_eq_true hne]; simp)
    subst hml
    have HC2 := Lib.hid (rplace18_any l l[i].after[0] w _ HR.out)
    obtain ⟨a0, ha0⟩ : ∃ a0, a0 = l[i].after[0] := ⟨_, rfl⟩
    rw [← ha0] at k0 hk0 HX HC2
    obtain ⟨M, hM⟩ : ∃ M, M = l[i].after.length := ⟨_, rfl⟩
    rw [← hM] at c6 hal
    have hz : ((M : Int) == 0) = false := by simp; omega
    clear ha0 hM hne hrow hhd HNV
    go_enter Tryz.func34, Tryz.ntmps34
    go_wp2_with fail
    refine HC.out.mono ?_
    rintro e w1 ⟨rfl, rfl⟩
    go_wp2_with fail
    refine HC2.out.mono ?_
    rintro e w3 ⟨rfl, rfl⟩
    cases hpa : placeF l a0 with
    | false =>
      have HY := Lib.hid (show listF l i = ([], 2) by rw [HX.out, hpa]; rfl)
      clear hpa HX
      go_wp2
      go_ret2
      exact BAD.out HY.out
    | true =>
      obtain ⟨hm0, hm1⟩ := place_iff.1 hpa
      obtain ⟨j, rfl⟩ : ∃ j : Nat, a0 = (j : Int) := ⟨a0.toNat, by omega⟩
      have hj : j < l.length := by omega
      obtain ⟨b', off', e', hb', aa', ma', ca', K', N', S', D', ⟨y0, y1, y2, y3, y4, y5, y6, y7, y8, y9, y10, y11, y12, y13, y14, y15⟩, hnv'⟩ := nd_at16 HR.out (Ext.refl w) j hj
      injection e' with e'
      injection e' with e1 e2
      subst e1 e2
      obtain ⟨-, hlv, -⟩ := nd_parts hnv'
      have HX := Lib.hid (show listF l i = if fitsF l[j].val l[i].width = 0 then (kidsV l[j].val, 0) else ([], fitsF l[j].val l[i].width) by rw [HX.out, hpa, nth_at hj]; simp)
      clear hpa hm0 hm1 y0 y1 y2 y3 y4 y5 y6 y7 y8 y9 y10 y11 hnv' hb' BAD
      generalize l[j].val = tv at *
      generalize l[i].width = wd at *
      obtain ⟨kk, nn, ss, ls⟩ := tv
      have HLV := Lib.hid hlv
      obtain ⟨dd, e, hnn, hss, hls⟩ := hlv.parts
      obtain ⟨av, capv, rfl, hcv1, hcv2, -⟩ := id hls
      simp at e
      obtain ⟨rfl, rfl, rfl, rfl⟩ := e
      have HLS := Lib.hid hls
      have hE4 := (Ext.refl w).alloc (.cells #[.int .u8 (kk.toNat : Int), .int .i64 nn, .string (str ss), .slice av ls.length capv] 44)
      have hb4 := BoxL.new w [.int .u8 (kk.toNat : Int), .int .i64 nn, .string (str ss), .slice av ls.length capv] 44
      have d7' := (((Ext.refl w).alloc (.cells #[.int .u8 (kk.toNat : Int), .int .i64 nn, .string (str ss), .slice av ls.length capv] 44)).cell (p := ⟨b, off + i * 16 + 7, none⟩) hb).trans c7
      have HLV4 := Lib.hid (HLV.out.ext hE4)
      have HE4 := Lib.hid hE4
      have hb0 := Nat.lt_of_lt_of_le hb hE4.size
      clear hlv hnn hss HC HC2 hls
      go_upto_region 4 with (fail)
      generalize w.alloc (.cells #[.int .u8 (kk.toNat : Int), .int .i64 nn, .string (str ss), .slice av ls.length capv] 44) = W4 at *
      generalize hB4 : w.heap.size = B4 at *
      have HS : Hid (∀ w', Ext W4 w' → (w'.cell? ⟨B4, 0, none⟩ = some (.int .u8 (kk.toNat : Int)) ∧ w'.cell? ⟨B4, 1, none⟩ = some (.int .i64 nn) ∧ w'.cell? ⟨B4, 2, none⟩ = some (.string (str ss)) ∧ w'.cell? ⟨B4, 3, none⟩ = some (.slice av ls.length capv) ∧ w'.cell? ⟨b, off + i * 16 + 7, none⟩ = some (.int .i64 wd))) := Lib.hid (fun w' hE =>
        ⟨(hb4.ext hE).cell 0 _ rfl, (hb4.ext hE).cell 1 _ rfl, (hb4.ext hE).cell 2 _ rfl, (hb4.ext hE).cell 3 _ rfl, (hE.cell (p := ⟨b, off + i * 16 + 7, none⟩) hb0).trans d7'⟩)
      have HFT := Lib.hid (fun w' (hE : Ext W4 w') => rfits18_any (.node kk nn ss ls) wd w' _ (HLV4.out.ext hE))
      have HD := Lib.hid (Ext.refl W4).drew
      obtain ⟨KK, hKK⟩ : ∃ KK, KK = (kk.toNat : Int) := ⟨_, rfl⟩
      rw [← hKK] at HS HFT hb4 ⊢
      clear hB4 d7' c7 k0 hk0 hKK
      go_region_held3 (fun w' => w'.cell? ⟨B4, 0, none⟩ = some (.int .u8 KK) ∧ w'.cell? ⟨B4, 1, none⟩ = some (.int .i64 nn) ∧ w'.cell? ⟨B4, 2, none⟩ = some (.string (str ss)) ∧ w'.cell? ⟨B4, 3, none⟩ = some (.slice av ls.length capv) ∧ w'.cell? ⟨b, off + i * 16 + 7, none⟩ = some (.int .i64 wd))
        (first | exact HS.out _ HD.out | exact HS.out _ E1.out)
        ((
          go_at_call 40
          refine (HFT.out _ HD.out).mono ?_
          rintro e z1 ⟨rfl, hE⟩
          have E1 := Lib.hid (HD.out.trans hE)
          clear hE))
      have HX := Lib.hid (show listF l i = if fitsF (.node kk nn ss ls) wd = 0 then (ls, 0) else ([], fitsF (.node kk nn ss ls) wd) from HX.out)
      obtain ⟨-, -, -, r3, -⟩ := HS.out _ E1.out
      clear HS HFT hb4
      generalize fitsF (.node kk nn ss ls) wd = fv at *
      by_cases hfv : fv = 0
      · subst hfv
        have HY := Lib.hid (show listF l i = (ls, 0) by rw [HX.out]; rfl)
        have HE5 := Lib.hid (HE4.out.trans E1.out)
        clear HX
        go_wp2
        go_ret2
        exact rlist_fin HY.out HE5.out (HLS.out.ext HE5.out)
      · have HY := Lib.hid (show listF l i = ([], fv) by rw [HX.out, if_neg hfv])
        have hb1 : (fv != 0) = true := by simp [hfv]
        have HE5 := Lib.hid (HE4.out.trans E1.out)
        clear HX hfv
        go_wp2
        go_ret2
        exact rlist_fin HY.out HE5.out (LiesS.nil _ none)
end Go.Proofs.YtpcgpcjleedilaaGreatDoor

namespace Fm
open Go Go.RowKit

/-- Numbers that stay, whatever becomes of that block. -/
def FarI (w : World) (row : Option Nat) (l : List Int) (v : Value) : Prop := ∀ w', w.grownBy w' row → intE.Row w' l v
theorem FarI.row {w : World} {row : Option Nat} {l : List Int} {v : Value} (h : FarI w row l v) : intE.Row w l v := h w (grown_ext (Ext.refl w) row)
theorem FarI.then {w w' : World} {row row' : Option Nat} {l : List Int} {v : Value} (h : FarI w row l v) (hg : w.grownBy w' row) (hr : row' = row ∨ ∃ g, row' = some g ∧ w.heap.size ≤ g) : FarI w' row' l v := fun w'' hg' => h w'' (grown_row hg hg' hr)
theorem FarI.ext {w w' : World} {row : Option Nat} {l : List Int} {v : Value} (h : FarI w row l v) (hE : Ext w w') : FarI w' row l v := h.then (grown_ext hE row) (.inl rfl)
end Fm
namespace Fm
open Go Go.RowKit
/-! ### instances done one by one -/
end Fm
namespace Fm
open Go Go.RowKit
/-- An element of a list that lies somewhere. -/
theorem liesS_at {w : World} {l : List Tr} {a : Option Addr} {n c : Nat} (h : LiesS w l (.slice a n c)) {j : Nat} (hj : j < l.length) :
    ∃ (b off : Nat) (k0 n0 : Int) (s0 : ByteArray) (a0 : Option Addr) (m0 c0 : Nat), a = some ⟨b, off, none⟩ ∧ b < w.heap.size ∧ (∀ W, Ext w W → W.cell? ⟨b, off + j * 4, none⟩ = some (.int .u8 k0) ∧ W.cell? ⟨b, off + j * 4 + 1, none⟩ = some (.int .i64 n0) ∧ W.cell? ⟨b, off + j * 4 + 2, none⟩ = some (.string s0) ∧ W.cell? ⟨b, off + j * 4 + 3, none⟩ = some (.slice a0 m0 c0)) ∧
      Lies w l[j] (.agg #[.int .u8 k0, .int .i64 n0, .string s0, .slice a0 m0 c0]) := by
  obtain ⟨a', c', e, h1, h2, h3, C, h4, h5⟩ := h
  injection e with e1 e2 e3
  subst e1 e2 e3
  obtain ⟨b, off, rfl, hb, hc⟩ := h4 (by omega)
  obtain ⟨k0, n0, s0, a0, m0, c0, e0, e1, e2, e3, hx⟩ := elem4o (Ext.refl w) hb hc h5 j hj
  exact ⟨b, off, k0, n0, s0, a0, m0, c0, rfl, hb, fun W hW => ⟨(hW.cell (p := ⟨b, _, none⟩) hb).trans e0, (hW.cell (p := ⟨b, _, none⟩) hb).trans e1, (hW.cell (p := ⟨b, _, none⟩) hb).trans e2, (hW.cell (p := ⟨b, _, none⟩) hb).trans e3⟩, hx⟩
end Fm

open Go.RowKit Go.Shelf
namespace Go.Proofs.YtpcgpcjleedilaaGreatDoor
open Go Go.Proofs Fm

/-- What the reference's Input comes to. -/
def RInputPost (w : World) (l : List Nd) (i : Int) (e : Ending) (w' : World) : Prop :=
  ∃ (A : Option Addr) (n c : Nat) (b : Bool), e = .returned (.tuple #[.slice A n c, .bool b]) ∧ Ext w w' ∧ (∀ r, inputF l i = some r → b = true ∧ LiesS w' r (.slice A n c)) ∧ (inputF l i = none → b = false ∧ A = none ∧ n = 0 ∧ c = 0)
theorem rinput_no {w w' : World} {l : List Nd} {i : Int} (hE : Ext w w') (h : inputF l i = none) : RInputPost w l i (.returned (.tuple #[.slice none 0 0, .bool false])) w' :=
  ⟨_, _, _, _, rfl, hE, fun r hr => (by rw [h] at hr; cases hr), fun _ => ⟨rfl, rfl, rfl, rfl⟩⟩
theorem rinput_yes {w w' : World} {l : List Nd} {i : Int} {r : List Tr} {A : Option Addr} {n c : Nat} (hE : Ext w w') (h : inputF l i = some r) (ho : LiesS w' r (.slice A n c)) : RInputPost w l i (.returned (.tuple #[.slice A n c, .bool true])) w' :=
  ⟨_, _, _, _, rfl, hE, fun q hq => (by rw [h] at hq; injection hq with hq; subst hq; exact ⟨rfl, ho⟩), fun hn => (by rw [h] at hn; cases hn)⟩
set_option maxRecDepth 100000 in
set_option maxHeartbeats 4000000 in
theorem rinput18_any (l : List Nd) (i : Int) (hp : ∀ x, x ∈ l → x.after.length ≤ 900) (w : World) (v : Value) (h : ndE.Row w l v) :
    Calls Tryz.prog 38 #[v, .int .i64 i] w (RInputPost w l i) := by
  have HP := Lib.hid hp
  have HR := Lib.hid h
  obtain ⟨a, c, rfl, hc1, hc2⟩ := h.slice
  have HX := Lib.hid (show inputF l i = if placeF l i = true then
    if (nthF l i).kind = 2 then (ownF l (nthF l i)).bind fun v => (aftF l (nthF l i).after).map (v :: ·)
    else if (nthF l i).kind = 0 then aftF l (nthF l i).after else none
  else none from rfl)
  have HC := Lib.hid (rplace18_any l i w _ h)
  clear hp h
  go_enter Tryz.func38, Tryz.ntmps38
  go_wp2_with fail
  refine HC.out.mono ?_
  rintro e w1 ⟨rfl, rfl⟩
  clear HC
  cases hpl : placeF l i with
  | false =>
    have HY := Lib.hid (show inputF l i = none by rw [HX.out, hpl]; rfl)
    clear hpl HX
    go_wp2
    go_ret2
    exact rinput_no (Ext.refl _) HY.out
  | true =>
    obtain ⟨hm0, hm1⟩ := place_iff.1 hpl
    obtain ⟨p, rfl⟩ : ∃ p : Nat, i = (p : Int) := ⟨i.toNat, by omega⟩
    have hi : p < l.length := by omega
    have HX := Lib.hid (show inputF l p = if l[p].kind = 2 then (ownF l l[p]).bind fun v => (aftF l l[p].after).map (v :: ·) else if l[p].kind = 0 then aftF l l[p].after else none by rw [HX.out, hpl, nth_at hi]; rfl)
    obtain ⟨g, off, rfl, hb, aa, ma, ca, k, N, s, d, ⟨x0, x1, q2, x3, q4, q5, q6, x7, x8, x9, x10, x11, x12, x13, x14, x15⟩, hnv⟩ := nd_at16 HR.out (Ext.refl w) p hi
    obtain ⟨hrow, -, -⟩ := nd_parts hnv
    have hml : ma = l[p].after.length := by
      obtain ⟨_, _, e, _⟩ := hrow.slice
      injection e
    subst hml
    have HAR := Lib.hid hrow
    have hk2 := u8_one (k := l[p].kind) 2
    rw [show (((2 : UInt8).toNat : Nat) : Int) = 2 from rfl] at hk2
    have hk0 := u8_one (k := l[p].kind) 0
    rw [show (((0 : UInt8).toNat : Nat) : Int) = 0 from rfl] at hk0
    obtain ⟨K, hK⟩ : ∃ K, K = (l[p].kind.toNat : Int) := ⟨_, rfl⟩
    rw [← hK] at q2 hk0 hk2
    obtain ⟨M, hM⟩ : ∃ M, M = l[p].after.length := ⟨_, rfl⟩
    have HM := Lib.hid hM
    have hM9 : M ≤ 900 := by rw [hM]; exact HP.out _ (List.getElem_mem hi)
    rw [← hM] at q6
    have Q6 := Lib.hid q6
    clear hK hrow hnv hm0 hm1 hpl hM x0 x1 x3 x7 x8 x9 x10 x11 x12 x13 x14 x15
    by_cases h2 : l[p].kind = 2
    case' pos =>
      have f2 : (K == 2) = true := by rw [hk2]; simpa using h2
      have f2' : (K != 2) = false := by rw [bne, f2]; rfl
      have f0 : (K != 0) = true := by rw [bne, hk0, decide_eq_false (by rw [h2]; decide)]; rfl
      have HX := Lib.hid (show inputF l p = (ownF l l[p]).bind fun v => (aftF l l[p].after).map (v :: ·) by rw [HX.out, if_pos h2])
      have HOX := Lib.hid (show ownF l l[p] = if (listF l l[p].owner).2 = 0 ∧ 0 ≤ l[p].place ∧ l[p].place < (listF l l[p].owner).1.length then some ((listF l l[p].owner).1.getD l[p].place.toNat zT) else none from rfl)
      have HLC := Lib.hid (rlist18_any l l[p].owner w _ HR.out)
      obtain ⟨OW, hOW⟩ : ∃ OW, OW = l[p].owner := ⟨_, rfl⟩
      obtain ⟨PL, hPL⟩ : ∃ PL, PL = l[p].place := ⟨_, rfl⟩
      rw [← hOW] at q4 HLC HOX
      rw [← hPL] at q5 HOX
      clear hk0 hk2 h2 hOW hPL
      go_wp2_with fail
      refine HLC.out.mono ?_
      rintro e W1 ⟨a1, n1, c1, rfl, hE1, hL1⟩
      have HE1 := Lib.hid hE1
      obtain ⟨fv, hfv⟩ : ∃ fv, fv = (listF l OW).2 := ⟨_, rfl⟩
      obtain ⟨ls, hls⟩ : ∃ ls, ls = (listF l OW).1 := ⟨_, rfl⟩
      rw [← hfv, ← hls] at HOX
      rw [← hls] at hL1
      rw [← hfv]
      have hn1 : n1 = ls.length := by
        obtain ⟨_, _, e, _⟩ := hL1
        injection e
      have HLs := Lib.hid hL1
      have d5 := (hE1.cell (p := ⟨g, off + p * 16 + 5, none⟩) hb).trans q5
      have hcb : n1 ≤ 9223372036854775807 := by
        obtain ⟨_, _, e, h1, h2, _⟩ := hL1
        injection e with _ e2 _
        unfold maxLen at h2; omega
      clear HLC hE1 hL1 q2 q4 q5 q6 hfv hls
      by_cases hfz : fv = 0
      case neg =>
        have hb1 : (fv != 0) = true := by simp [hfz]
        have HY := Lib.hid (show inputF l p = none by rw [HX.out, HOX.out, if_neg (fun h => hfz h.1)]; rfl)
        clear hfz HX HOX
        go_wp2
        go_ret2
        exact rinput_no HE1.out HY.out
      have hb1 : (fv != 0) = false := by simp [hfz]
      have HFZ := Lib.hid hfz
      clear hfz
      by_cases hp0 : 0 ≤ PL
      case neg =>
        have hd0 : decide (PL < 0) = true := decide_eq_true (by omega)
        have hd0' : PL < 0 := by omega
        have HY := Lib.hid (show inputF l p = none by rw [HX.out, HOX.out, if_neg (fun h => hp0 h.2.1)]; rfl)
        clear hp0 HX HOX
        go_wp2
        go_ret2
        exact rinput_no HE1.out HY.out
      obtain ⟨PN, rfl⟩ : ∃ PN : Nat, PL = (PN : Int) := ⟨PL.toNat, by omega⟩
      have hd0 : decide ((PN : Int) < 0) = false := decide_eq_false (by omega)
      have hd0' : ¬ (PN : Int) < 0 := by omega
      by_cases hp1 : PN < n1
      case neg =>
        have hd1 : decide ((n1 : Int) ≤ (PN : Int)) = true := decide_eq_true (by omega)
        have hd1' : n1 ≤ PN := by omega
        have HY := Lib.hid (show inputF l p = none by rw [HX.out, HOX.out, if_neg (fun h => by have := h.2.2; omega)]; rfl)
        clear hp1 HX HOX
        go_wp2
        go_ret2
        exact rinput_no HE1.out HY.out
      have hd1 : decide ((n1 : Int) ≤ (PN : Int)) = false := decide_eq_false (by omega)
      have hd1' : ¬ (n1 : Int) ≤ (PN : Int) := by omega
      have hpl : PN < ls.length := by omega
      obtain ⟨bi, oi, k0, n0, s0, a0, m0, c0, rfl, hbi, hci, hLj⟩ := liesS_at HLs.out hpl
      have ⟨r0, r1, r2, r3⟩ := hci W1 (Ext.refl _)
      have HX := Lib.hid (show inputF l p = (aftF l (l[p].after.drop 0)).map ([ls[PN]] ++ ·) by
        rw [HX.out, HOX.out, if_pos ⟨HFZ.out, by omega, by omega⟩]; simp [hpl])
      have hE5 := (Ext.refl W1).alloc (.cells #[.int .u8 k0, .int .i64 n0, .string s0, .slice a0 m0 c0] 44)
      have HBn := Lib.hid (heap_alloc_new W1 (.cells #[.int .u8 k0, .int .i64 n0, .string s0, .slice a0 m0 c0] 44))
      have HLj := Lib.hid hLj
      have HE5 := Lib.hid hE5
      have HB5 := Lib.hid hE5.size
      clear hE5 hLj hci HOX
      go_wp2_with (at_builtin; refine wpList_appOne elemval_F rfl _ _ rfl (base := W1.heap.size) (k := 0) (xs := []) rfl (World.ownsRow_nil _ _ _ _) (news := [.int .u8 k0, .int .i64 n0, .string s0, .slice a0 m0 c0]) rfl HBn.out rfl (by simp [Value.oneCell']) (by omega) (by omega) HB5.out ?_)
      intro v6 w6 hown6 hgr6 hat6
      obtain ⟨gg, cap6, rfl, -, -⟩ := World.ownsRow.form hown6 (by omega)
      obtain ⟨xs0, hr0, hmore⟩ := OldV.more (OldV.nil 44 W1 W1.heap.size W1)
      have HO : Hid (OldV 44 W1 W1.heap.size w6 (.slice (some ⟨gg, 0, none⟩) 1 cap6) [ls[PN]]) := Lib.hid (by
        have hx0 : xs0 = [] := List.eq_nil_of_length_eq_zero (by simpa using hr0.1)
        subst hx0
        exact hmore w6 _ ls[PN] (.int .u8 k0) (.int .i64 n0) (.string s0) (.slice a0 m0 c0) (by simpa using hown6) (fun W hW => HLj.out.ext hW))
      have HE6 := Lib.hid (HE5.out.grown hgr6 (fun k hk => by cases hk))
      clear hown6 hgr6 hat6 HBn HE5 HB5 hr0 hmore r0 r1 r2 r3 d5 HLj HLs f0 f2 f2' hb1 hd0 hd0' hd1 hd1'
      go_wp2_with fail
    case' neg =>
      have f2 : (K == 2) = false := by rw [hk2]; simpa using h2
      have f2' : (K != 2) = true := by rw [bne, f2]; rfl
      by_cases h0 : l[p].kind = 0
      case neg =>
        have f0 : (K == 0) = false := by rw [hk0]; simpa using h0
        have f0' : (K != 0) = true := by rw [bne, f0]; rfl
        have HY := Lib.hid (show inputF l p = none by rw [HX.out, if_neg h2, if_neg h0])
        clear hk0 hk2 h2 h0 HX
        go_wp2
        go_ret2
        exact rinput_no (Ext.refl _) HY.out
      have f0 : (K == 0) = true := by rw [hk0]; simpa using h0
      have f0' : (K != 0) = false := by rw [bne, f0]; rfl
      have HX := Lib.hid (show inputF l p = (aftF l (l[p].after.drop 0)).map ([] ++ ·) by
        rw [HX.out, if_neg h2, if_pos h0, List.drop_zero]
        cases aftF l l[p].after <;> rfl)
      obtain ⟨W1, hW1⟩ : ∃ W1, W1 = w := ⟨_, rfl⟩
      have HO := Lib.hid (OldV.nil 44 W1 W1.heap.size w)
      have HE1 : Hid (Ext w W1) := Lib.hid (by rw [hW1]; exact Ext.refl w)
      have HE6 : Hid (Ext W1 w) := Lib.hid (by rw [hW1]; exact Ext.refl w)
      clear hk0 hk2 h2 h0 q4 q5 q6 hW1
      go_wp2_with fail
      clear f2 f2' f0 f0' q2
    all_goals
      go_loopw [9, 6] (fun i' o wr => ∃ (j : Nat) (A : Option Addr) (n C : Nat) (r : List Tr), j ≤ M ∧ i' = .int .i64 j ∧ o = .slice A n C ∧ n = r.length ∧ n ≤ j + 1 ∧ Hid (Ext W1 wr) ∧ Hid (OldV 44 W1 W1.heap.size wr (.slice A n C) r) ∧ Hid (inputF l p = (aftF l (l[p].after.drop j)).map (r ++ ·))) (fun i' _ _ => M - (intOf i').toNat)
      case atStart => exact ⟨0, _, _, _, _, Nat.zero_le _, rfl, rfl, rfl, (by first | exact Nat.le_refl _ | exact Nat.zero_le _), HE6, HO, HX⟩
      case round =>
        obtain ⟨j, A, n, C, r, hj, rfl, rfl, hnr, hrl, HE, HO, HX⟩ := hrel
        have HEw := Lib.hid (HE1.out.trans HE.out)
        have d6 := (HEw.out.cell (p := ⟨g, off + p * 16 + 6, none⟩) hb).trans Q6.out
        by_cases hlt : j < M
        case neg =>
          obtain rfl : M = j := by omega
          have HY := Lib.hid (aft_drop_end (x := inputF l p) r (by have h := HX.out; rw [HM.out] at h; exact h))
          clear HX hnr
          go_wp2
          go_ret2
          exact rinput_yes HEw.out HY.out (HO.out.lies HE.out)
        have hlt' : j < l[p].after.length := by rw [← HM.out]; exact hlt
        have hrow := HAR.out
        obtain ⟨b3, o3, rfl, hb3, u0, hu0⟩ := int_at hrow HEw.out j hlt'
        have HOK := Lib.hid (fun h => aft_drop_ok hlt' h r HX.out)
        have HNO := Lib.hid (fun h => aft_drop_no hlt' h r HX.out)
        have HC2 := Lib.hid (rplace18_any l l[p].after[j] wr _ (HR.out.ext HEw.out))
        have hj0 : (0 : Int) ≤ (j : Int) := by omega
        have hj1 : (j : Int) < (M : Int) := by omega
        clear HX hrow
        generalize l[p].after[j] = y0 at *
        have HNR := Lib.hid hnr
        clear hnr
        go_wp2_with fail
        refine HC2.out.mono ?_
        rintro e w3 ⟨rfl, rfl⟩
        clear HC2
        cases hpa : placeF l y0 with
        | false =>
          have HY := Lib.hid (HNO.out (fun h => by rw [hpa] at h; cases h.1))
          clear hpa HOK HNO
          go_wp2
          go_ret2
          exact rinput_no HEw.out HY.out
        | true =>
          obtain ⟨hm0, hm1⟩ := place_iff.1 hpa
          obtain ⟨q, rfl⟩ : ∃ q : Nat, y0 = (q : Int) := ⟨y0.toNat, by omega⟩
          have hq : q < l.length := by omega
          obtain ⟨b', off', e', hb', aa', ma', ca', K', N', S', D', ⟨x0, x1, x2, x3, x4, x5, x6, x7, x8, c9, x10, x11, e0, e1, e2, e3⟩, hnv⟩ := nd_at16 HR.out HEw.out q hq
          injection e' with e'
          injection e' with e1' e2'
          subst e1' e2'
          have hs := u8_one (k := l[q].stand) 4
          rw [show (((4 : UInt8).toNat : Nat) : Int) = 4 from rfl] at hs
          obtain ⟨S, hS⟩ : ∃ S, S = (l[q].stand.toNat : Int) := ⟨_, rfl⟩
          rw [← hS] at c9 hs
          have hnq : nthF l (q : Int) = l[q] := nth_at hq
          clear x0 x1 x2 x3 x4 x5 x6 x7 x8 x10 x11 hS hb'
          by_cases h4 : l[q].stand = 4
          case neg =>
            have s1 : (S == 4) = false := by rw [hs]; simpa using h4
            have s2 : (S != 4) = true := by rw [bne, s1]; rfl
            have HY := Lib.hid (HNO.out (fun h => h4 (by rw [hnq] at h; exact h.2)))
            clear hpa HOK HNO hs h4 hnq hnv
            go_wp2
            go_ret2
            exact rinput_no HEw.out HY.out
          have s1 : (S == 4) = true := by rw [hs]; simpa using h4
          have s2 : (S != 4) = false := by rw [bne, s1]; rfl
          have HX := Lib.hid (HOK.out ⟨hpa, by rw [hnq]; exact h4⟩)
          rw [hnq] at HX
          obtain ⟨k0, n0, s0, a0, m0, c0, rfl, rfl, rfl, rfl⟩ := hnv.four
          obtain ⟨-, hx, -⟩ := nd_parts hnv
          have HLx := Lib.hid hx
          clear hpa HOK HNO hs h4 hnq hnv hx hm0 hm1
          obtain ⟨xsr, hrow, hmore⟩ := HO.out.more
          rw [← HNR.out] at hrow hmore
          have hEa := (Ext.refl wr).alloc (.cells #[.int .u8 k0, .int .i64 n0, .string s0, .slice a0 m0 c0] 44)
          have HBn := Lib.hid (heap_alloc_new wr (.cells #[.int .u8 k0, .int .i64 n0, .string s0, .slice a0 m0 c0] 44))
          have HRw : Hid ((wr.alloc (.cells #[.int .u8 k0, .int .i64 n0, .string s0, .slice a0 m0 c0] 44)).ownsRow W1.heap.size 44 4 (.slice A n C) n xsr) := Lib.hid (hEa.own hrow)
          have HMore := Lib.hid hmore
          have HE5 := Lib.hid (HE.out.trans hEa)
          have HB5 := Lib.hid (HE.out.trans hEa).size
          clear hEa hrow hmore
          go_wp2_with (at_builtin; refine wpList_appOne elemval_F rfl _ _ rfl rfl HRw.out (news := [.int .u8 k0, .int .i64 n0, .string s0, .slice a0 m0 c0]) rfl HBn.out rfl (by simp [Value.oneCell']) (by omega) (by omega) HB5.out ?_)
          intro v6 w6 hown6 hgr6 hat6
          obtain ⟨gg, cap6, rfl⟩ := ownsRow_succ hown6
          have HO9 := Lib.hid (HMore.out w6 _ l[q].val (.int .u8 k0) (.int .i64 n0) (.string s0) (.slice a0 m0 c0) hown6 (fun W hW => HLx.out.ext (HE1.out.trans hW)))
          have HE9 := Lib.hid (HE5.out.grown hgr6 (fun k hk => (World.ownsRow.lt HRw.out k hk).1))
          have hl9 : n + 1 = (r ++ [l[q].val]).length := by rw [List.length_append, ← HNR.out]; rfl
          clear hown6 hgr6 hat6 HBn HE5 HRw HO c9 e0 e1 e2 e3 u0 HE HMore
          go_wp2
          go_roundw
          case rel => exact ⟨j + 1, _, _, _, _, by omega, by go_num, rfl, hl9, by omega, HE9, HO9, HX⟩
          case measure => simp [intOf]; omega
end Go.Proofs.YtpcgpcjleedilaaGreatDoor

open Go.RowKit Go.Shelf
namespace Go.Proofs.YtpcgpcjleedilaaGreatDoor
open Go Go.Proofs Fm

/-- What the reference's Values comes to. -/
def RValuesPost (w : World) (l : List Nd) (m : Int) (e : Ending) (w' : World) : Prop :=
  ∃ (k0 n0 : Int) (s0 : ByteArray) (a0 : Option Addr) (m0 c0 : Nat) (b : Bool), e = .returned (.tuple #[.agg #[.int .u8 k0, .int .i64 n0, .string s0, .slice a0 m0 c0], .bool b]) ∧ Ext w w' ∧ (∀ r, valuesF l m = some r → b = true ∧ Lies w' (listV r) (.agg #[.int .u8 k0, .int .i64 n0, .string s0, .slice a0 m0 c0])) ∧ (valuesF l m = none → b = false ∧ Lies w' zT (.agg #[.int .u8 k0, .int .i64 n0, .string s0, .slice a0 m0 c0]))
theorem zT_lies (w : World) : Lies w zT (.agg #[.int .u8 0, .int .i64 0, .string { data := #[] }, .slice none 0 0]) := (num18_own (n := 0) (by unfold isI64; omega) w 0).lies
theorem rvalues_no {w w' : World} {l : List Nd} {m : Int} (hE : Ext w w') (h : valuesF l m = none) : RValuesPost w l m (.returned (.tuple #[.agg #[.int .u8 0, .int .i64 0, .string { data := #[] }, .slice none 0 0], .bool false])) w' :=
  ⟨_, _, _, _, _, _, _, rfl, hE, fun r hr => (by rw [h] at hr; cases hr), fun _ => ⟨rfl, zT_lies w'⟩⟩
theorem rvalues_yes {w w' : World} {l : List Nd} {m : Int} {r : List Tr} {k0 n0 : Int} {s0 : ByteArray} {a0 : Option Addr} {m0 c0 : Nat} (hE : Ext w w') (h : valuesF l m = some r) (ho : Lies w' (listV r) (.agg #[.int .u8 k0, .int .i64 n0, .string s0, .slice a0 m0 c0])) : RValuesPost w l m (.returned (.tuple #[.agg #[.int .u8 k0, .int .i64 n0, .string s0, .slice a0 m0 c0], .bool true])) w' :=
  ⟨_, _, _, _, _, _, _, rfl, hE, fun q hq => (by rw [h] at hq; injection hq with hq; subst hq; exact ⟨rfl, ho⟩), fun hn => (by rw [h] at hn; cases hn)⟩
theorem own_kO {B n c k : Nat} (h : (Value.slice (some ⟨B, 0, none⟩) n c).ownBlock = some k) : B = k := by simpa [Value.ownBlock] using h
theorem eachs_more (l : List Nd) (m : Int) (j : Nat) (hj : j < l.length) : ((l.take (j + 1)).filter (isEach m)).length = ((l.take j).filter (isEach m)).length + if isEach m l[j] = true then 1 else 0 := by
  rw [List.take_add_one, List.getElem?_eq_getElem hj, List.filter_append]
  by_cases h : isEach m l[j] = true <;> simp [h]
set_option maxRecDepth 100000 in
set_option maxHeartbeats 4000000 in
theorem rvalues18_any (l : List Nd) (m : Int) (hlen : l.length ≤ 900) (w : World) (v : Value) (h : ndE.Row w l v) :
    Calls Tryz.prog 36 #[v, .int .i64 m] w (RValuesPost w l m) := by
  have HR := Lib.hid h
  obtain ⟨a, c, rfl, hc1, hc2⟩ := h.slice
  have HX := Lib.hid (show valuesF l m = if placeF l m && decide ((nthF l m).kind = 1) then valsF (l.filter (isEach m)).length l m else none from rfl)
  have hB0 := Box4.new w (.int .u8 0) (.int .i64 0) (.string { data := #[] }) (.slice none 0 0)
  have hE0 := (Ext.refl w).alloc (.cells #[.int .u8 0, .int .i64 0, .string { data := #[] }, .slice none 0 0] 44)
  clear h
  go_enter Tryz.func36, Tryz.ntmps36
  go_upto_region 1 with (fail)
  generalize w.alloc (.cells #[.int .u8 0, .int .i64 0, .string { data := #[] }, .slice none 0 0] 44) = W1 at *
  have HC := Lib.hid (rplace18_any l m W1 _ (HR.out.ext hE0))
  have HE0 := Lib.hid hE0
  have HB0 := Lib.hid hB0
  have ⟨p0, p1, p2, p3⟩ := hB0.cells
  have ⟨z0, z1, z2, z3⟩ := hB0.frozen
  clear hE0 hB0
  go_wp2_with fail
  refine HC.out.mono ?_
  rintro e w1 ⟨rfl, rfl⟩
  clear HC
  cases hpl : placeF l m with
  | false =>
    have HY := Lib.hid (show valuesF l m = none by rw [HX.out, hpl]; rfl)
    clear hpl HX
    go_wp2
    change bodyPost _ _ _ _ _ (set4W W1 w.heap.size (.int .u8 0) (.int .i64 0) (.string { data := #[] }) (.slice none 0 0))
    obtain ⟨hE2, hb2, -⟩ := set4_facts (k := .int .u8 0) (n := .int .i64 0) (s := .string { data := #[] }) (d := .slice none 0 0) HE0.out HB0.out (Nat.le_refl _)
    generalize set4W W1 w.heap.size (.int .u8 0) (.int .i64 0) (.string { data := #[] }) (.slice none 0 0) = W3 at *
    obtain ⟨y0, y1, y2, y3⟩ := hb2.cells
    refine bodyPost_ret (v := .tuple #[.agg #[.int .u8 0, .int .i64 0, .string { data := #[] }, .slice none 0 0], .bool false]) (by simp [results, Tryz.results36, go_sem, y0, y1, y2, y3]) rfl ?_
    exact rvalues_no hE2 HY.out
  | true =>
    obtain ⟨hm0, hm1⟩ := place_iff.1 hpl
    obtain ⟨i, rfl⟩ : ∃ i : Nat, m = (i : Int) := ⟨m.toNat, by omega⟩
    have hi : i < l.length := by omega
    have HX := Lib.hid (show valuesF l i = if l[i].kind = 1 then valsF (l.filter (isEach i)).length l i else none by rw [HX.out, hpl, nth_at hi]; simp)
    obtain ⟨b, off, rfl, hb, aa, ma, ca, K', N', S', D', ⟨y0, y1, c2, y3, y4, y5, y6, y7, y8, y9, y10, y11, y12, y13, y14, y15⟩, -⟩ := nd_at16 HR.out HE0.out i hi
    clear y0 y1 y3 y4 y5 y6 y7 y8 y9 y10 y11 y12 y13 y14 y15 hm0 hm1 hpl
    have hk := u8_one (k := l[i].kind) 1
    rw [show (((1 : UInt8).toNat : Nat) : Int) = 1 from rfl] at hk
    obtain ⟨K, hK⟩ : ∃ K, K = (l[i].kind.toNat : Int) := ⟨_, rfl⟩
    rw [← hK] at c2 hk
    clear hK
    by_cases h1 : l[i].kind = 1
    case neg =>
      have f1 : (K == 1) = false := by rw [hk]; simpa using h1
      have f2 : (K != 1) = true := by rw [bne, f1]; rfl
      have HY := Lib.hid (show valuesF l i = none by rw [HX.out, if_neg h1])
      clear hk h1 HX
      go_wp2
      change bodyPost _ _ _ _ _ (set4W W1 w.heap.size (.int .u8 0) (.int .i64 0) (.string { data := #[] }) (.slice none 0 0))
      obtain ⟨hE2, hb2, -⟩ := set4_facts (k := .int .u8 0) (n := .int .i64 0) (s := .string { data := #[] }) (d := .slice none 0 0) HE0.out HB0.out (Nat.le_refl _)
      generalize set4W W1 w.heap.size (.int .u8 0) (.int .i64 0) (.string { data := #[] }) (.slice none 0 0) = W3 at *
      obtain ⟨y0, y1, y2, y3⟩ := hb2.cells
      refine bodyPost_ret (v := .tuple #[.agg #[.int .u8 0, .int .i64 0, .string { data := #[] }, .slice none 0 0], .bool false]) (by simp [results, Tryz.results36, go_sem, y0, y1, y2, y3]) rfl ?_
      exact rvalues_no hE2 HY.out
    have f1 : (K == 1) = true := by rw [hk]; simpa using h1
    have f2 : (K != 1) = false := by rw [bne, f1]; rfl
    have HX := Lib.hid (show valuesF l i = valsF (l.filter (isEach i)).length l i by rw [HX.out, if_pos h1])
    obtain ⟨LL, hLL⟩ : ∃ LL, LL = l.length := ⟨_, rfl⟩
    rw [← hLL] at hc1 hlen ⊢
    have HLL := Lib.hid hLL
    have hiL : i < LL := by omega
    clear hk h1 hLL p0 p1 p2 p3 z0 z1 z2 z3
    go_upto_region 3 with (fail)
    clear c2 f1 f2
    go_wp2_with fail
    go_loopw [6, 7] (fun n' i' wr => ∃ (j n : Nat), W1 = wr ∧ j ≤ LL ∧ i' = .int .i64 j ∧ n' = .int .i64 n ∧ n ≤ j ∧ Hid (n = ((l.take j).filter (isEach i)).length)) (fun _ i' _ => LL - (intOf i').toNat)
    case atStart => exact ⟨0, 0, rfl, by omega, rfl, rfl, by omega, Lib.hid (by simp)⟩
    case round =>
      obtain ⟨j, n, hwr, hj, rfl, rfl, hnj, HN⟩ := hrel
      obtain rfl : W1 = _ := hwr
      by_cases hlt : j < LL
      case pos =>
        have hji : (j : Int) < (LL : Int) := by omega
        have hjl : j < l.length := by rw [← HLL.out]; exact hlt
        obtain ⟨b', off', e', hb', aa, ma, ca, K', N', S', D', ⟨y0, y1, c2, y3, c4, y5, y6, y7, y8, y9, y10, y11, y12, y13, y14, y15⟩, -⟩ := nd_at16 HR.out HE0.out j hjl
        injection e' with e'
        injection e' with e1' e2'
        subst e1' e2'
        have hk := u8_one (k := l[j].kind) 2
        rw [show (((2 : UInt8).toNat : Nat) : Int) = 2 from rfl] at hk
        have hmo := eachs_more l i j hjl
        have hie : isEach (i : Int) l[j] = (decide (l[j].kind = 2) && decide (l[j].owner = (i : Int))) := rfl
        obtain ⟨K, hK⟩ : ∃ K, K = (l[j].kind.toNat : Int) := ⟨_, rfl⟩
        obtain ⟨OW, hOW⟩ : ∃ OW, OW = l[j].owner := ⟨_, rfl⟩
        rw [← hK] at c2 hk
        rw [← hOW] at c4 hie
        rw [← hk] at hie
        have HMO := Lib.hid hmo
        have HIE := Lib.hid hie
        clear y0 y1 y3 y5 y6 y7 y8 y9 y10 y11 y12 y13 y14 y15 hK hOW hmo hie hk hb'
        cases h2 : (K == 2)
        case false =>
          have HN' := Lib.hid (show n = ((l.take (j + 1)).filter (isEach i)).length by rw [HMO.out, HIE.out, h2, ← HN.out]; rfl)
          clear HN HMO HIE
          go_wp2
          go_roundw
          case rel => exact ⟨j + 1, n, trivial, by omega, by go_num, rfl, by omega, HN'⟩
          case measure => simp [intOf]; omega
        case true =>
          cases h4 : (OW == (i : Int))
          case false =>
            have HN' := Lib.hid (show n = ((l.take (j + 1)).filter (isEach i)).length by
              have hd : decide (OW = (i : Int)) = false := by simpa using h4
              rw [HMO.out, HIE.out, h2, hd, ← HN.out]; rfl)
            clear HN HMO HIE
            go_wp2
            go_roundw
            case rel => exact ⟨j + 1, n, trivial, by omega, by go_num, rfl, by omega, HN'⟩
            case measure => simp [intOf]; omega
          case true =>
            have HN' := Lib.hid (show n + 1 = ((l.take (j + 1)).filter (isEach i)).length by
              have hd : decide (OW = (i : Int)) = true := by simpa using h4
              rw [HMO.out, HIE.out, h2, hd, ← HN.out]; rfl)
            clear HN HMO HIE
            go_wp2
            go_roundw
            case rel => exact ⟨j + 1, n + 1, trivial, by omega, by go_num, by go_num, by omega, HN'⟩
            case measure => simp [intOf]; omega
      obtain rfl : LL = j := by omega
      obtain ⟨N, hN⟩ : ∃ N : Nat, N = n := ⟨_, rfl⟩
      subst hN
      have HNF := Lib.hid (show N = (l.filter (isEach i)).length by have h := HN.out; rw [HLL.out, List.take_length] at h; exact h)
      have HX := Lib.hid (show valuesF l i = valsF N l i by rw [HX.out, HNF.out])
      have hE3 := (Ext.refl W1).alloc (.cells #[.int .u8 2, .int .i64 0, .string { data := #[] }, .slice none 0 0] 44)
      have hV := Box4.new W1 (.int .u8 2) (.int .i64 0) (.string { data := #[] }) (.slice none 0 0)
      have hB3 := HB0.out.ext hE3
      have hE03 := HE0.out.trans hE3
      have hz2 : w.heap.size < W1.heap.size := HB0.out.lt
      clear HN hlt
      go_upto_region 10 with (fail)
      generalize W1.alloc (.cells #[.int .u8 2, .int .i64 0, .string { data := #[] }, .slice none 0 0] 44) = W3 at *
      obtain ⟨V, hVe⟩ : ∃ V, V = W1.heap.size := ⟨_, rfl⟩
      rw [← hVe] at hV hz2 ⊢
      have HE3 := Lib.hid hE03
      have HV3 := Lib.hid hV
      have HB3 := Lib.hid hB3
      clear hVe hE3 hE03 hV hB3
      go_wp2_with fail
      go_loopw [9] (fun k' wr => ∃ (k : Nat) (A : Option Addr) (n C : Nat) (r : List Tr), k ≤ N ∧ k' = .int .i64 k ∧ n = r.length ∧ n = k ∧ Hid (Ext w wr) ∧ Hid (Box4 wr V (.int .u8 2) (.int .i64 0) (.string { data := #[] }) (.slice A n C)) ∧ Hid (Box4 wr w.heap.size (.int .u8 0) (.int .i64 0) (.string { data := #[] }) (.slice none 0 0)) ∧
        Hid (valsF k l i = some r) ∧ Hid (OldV 44 w (V + 1) wr (.slice A n C) r) ∧ V + 1 ≤ wr.heap.size) (fun k' _ => N - (intOf k').toNat)
      case atStart => exact ⟨0, _, _, _, [], by omega, rfl, rfl, rfl, HE3, HV3, HB3, Lib.hid rfl, Lib.hid (OldV.nil _ _ _ _), by have := HV3.out.lt; omega⟩
      case round =>
        clear HE3 HV3 HB3
        obtain ⟨k, A, n, C, r, hk, rfl, hnr, rfl, HE, HV, HB, HVS, HO, hsz⟩ := hrel
        rename World => wr
        have HNR := Lib.hid hnr
        clear hnr
        by_cases hkN : n < N
        case neg =>
          obtain rfl : N = n := by omega
          have HY := Lib.hid (show valuesF l i = some r by rw [HX.out, HVS.out])
          obtain ⟨d0, d1, d2, d3⟩ := HV.out.cells
          obtain ⟨p0, p1, p2, p3⟩ := HB.out.cells
          obtain ⟨q0, q1, q2, q3⟩ := HB.out.frozen
          clear HX HVS hkN
          go_wp2
          change bodyPost _ _ _ _ _ (set4W wr w.heap.size (.int .u8 2) (.int .i64 0) (.string { data := #[] }) (.slice A N C))
          obtain ⟨hE2, hb2, hg2⟩ := set4_facts (k := .int .u8 2) (n := .int .i64 0) (s := .string { data := #[] }) (d := .slice A N C) HE.out HB.out (Nat.le_refl _)
          have hO2 := HO.out.kept hg2 (fun b hb e => by injection e with e; have := (HO.out.lt b hb).1; omega)
          generalize set4W wr w.heap.size (.int .u8 2) (.int .i64 0) (.string { data := #[] }) (.slice A N C) = W5 at *
          obtain ⟨y0, y1, y2, y3⟩ := hb2.cells
          refine bodyPost_ret (v := .tuple #[.agg #[.int .u8 2, .int .i64 0, .string { data := #[] }, .slice A N C], .bool true]) (by simp [results, Tryz.results36, go_sem, y0, y1, y2, y3]) rfl ?_
          exact rvalues_yes hE2 HY.out (list18_lies (hO2.lies hE2))
        have hE4 := (Ext.refl wr).alloc (.cells #[.int .u8 0, .int .i64 0, .string { data := #[] }, .slice none 0 0] 44)
        have hX := Box4.new wr (.int .u8 0) (.int .i64 0) (.string { data := #[] }) (.slice none 0 0)
        have HE4 := Lib.hid (HE.out.trans hE4)
        have HV4 := Lib.hid (HV.out.ext hE4)
        have HB4 := Lib.hid (HB.out.ext hE4)
        have HO4 := Lib.hid (HO.out.ext hE4)
        have hlv := HV.out.lt
        have hlb := HB.out.lt
        have hob := Lib.hid (fun b hb => (HO.out.lt b hb).2)
        have hn1 : (n : Int) < (N : Int) := by omega
        clear HE HV HB HO hE4
        go_upto_region 15 with (fail)
        generalize wr.alloc (.cells #[.int .u8 0, .int .i64 0, .string { data := #[] }, .slice none 0 0] 44) = W6 at *
        obtain ⟨XB, hXB⟩ : ∃ XB, XB = wr.heap.size := ⟨_, rfl⟩
        rw [← hXB] at hX hlv hlb hsz hob ⊢
        have HX6 := Lib.hid hX
        have hX6 := hX.lt
        clear hXB hX
        go_wp2_with fail
        go_loopw [10, 12] (fun f' i' wx => ∃ (j n' : Nat) (k0 n0 : Int) (s0 : ByteArray) (a0 : Option Addr) (m0 c0 : Nat), j ≤ LL ∧ i' = .int .i64 j ∧ f' = .int .i64 n' ∧ n' ≤ j ∧ Hid (n' = cntR l i n j) ∧ Hid (W6.grownBy wx (some XB)) ∧ Hid (Box4 wx XB (.int .u8 k0) (.int .i64 n0) (.string s0) (.slice a0 m0 c0)) ∧ Hid (∀ W, Ext w W → Lies W (valR l i n j) (.agg #[.int .u8 k0, .int .i64 n0, .string s0, .slice a0 m0 c0]))) (fun _ i' _ => LL - (intOf i').toNat)
        case atStart => exact ⟨0, 0, _, _, _, _, _, _, by omega, rfl, rfl, by omega, Lib.hid (cntR_zero l i n).symm, Lib.hid (grown_ext (Ext.refl W6) _), HX6, Lib.hid (fun W _ => zT_lies W)⟩
        case round =>
          clear HX6
          obtain ⟨j, n', k0, n0, s0, a0, m0, c0, hj, rfl, rfl, hnj, HCN, HG, HBx, HLx⟩ := hrel
          rename World => wx
          have HEx := Lib.hid (HE4.out.grown HG.out (fun k hk => by injection hk with hk; omega))
          by_cases hlt : j < LL
          case pos =>
            have hji : (j : Int) < (LL : Int) := by omega
            have hjl : j < l.length := by rw [← HLL.out]; exact hlt
            obtain ⟨b', off', e', hb', aa, ma, ca, K', N', S', D', ⟨y0, y1, c2, y3, c4, c5, y6, y7, y8, c9, y10, y11, e0, e1, e2, e3⟩, hnv⟩ := nd_at16 HR.out HEx.out j hjl
            injection e' with e'
            injection e' with e1' e2'
            subst e1' e2'
            have hk2 := u8_one (k := l[j].kind) 2
            rw [show (((2 : UInt8).toNat : Nat) : Int) = 2 from rfl] at hk2
            have hs4 := u8_one (k := l[j].stand) 4
            rw [show (((4 : UInt8).toNat : Nat) : Int) = 4 from rfl] at hs4
            have hcm := cntR_succ l i n j hjl
            have hvm := valR_succ l i n j hjl
            have hie : doneAt (i : Int) (n : Int) l[j] = (decide (l[j].kind = 2) && decide (l[j].owner = (i : Int)) && decide (l[j].stand = 4) && decide (l[j].place = (n : Int))) := rfl
            obtain ⟨K, hK⟩ : ∃ K, K = (l[j].kind.toNat : Int) := ⟨_, rfl⟩
            obtain ⟨S, hS⟩ : ∃ S, S = (l[j].stand.toNat : Int) := ⟨_, rfl⟩
            obtain ⟨OW, hOW⟩ : ∃ OW, OW = l[j].owner := ⟨_, rfl⟩
            obtain ⟨PL, hPL⟩ : ∃ PL, PL = l[j].place := ⟨_, rfl⟩
            rw [← hK] at c2 hk2
            rw [← hS] at c9 hs4
            rw [← hOW] at c4 hie
            rw [← hPL] at c5 hie
            rw [← hk2, ← hs4, show decide (OW = (i : Int)) = (OW == (i : Int)) from rfl, show decide (PL = (n : Int)) = (PL == (n : Int)) from rfl] at hie
            obtain ⟨k1, n1, s1, a1, m1, c1, rfl, rfl, rfl, rfl⟩ := hnv.four
            obtain ⟨-, hx, -⟩ := nd_parts hnv
            have HLv := Lib.hid hx
            have HCM := Lib.hid hcm
            have HVM := Lib.hid hvm
            have HIE := Lib.hid hie
            clear y0 y1 y3 y6 y7 y8 y10 y11 hK hS hOW hPL hcm hvm hie hk2 hs4 hb' hnv hx
            have NO : Hid ((doneAt (i : Int) (n : Int) l[j] = false) → n' = cntR l i n (j + 1) ∧ ∀ W, Ext w W → Lies W (valR l i n (j + 1)) (.agg #[.int .u8 k0, .int .i64 n0, .string s0, .slice a0 m0 c0])) := Lib.hid (fun hd => by
              rw [HCM.out, HVM.out, hd, ← HCN.out]
              exact ⟨rfl, HLx.out⟩)
            have YES : Hid ((doneAt (i : Int) (n : Int) l[j] = true) → n' + 1 = cntR l i n (j + 1) ∧ ∀ W, Ext w W → Lies W (valR l i n (j + 1)) (.agg #[.int .u8 k1, .int .i64 n1, .string s1, .slice a1 m1 c1])) := Lib.hid (fun hd => by
              rw [HCM.out, HVM.out, hd, ← HCN.out]
              exact ⟨rfl, fun W hW => HLv.out.ext hW⟩)
            clear HCM HVM HCN HLx HLv
            cases h2 : (K == 2)
            case false =>
              obtain ⟨u1, u2⟩ := NO.out (by rw [HIE.out, h2]; rfl)
              have U1 := Lib.hid u1
              have U2 := Lib.hid u2
              clear u1 u2 NO YES HIE
              go_wp2
              go_roundw
              case rel => exact ⟨j + 1, n', _, _, _, _, _, _, by omega, by go_num, rfl, by omega, U1, HG, HBx, U2⟩
              case measure => simp [intOf]; omega
            case true =>
            cases h4 : (OW == (i : Int))
            case false =>
              obtain ⟨u1, u2⟩ := NO.out (by rw [HIE.out, h2, h4]; rfl)
              have U1 := Lib.hid u1
              have U2 := Lib.hid u2
              clear u1 u2 NO YES HIE
              go_wp2
              go_roundw
              case rel => exact ⟨j + 1, n', _, _, _, _, _, _, by omega, by go_num, rfl, by omega, U1, HG, HBx, U2⟩
              case measure => simp [intOf]; omega
            case true =>
            cases h5 : (PL == (n : Int))
            case false =>
              obtain ⟨u1, u2⟩ := NO.out (by rw [HIE.out, h2, h4, h5]; simp)
              have U1 := Lib.hid u1
              have U2 := Lib.hid u2
              clear u1 u2 NO YES HIE
              go_wp2
              go_roundw
              case rel => exact ⟨j + 1, n', _, _, _, _, _, _, by omega, by go_num, rfl, by omega, U1, HG, HBx, U2⟩
              case measure => simp [intOf]; omega
            case true =>
            cases h9 : (S == 4)
            case false =>
              obtain ⟨u1, u2⟩ := NO.out (by rw [HIE.out, h2, h4, h9]; simp)
              have U1 := Lib.hid u1
              have U2 := Lib.hid u2
              clear u1 u2 NO YES HIE
              go_wp2
              go_roundw
              case rel => exact ⟨j + 1, n', _, _, _, _, _, _, by omega, by go_num, rfl, by omega, U1, HG, HBx, U2⟩
              case measure => simp [intOf]; omega
            case true =>
            obtain ⟨u1, u2⟩ := YES.out (by rw [HIE.out, h2, h4, h5, h9]; rfl)
            have U1 := Lib.hid u1
            have U2 := Lib.hid u2
            obtain ⟨t0, t1, t2, t3⟩ := HBx.out.cells
            obtain ⟨z0, z1, z2, z3⟩ := HBx.out.frozen
            obtain ⟨-, hb2, hg2⟩ := set4_facts (k := .int .u8 k1) (n := .int .i64 n1) (s := .string s1) (d := .slice a1 m1 c1) HEx.out HBx.out (by omega)
            have HB9 := Lib.hid hb2
            have HG9 := Lib.hid (grown_trans HG.out hg2)
            have hnL : n' + 1 ≤ 1000000 := by omega
            clear u1 u2 NO YES HIE hb2 hg2
            go_wp2
            go_roundw
            case rel => exact ⟨j + 1, n' + 1, _, _, _, _, _, _, by omega, by go_num, by go_num, by omega, U1, HG9, HB9, U2⟩
            case measure => simp [intOf]; omega
          obtain rfl : LL = j := by omega
          have HCF := Lib.hid (show n' = cntF l i n by rw [HCN.out, HLL.out, cntR_all])
          have HEF := Lib.hid HEx.out
          have hB7 := HB4.out.kept HG.out (fun e => by injection e with e; omega)
          have hV7 := HV4.out.kept HG.out (fun e => by injection e with e; omega)
          have hO7 := HO4.out.kept HG.out (fun b hb e => by injection e with e; have := hob.out b hb; omega)
          clear HEx HCN hlt
          by_cases h1 : n' = 1
          case neg =>
            have f1 : ((n' : Int) != 1) = true := by simp; omega
            have HY := Lib.hid (show valuesF l i = none by
              rw [HX.out, HNF.out]
              exact vals_dead (k := n) (by rw [← HNF.out]; exact hkN) (by rw [← HCF.out]; exact h1))
            obtain ⟨p0, p1, p2, p3⟩ := hB7.cells
            obtain ⟨q0, q1, q2, q3⟩ := hB7.frozen
            have HBB := Lib.hid hB7
            clear h1 HX HCF HVS hB7 hV7 hO7
            go_wp2
            change bodyPost _ _ _ _ _ (set4W wx w.heap.size (.int .u8 0) (.int .i64 0) (.string { data := #[] }) (.slice none 0 0))
            obtain ⟨hE2, hb2, -⟩ := set4_facts (k := .int .u8 0) (n := .int .i64 0) (s := .string { data := #[] }) (d := .slice none 0 0) HEF.out HBB.out (Nat.le_refl _)
            generalize set4W wx w.heap.size (.int .u8 0) (.int .i64 0) (.string { data := #[] }) (.slice none 0 0) = W5 at *
            obtain ⟨y0, y1, y2, y3⟩ := hb2.cells
            refine bodyPost_ret (v := .tuple #[.agg #[.int .u8 0, .int .i64 0, .string { data := #[] }, .slice none 0 0], .bool false]) (by simp [results, Tryz.results36, go_sem, y0, y1, y2, y3]) rfl ?_
            exact rvalues_no hE2 HY.out
          have hcf1 : cntF l i n = 1 := by rw [← HCF.out]; exact h1
          have HV2 := Lib.hid (show valsF (n + 1) l i = some (r ++ [valR l i n LL]) by rw [valsF, HVS.out, Option.bind_some, valR_all hcf1, HLL.out]; rfl)
          subst h1
          obtain ⟨d0, d1, d2, d3⟩ := hV7.cells
          obtain ⟨-, -, -, z3⟩ := hV7.frozen
          obtain ⟨t0, t1, t2, t3⟩ := HBx.out.cells
          obtain ⟨xsr, hrow, hmore⟩ := hO7.more
          rw [← HNR.out] at hrow hmore
          have hEa := (Ext.refl wx).alloc (.cells #[.int .u8 k0, .int .i64 n0, .string s0, .slice a0 m0 c0] 44)
          have HBn := Lib.hid (heap_alloc_new wx (.cells #[.int .u8 k0, .int .i64 n0, .string s0, .slice a0 m0 c0] 44))
          have HRw : Hid ((wx.alloc (.cells #[.int .u8 k0, .int .i64 n0, .string s0, .slice a0 m0 c0] 44)).ownsRow (V + 1) 44 4 (.slice A n C) n xsr) := Lib.hid (hEa.own hrow)
          have HMore := Lib.hid hmore
          have HE5 := Lib.hid (HEF.out.trans hEa)
          have HV5 := Lib.hid (hV7.ext hEa)
          have HB5 := Lib.hid (hB7.ext hEa)
          have hsx : V + 1 ≤ (wx.alloc (.cells #[.int .u8 k0, .int .i64 n0, .string s0, .slice a0 m0 c0] 44)).heap.size := by have := hV7.lt; have := hEa.size; omega
          have hzw : w.heap.size ≤ V + 1 := by omega
          have hn6 : n ≤ 900 := by
            have h1 : N ≤ l.length := by rw [HNF.out]; exact List.length_filter_le _ _
            have := HLL.out
            omega
          clear hcf1 hB7 hV7 hO7 hrow hmore hEa HVS HCF
          go_wp2_with (at_builtin; refine wpList_appOne elemval_F rfl _ _ rfl rfl HRw.out (news := [.int .u8 k0, .int .i64 n0, .string s0, .slice a0 m0 c0]) rfl HBn.out rfl (by simp [Value.oneCell']) (by omega) (by omega) hsx ?_)
          intro v6 w6 hown6 hgr6 hat6
          have hro : ∀ b, (Value.slice A n C).ownBlock = some b → V + 1 ≤ b := fun b hb => (World.ownsRow.lt HRw.out b hb).1
          obtain ⟨gg, cap6, rfl⟩ := ownsRow_succ hown6
          have hgg : V + 1 ≤ gg := (World.ownsRow.lt hown6 gg rfl).1
          have hV6 := HV5.out.kept hgr6 (fun e => by have := hro _ e; omega)
          have hB6 := HB5.out.kept hgr6 (fun e => by have := hro _ e; omega)
          have hE6 := HE5.out.grown hgr6 (fun k hk => by have := hro _ hk; omega)
          have hO6 := HMore.out w6 _ (valR l i n LL) (.int .u8 k0) (.int .i64 n0) (.string s0) (.slice a0 m0 c0) hown6 HLx.out
          obtain ⟨-, -, -, d6⟩ := hV6.cells
          obtain ⟨-, -, -, z6⟩ := hV6.frozen
          have hgs := grown_set w6 V 3 (.slice (some ⟨gg, 0, none⟩) (n + 1) cap6)
          have HV9 := Lib.hid (hV6.set3 (.slice (some ⟨gg, 0, none⟩) (n + 1) cap6))
          have HB9 := Lib.hid (hB6.kept hgs (fun e => by injection e with e; omega))
          have HE9 := Lib.hid (hE6.grown hgs (fun k hk => by injection hk with hk; omega))
          have HO9 := Lib.hid (hO6.kept hgs (fun b hb e => by have := own_kO hb; injection e with e; omega))
          have hsz9 : V + 1 ≤ (w6.setCell ⟨V, 3, none⟩ (.slice (some ⟨gg, 0, none⟩) (n + 1) cap6)).heap.size := by have := hgs.size; have := hV6.lt; omega
          have HL9 := Lib.hid (show n + 1 = (r ++ [valR l i n LL]).length by rw [List.length_append, ← HNR.out]; rfl)
          clear hown6 hgr6 hat6 HBn HE5 HRw HMore HV5 HB5 hV6 hB6 hE6 hO6 hgs t0 t1 t2 t3 d0 d1 d2 d3 z3 HV4 HB4 HO4 HBx HLx
          go_wp2
          go_roundw
          case rel => exact ⟨n + 1, _, _, _, _, by omega, by go_num, HL9.out, rfl, HE9, HV9, HB9, HV2, HO9, hsz9⟩
          case measure => simp [intOf]; omega
end Go.Proofs.YtpcgpcjleedilaaGreatDoor

open Go.RowKit Go.Shelf
namespace Go.Proofs.YtpcgpcjleedilaaGreatDoor
open Go Go.Proofs Fm

theorem str_add {P : Program} (a b : List UInt8) (h : a.length + b.length ≤ 9223372036854775807) (w : World) : (Op.stringOp .add (str a) (str b)).run P w = .ok (.string (str (a ++ b))) w := by
  have h' : ¬ (str a).size + (str b).size > 9223372036854775807 := by rw [str_size, str_size]; omega
  rw [run_string_add_if, if_neg h']
  unfold str; rw [ByteArray.mk_append_mk]

end Go.Proofs.YtpcgpcjleedilaaGreatDoor

open Go.RowKit Go.Shelf
namespace Go.Proofs.YtpcgpcjleedilaaGreatDoor
open Go Go.Proofs Fm

theorem bytes_one (w : World) {x : UInt8} {z : Int} (hz : (x.toNat : Int) = z) : Bytes (w.alloc (.cells #[.int .u8 z] 5)) (.slice (some ⟨w.heap.size, 0, none⟩) 1 1) [x] := by
  refine Bytes.mk rfl (by simp) (by unfold maxLen; omega) (by simp) (fun j hj => ?_)
  obtain rfl : j = 0 := by simpa using hj
  have h := heap_alloc_new w (.cells #[.int .u8 z] 5)
  have e : (w.alloc (.cells #[.int .u8 z] 5)).cell? ⟨w.heap.size, 0 + 0, none⟩ = some (.int .u8 z) := by
    simp only [World.cell?]
    rw [h]; rfl
  rw [e]; simp [bv, hz]
theorem conv_one (w : World) {x : UInt8} {z : Int} (hz : (x.toNat : Int) = z) :
    (convert 66 9 (.slice (some ⟨w.heap.size, 0, none⟩) 1 1)).run Tryz.prog (w.alloc (.cells #[.int .u8 z] 5)) = .ok (.string (str [x])) (w.alloc (.cells #[.int .u8 z] 5)) :=
  conv_bytes (P := Tryz.prog) (src := 66) (dst := 9) (e := 5) Tryz.underlying66 Tryz.underlying5 Tryz.underlying9 (bytes_one w hz)

theorem decDigits_le20 {u : Nat} (h : u < 18446744073709551616) : (Lib.decDigits u).length ≤ 20 :=
  decDigits_le 19 u (by have : (10 : Nat) ^ 20 = 100000000000000000000 := by decide
                        omega)

end Go.Proofs.YtpcgpcjleedilaaGreatDoor

open Go.RowKit Go.Shelf
namespace Go.Proofs.YtpcgpcjleedilaaGreatDoor
open Go Go.Proofs Fm

theorem PthOwn.kept {e : TypeId} {base : Nat} {w w' : World} {p : Pth} {v : Value} {row : Option Nat} (h : PthOwn e base w p v) (hg : w.grownBy w' row) (hr : ∀ b, row = some b → b < base) : PthOwn e base w' p v := by
  obtain ⟨a, m, c, h1, h2, h3⟩ := h
  exact ⟨a, m, c, h1, h2.kept hg hr, h3⟩
theorem PthOwn.mono {e : TypeId} {base base' : Nat} {w : World} {p : Pth} {v : Value} (h : PthOwn e base w p v) (hb : base' ≤ base) : PthOwn e base' w p v := by
  obtain ⟨a, m, c, h1, h2, h3⟩ := h
  exact ⟨a, m, c, h1, h2.mono hb, h3⟩
end Go.Proofs.YtpcgpcjleedilaaGreatDoor

namespace Fm
open Go Go.RowKit

def p3 : Pth := ⟨3, []⟩
end Fm

open Go.RowKit Go.Shelf
namespace Go.Proofs.YtpcgpcjleedilaaGreatDoor
open Go Go.Proofs Fm

/-- A row of steps as the source of an append. -/
theorem Src.steps {w wr : World} {l : List Stp} {a : Option Addr} {n c : Nat} (h : stpE.Row w l (.slice a n c)) (hE : Ext w wr) : Src Tryz.prog 2 22 (.slice a n c) l.length (stpsCells l) wr := by
  obtain ⟨a', c', e, h1, h2⟩ := h.slice
  injection e with e1 e2 e3
  subst e1 e2 e3
  cases a with
  | none =>
    have h0 : l = [] := by
      cases l with
      | nil => rfl
      | cons x l =>
        obtain ⟨b, off, e, _⟩ := stp_at h (Ext.refl w) 0 (by simp)
        cases e
    subst h0
    exact Src.ofNil _ Tryz.underlying22 c
  | some ad =>
    obtain ⟨b, off, ae⟩ := ad
    refine Src.ofSlice _ Tryz.underlying22 _ _ _ _ (stpsCells_len l) (fun j u hj => ?_) (stpsCells_one l)
    have hne : l ≠ [] := by rintro rfl; simp [stpsCells] at hj
    obtain ⟨b', off', e, _⟩ := stp_at h (Ext.refl w) 0 (List.length_pos_iff.2 hne)
    cases e
    exact stpRow_cells h hE j u hj
end Go.Proofs.YtpcgpcjleedilaaGreatDoor

namespace Fm
open Go Go.RowKit

/-- Digits at a text's begin, at most so many: their number, and how many they are. -/
def rnum : Nat → Int → List UInt8 → Int × Nat
  | 0, n, _ => (n, 0)
  | _ + 1, n, [] => (n, 0)
  | f + 1, n, c :: r => if digB c = true then ((rnum f (n * 10 + ((c.toNat : Int) - 48)) r).1, (rnum f (n * 10 + ((c.toNat : Int) - 48)) r).2 + 1) else (n, 0)
theorem rnum_le : ∀ (f : Nat) (n : Int) (l : List UInt8), (rnum f n l).2 ≤ f ∧ (rnum f n l).2 ≤ l.length
  | 0, n, l => by simp [rnum]
  | f + 1, n, [] => by simp [rnum]
  | f + 1, n, c :: r => by
    have h := rnum_le f (n * 10 + ((c.toNat : Int) - 48)) r
    rw [rnum]
    split
    · simp only [List.length_cons]; omega
    · simp
def digV (n : Int) (l : List UInt8) : Int := l.foldl (fun a c => a * 10 + ((c.toNat : Int) - 48)) n
theorem rnum_digits : ∀ (ds : List UInt8) (f : Nat) (n : Int) (r : List UInt8), (∀ c, c ∈ ds → digB c = true) → ds.length < f → (∀ c, r.head? = some c → digB c = false) → rnum f n (ds ++ r) = (digV n ds, ds.length)
  | [], f, n, r, _, hf, hr => by
    obtain ⟨g, rfl⟩ : ∃ g, f = g + 1 := ⟨f - 1, by simp at hf; omega⟩
    cases r with
    | nil => rfl
    | cons c r =>
      have := hr c rfl
      rw [List.nil_append, rnum, if_neg (by simp [this])]; rfl
  | d :: ds, f, n, r, hd, hf, hr => by
    obtain ⟨g, rfl⟩ : ∃ g, f = g + 1 := ⟨f - 1, by simp at hf; omega⟩
    rw [List.cons_append, rnum, if_pos (hd d (List.mem_cons_self ..)), rnum_digits ds g _ r (fun c hc => hd c (List.mem_cons_of_mem _ hc)) (by simpa using hf) hr]
    rfl
theorem digV_append (n : Int) (a b : List UInt8) : digV n (a ++ b) = digV (digV n a) b := by unfold digV; rw [List.foldl_append]
theorem digV_dec (u : Nat) : digV 0 (Lib.decDigits u) = (u : Int) := by
  induction u using Nat.strongRecOn with
  | _ u ih =>
    rw [Lib.decDigits]
    split
    · rename_i h
      show (0 : Int) * 10 + _ = _
      rw [dig_nat h]; omega
    · rename_i h
      rw [digV_append, ih (u / 10) (by omega)]
      show ((u / 10 : Nat) : Int) * 10 + _ = _
      rw [dig_nat (by omega)]; omega
theorem decDig_len : ∀ (k u : Nat), u < 10 ^ (k + 1) → (Lib.decDigits u).length ≤ k + 1
  | 0, u, h => by
    rw [Lib.decDigits, dif_pos (by simpa using h)]; simp
  | k + 1, u, h => by
    rw [Lib.decDigits]
    split
    · simp
    · have := decDig_len k (u / 10) (by rw [Nat.pow_succ] at h; omega)
      rw [List.length_append, List.length_singleton]; omega
theorem rnum_itoa {n : Int} (h : 0 ≤ n ∧ n ≤ 999999) (r : List UInt8) (hr : ∀ c, r.head? = some c → digB c = false) : rnum 7 0 (Lib.itoa n ++ r) = (n, (Lib.itoa n).length) := by
  rw [rnum_digits _ 7 0 r (itoa_dig h.1) (by rw [itoa_decD h.1]; have := decDig_len 5 n.toNat (by omega); omega) hr]
  rw [itoa_decD h.1, digV_dec]
  congr 1
  omega
/-- The steps' texts begin with a slash, or are none. -/
theorem stepsS_head (l : List Stp) : ∀ c, (stepsS l).head? = some c → c = 47 := by
  intro c h
  cases l with
  | nil => simp [stepsS] at h
  | cons x l => rw [stepsS_cons] at h; simp [stpS] at h; exact h.symm
theorem stepsS_dig (l : List Stp) : ∀ c, (stepsS l).head? = some c → digB c = false := fun c h => by rw [stepsS_head l c h]; decide
/-! ### where the reference stands ahead of a step -/
/-- A letter that ends no name. -/
def nmC (c : UInt8) : Bool := c != 47 && c != 91
def posP (p : Pth) (j : Nat) : Nat := (Lib.itoa p.flow).length + (stepsS (p.steps.take j)).length
theorem posP_zero (p : Pth) : posP p 0 = (Lib.itoa p.flow).length := by unfold posP; simp [stepsS_nil]
theorem pthS_split (p : Pth) (j : Nat) : pthS p = (Lib.itoa p.flow ++ stepsS (p.steps.take j)) ++ stepsS (p.steps.drop j) := by
  unfold pthS
  rw [List.append_assoc, ← stepsS_append, List.take_append_drop]
theorem pthS_drop (p : Pth) (j : Nat) : (pthS p).drop (posP p j) = stepsS (p.steps.drop j) := by
  rw [pthS_split p j]
  exact List.drop_left' (by unfold posP; rw [List.length_append])
theorem posP_end (p : Pth) {j : Nat} (h : p.steps.length ≤ j) : posP p j = (pthS p).length := by
  unfold posP pthS
  rw [List.take_of_length_le h, List.length_append]
theorem posP_succ (p : Pth) {j : Nat} (h : j < p.steps.length) : posP p (j + 1) = posP p j + (stpS p.steps[j]).length := by
  unfold posP
  rw [List.take_succ_eq_append_getElem h, stepsS_snoc, List.length_append]; omega
theorem stepsS_at (l : List Stp) {j : Nat} (h : j < l.length) : stepsS (l.drop j) = stpS l[j] ++ stepsS (l.drop (j + 1)) := by
  rw [List.drop_eq_getElem_cons h, stepsS_cons]
theorem nameB_nm {s : List UInt8} (h : nameB s = true) : ∀ c, c ∈ s → nmC c = true := fun c hc => by
  obtain ⟨a, b⟩ := nameB_47 h c hc
  unfold nmC; simp [a, b]
theorem takeWhile_name {s r : List UInt8} (h : ∀ c, c ∈ s → nmC c = true) (hr : ∀ c, r.head? = some c → nmC c = false) : (s ++ r).takeWhile nmC = s := by
  induction s with
  | nil =>
    cases r with
    | nil => rfl
    | cons c r => rw [List.nil_append, List.takeWhile_cons, hr c rfl]; rfl
  | cons d s ih => rw [List.cons_append, List.takeWhile_cons, h d (List.mem_cons_self ..)]; simp [ih (fun c hc => h c (List.mem_cons_of_mem _ hc))]
theorem rest_head (n : Int) (l : List Stp) : ∀ c, (placeS n ++ stepsS l).head? = some c → nmC c = false := by
  intro c h
  unfold placeS at h
  split at h
  · rw [List.nil_append] at h
    rw [stepsS_head l c h]; decide
  · simp at h; subst h; decide
end Fm
