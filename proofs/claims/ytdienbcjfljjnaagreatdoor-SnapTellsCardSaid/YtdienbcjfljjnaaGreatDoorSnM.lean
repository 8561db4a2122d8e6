/- Walks: law 11's awake. -/
import Derived.Test.YtdienbcjfljjnaaGreatDoorSnL
import Derived.Test.YtdienbcjfljjnaaGreatDoorSnC
import Derived.Test.YtdienbcjfljjnaaGreatDoorSnE
import Derived.Test.YtdienbcjfljjnaaGreatDoorSnK
import Derived.Laws.OwnMore
open Go.RowKit Go.Shelf
namespace Go.Proofs.YtdienbcjfljjnaaGreatDoor
open Go Go.Proofs Fm

def ndX : Nd := ⟨[120], [], 0, 0, -1, 0, [], 0, 0, 0, 0, 0, zT⟩
def snX : Sn := ⟨0, 0, 0, 0, 0, 0, [ndX], 0⟩
theorem snZ_right : snB snZ = true := by decide
theorem rightT_z : rightT zT = true := by simp [zT, rightT, kindsT_node, deepT_node, deepL_nil, partsT_node, partsL_nil, plainB]
theorem snX_right : snB snX = true := by
  refine snB_iff.2 ⟨by decide, by decide, by decide, ?_⟩
  have : ndB ndX = true := ndB_iff.2 ⟨by decide, .inl rfl, by decide, by decide, by decide, rfl, by decide, rightT_z⟩
  simp [snX, this]
theorem snZ_wf : snWf snZ := by
  refine ⟨?_, ?_, ?_, ?_, ?_, ?_, ?_, fun n h => by cases h⟩ <;> (unfold isI64 snZ; simp)
theorem ndX_wf : ndWf ndX := by
  refine ⟨by decide, by decide, ?_, ?_, ?_, ?_, ?_, ?_, ?_, NumsT_zT, fun n h => by cases h⟩ <;> (unfold isI64 ndX; simp)
theorem snX_wf : snWf snX := by
  refine ⟨?_, ?_, ?_, ?_, ?_, ?_, ?_, fun n h => ?_⟩
  case refine_8 => simp only [snX, List.mem_cons, List.not_mem_nil, or_false] at h; rw [h]; exact ndX_wf
  all_goals (unfold isI64 snX; simp)
theorem snZ_by : snBy snZ = [0, 0, 0, 0, 0, 0, 0, 0] := by decide
theorem bytesT_z : bytesT zT = [0, 0] := by rw [zT, bytesT_node]; decide
theorem snX_by : snBy snX = [0, 0, 0, 0, 0, 0, 0, 2, 2, 120, 0, 0, 0, 1, 0, 0, 0, 0, 0, 0, 0, 0, 0] := by
  have e : ndBy ndX = [2, 120, 0, 0, 0, 1, 0, 0, 0, 0, 0, 0, 0, 0, 0] := by
    unfold ndBy
    rw [show ndX.val = zT from rfl, bytesT_z]
    decide
  show numsB (nH snX) ++ (numB snX.tok ++ (numB snX.nodes.length ++ ([ndX].map ndBy).flatten)) = _
  rw [List.map_cons, List.map_nil, List.flatten_cons, List.flatten_nil, e]
  decide
theorem nine_none : parseS [0, 0, 0, 0, 0, 0, 0, 0, 0] = none := by
  have := parseS_more snZ_right snZ_wf (r := [0]) (by simp)
  rw [snZ_by] at this
  exact this
/-- One node in a block of its own. -/
theorem row_one {w : World} {n : Nd} {C : List Value} {e : TypeId} (hC : C.length = 16) (hR : ndE.R (w.alloc (.cells C.toArray e)) n (fun j => C.getD j .nilFunc)) : ndE.Row (w.alloc (.cells C.toArray e)) [n] (.slice (some ⟨w.heap.size, 0, none⟩) 1 1) := by
  refine Elem.Row.mk rfl (Nat.le_refl _) (by unfold maxLen; simp) (by simp) (fun i hi => ?_)
  obtain rfl : i = 0 := by simp at hi; omega
  refine ⟨_, hR, fun j hj => ?_⟩
  have hj16 : j < 16 := hj
  have hb := (BoxL.new w C e).cell j (C.getD j .nilFunc) (by rw [List.getD_eq_getElem?_getD, List.getElem?_eq_getElem (by omega)]; rfl)
  show (w.alloc (.cells C.toArray e)).cell? ⟨w.heap.size, 0 + (0 * 16 + j), none⟩ = _
  rw [show 0 + (0 * 16 + j) = j by omega]
  exact hb
theorem snZ_v (w : World) (a : Option Addr) : SnV w snZ (.agg #[.int .i64 0, .int .i64 0, .int .i64 0, .int .i64 0, .int .i64 0, .int .i64 0, .slice a 0 0, .int .i64 0]) := by
  obtain ⟨h1, h2, h3, h4, h5, h6, h7, _⟩ := snZ_wf
  exact ⟨a, 0, 0, rfl, Elem.Row.void _ _ _, h1, h2, h3, h4, h5, h6, h7⟩

theorem make9 (w : World) : (Instr.makeSlice 27 (.int .i64 9) (.int .i64 9)).run Tryz.prog w = .ok (.slice (some ⟨w.heap.size, 0, none⟩) 9 9) (w.alloc (.cells #[.int .u8 0, .int .u8 0, .int .u8 0, .int .u8 0, .int .u8 0, .int .u8 0, .int .u8 0, .int .u8 0, .int .u8 0] 5)) := by
  obtain ⟨i, h1, h2, h3, h4⟩ := info_parts elem_u8.info
  have := run_makeSlice (P := Tryz.prog) (w := w) 27 5 i (.int .u8 0) Tryz.underlying27 h1 h2 .i64 .i64 9 9 (by omega) (by omega) (by rw [h3]; decide) (by rw [h4]; omega) (by omega)
  have e : madeCells #[.int .u8 0] 9 = #[.int .u8 0, .int .u8 0, .int .u8 0, .int .u8 0, .int .u8 0, .int .u8 0, .int .u8 0, .int .u8 0, .int .u8 0] := by
    rw [show madeCells #[.int .u8 0] 9 = (madeCells #[.int .u8 0] 9).toList.toArray from Array.toArray_toList.symm, toList_madeCells_one]; rfl
  rw [this, h3]
  show Result.ok _ (w.alloc (.cells (madeCells #[.int .u8 0] 9) _)) = _
  rw [e]; rfl
theorem make8 (w : World) : (Instr.makeSlice 27 (.int .i64 8) (.int .i64 8)).run Tryz.prog w = .ok (.slice (some ⟨w.heap.size, 0, none⟩) 8 8) (w.alloc (.cells #[.int .u8 0, .int .u8 0, .int .u8 0, .int .u8 0, .int .u8 0, .int .u8 0, .int .u8 0, .int .u8 0] 5)) := by
  obtain ⟨i, h1, h2, h3, h4⟩ := info_parts elem_u8.info
  have := run_makeSlice (P := Tryz.prog) (w := w) 27 5 i (.int .u8 0) Tryz.underlying27 h1 h2 .i64 .i64 8 8 (by omega) (by omega) (by rw [h3]; decide) (by rw [h4]; omega) (by omega)
  have e : madeCells #[.int .u8 0] 8 = #[.int .u8 0, .int .u8 0, .int .u8 0, .int .u8 0, .int .u8 0, .int .u8 0, .int .u8 0, .int .u8 0] := by
    rw [show madeCells #[.int .u8 0] 8 = (madeCells #[.int .u8 0] 8).toList.toArray from Array.toArray_toList.symm, toList_madeCells_one]; rfl
  rw [this, h3]
  show Result.ok _ (w.alloc (.cells (madeCells #[.int .u8 0] 8) _)) = _
  rw [e]; rfl

set_option maxRecDepth 100000 in
set_option maxHeartbeats 8000000 in
theorem awake11 (w : World) : Calls Tryz.prog 6 #[] w fun e w' => e = .returned (.bool true) ∧ Ext w w' := by
  have hs1 : (w.alloc (.cells #[.string { data := #[120] }, .string { data := #[] }, .int .u8 0, .int .i64 0, .int .i64 (-1), .int .i64 0, .slice none 0 0, .int .i64 0, .int .i64 0, .int .u8 0, .int .i64 0, .int .i64 0, .int .u8 0, .int .i64 0, .string { data := #[] }, .slice none 0 0] 59)).heap.size = w.heap.size + 1 := by simp
  have hrow : ndE.Row (w.alloc (.cells #[.string { data := #[120] }, .string { data := #[] }, .int .u8 0, .int .i64 0, .int .i64 (-1), .int .i64 0, .slice none 0 0, .int .i64 0, .int .i64 0, .int .u8 0, .int .i64 0, .int .i64 0, .int .u8 0, .int .i64 0, .string { data := #[] }, .slice none 0 0] 59)) [ndX] (.slice (some ⟨w.heap.size, 0, none⟩) 1 1) := row_one (C := [.string { data := #[120] }, .string { data := #[] }, .int .u8 0, .int .i64 0, .int .i64 (-1), .int .i64 0, .slice none 0 0, .int .i64 0, .int .i64 0, .int .u8 0, .int .i64 0, .int .i64 0, .int .u8 0, .int .i64 0, .string { data := #[] }, .slice none 0 0]) rfl (by
    obtain ⟨u1, u2, u3, u4, u5, u6, u7, u8, u9, _⟩ := ndX_wf
    exact ⟨⟨rfl, rfl, rfl, rfl, rfl, rfl⟩, Elem.Row.void _ _ _, ⟨rfl, rfl, rfl, rfl, rfl⟩, Lies_zT _, u1, u2, u3, u4, u5, u6, u7, u8, u9⟩)
  have b2 := BoxL.new (w.alloc (.cells #[.string { data := #[120] }, .string { data := #[] }, .int .u8 0, .int .i64 0, .int .i64 (-1), .int .i64 0, .slice none 0 0, .int .i64 0, .int .i64 0, .int .u8 0, .int .i64 0, .int .i64 0, .int .u8 0, .int .i64 0, .string { data := #[] }, .slice none 0 0] 59)) [.int .i64 0, .int .i64 0, .int .i64 0, .int .i64 0, .int .i64 0, .int .i64 0, .slice (some ⟨w.heap.size, 0, none⟩) 1 1, .int .i64 0] 26
  rw [hs1] at b2
  have HV : Hid (SnV ((w.alloc (.cells #[.string { data := #[120] }, .string { data := #[] }, .int .u8 0, .int .i64 0, .int .i64 (-1), .int .i64 0, .slice none 0 0, .int .i64 0, .int .i64 0, .int .u8 0, .int .i64 0, .int .i64 0, .int .u8 0, .int .i64 0, .string { data := #[] }, .slice none 0 0] 59)).alloc (.cells #[.int .i64 0, .int .i64 0, .int .i64 0, .int .i64 0, .int .i64 0, .int .i64 0, .slice (some ⟨w.heap.size, 0, none⟩) 1 1, .int .i64 0] 26)) snX (.agg #[.int .i64 0, .int .i64 0, .int .i64 0, .int .i64 0, .int .i64 0, .int .i64 0, .slice (some ⟨w.heap.size, 0, none⟩) 1 1, .int .i64 0])) := Lib.hid (by
    obtain ⟨u1, u2, u3, u4, u5, u6, u7, _⟩ := snX_wf
    exact ⟨_, _, _, rfl, hrow.ext ((Ext.refl _).alloc _), u1, u2, u3, u4, u5, u6, u7⟩)
  have HB1 := Lib.hid b2
  have HE1 : Hid (Ext w ((w.alloc (.cells #[.string { data := #[120] }, .string { data := #[] }, .int .u8 0, .int .i64 0, .int .i64 (-1), .int .i64 0, .slice none 0 0, .int .i64 0, .int .i64 0, .int .u8 0, .int .i64 0, .int .i64 0, .int .u8 0, .int .i64 0, .string { data := #[] }, .slice none 0 0] 59)).alloc (.cells #[.int .i64 0, .int .i64 0, .int .i64 0, .int .i64 0, .int .i64 0, .int .i64 0, .slice (some ⟨w.heap.size, 0, none⟩) 1 1, .int .i64 0] 26))) := Lib.hid (((Ext.refl w).alloc _).alloc _)
  clear hs1 hrow b2
  go_enter Tryz.func6, Tryz.ntmps6
  go_wp2_with fail
  generalize (w.alloc (.cells #[.string { data := #[120] }, .string { data := #[] }, .int .u8 0, .int .i64 0, .int .i64 (-1), .int .i64 0, .slice none 0 0, .int .i64 0, .int .i64 0, .int .u8 0, .int .i64 0, .int .i64 0, .int .u8 0, .int .i64 0, .string { data := #[] }, .slice none 0 0] 59)).alloc (.cells #[.int .i64 0, .int .i64 0, .int .i64 0, .int .i64 0, .int .i64 0, .int .i64 0, .slice (some ⟨w.heap.size, 0, none⟩) 1 1, .int .i64 0] 26) = W1 at *
  refine (sbytes_any snZ W1 _ (snZ_v W1 none)).mono ?_
  rintro e w2 ⟨a2, m2, c2, n2, rfl, hE2, -, hyes⟩
  obtain ⟨rfl, ho2⟩ := hyes snZ_right
  have HX2 := Lib.hid ho2.bytes
  have HB2 := Lib.hid (HB1.out.ext hE2)
  have HE2 := Lib.hid (HE1.out.trans hE2)
  have HV2 := Lib.hid (HV.out.ext hE2)
  have ⟨p0, p1, p2, p3, p4, p5, p6, p7⟩ := HB2.out.n8
  clear hyes ho2 hE2 HB1 HE1 HV
  go_wp2_with fail
  refine (sbytes_any snX w2 _ HV2.out).mono ?_
  rintro e w3 ⟨a3, m3, c3, n3, rfl, hE3, -, hyes⟩
  obtain ⟨rfl, ho3⟩ := hyes snX_right
  have HX3 := Lib.hid ho3.bytes
  have HZ3 := Lib.hid (HX2.out.ext hE3)
  have HB3 := Lib.hid (HB2.out.ext hE3)
  have HE3 := Lib.hid (HE2.out.trans hE3)
  have HV3 := Lib.hid (HV2.out.ext hE3)
  clear hyes ho3 hE3 HX2 HB2 HE2 HV2 p0 p1 p2 p3 p4 p5 p6 p7
  go_wp2_with fail
  refine (sparse_any _ (snBy snX) w3 HX3.out).mono ?_
  rintro e w4 (⟨hn, -⟩ | ⟨s, hs, v, rfl, hE4, ho4⟩)
  · rw [parseS_by snX_right snX_wf] at hn; cases hn
  obtain rfl : s = snX := by rw [parseS_by snX_right snX_wf] at hs; injection hs with hs; exact hs.symm
  have hv4 := ho4.v
  obtain ⟨a, m, c, hv, -⟩ := ho4
  have hv : v = .agg #[.int .i64 0, .int .i64 0, .int .i64 0, .int .i64 0, .int .i64 0, .int .i64 0, .slice a m c, .int .i64 0] := hv
  subst hv
  have hA4 := (Ext.refl w4).alloc (.cells #[.int .i64 0, .int .i64 0, .int .i64 0, .int .i64 0, .int .i64 0, .int .i64 0, .slice a m c, .int .i64 0] 26)
  have HN4 : Hid (BoxL (w4.alloc (.cells #[.int .i64 0, .int .i64 0, .int .i64 0, .int .i64 0, .int .i64 0, .int .i64 0, .slice a m c, .int .i64 0] 26)) w4.heap.size [.int .i64 0, .int .i64 0, .int .i64 0, .int .i64 0, .int .i64 0, .int .i64 0, .slice a m c, .int .i64 0]) := Lib.hid (BoxL.new w4 [.int .i64 0, .int .i64 0, .int .i64 0, .int .i64 0, .int .i64 0, .int .i64 0, .slice a m c, .int .i64 0] _)
  have HV4 := Lib.hid (hv4.ext hA4)
  have HX4 := Lib.hid (HX3.out.ext (hE4.trans hA4))
  have HZ4 := Lib.hid (HZ3.out.ext (hE4.trans hA4))
  have HB4 := Lib.hid (HB3.out.ext (hE4.trans hA4))
  have HE4 := Lib.hid (HE3.out.trans (hE4.trans hA4))
  have HVx := Lib.hid (HV3.out.ext (hE4.trans hA4))
  clear hs hE4 hv4 hA4 HX3 HZ3 HB3 HE3 HV3
  have hm9 := make9
  go_upto_region 5 with (fail)
  generalize w4.alloc (.cells #[.int .i64 0, .int .i64 0, .int .i64 0, .int .i64 0, .int .i64 0, .int .i64 0, .slice a m c, .int .i64 0] 26) = W5 at *
  have HX5 : Hid (Bytes (W5.alloc (.cells #[.int .u8 0, .int .u8 0, .int .u8 0, .int .u8 0, .int .u8 0, .int .u8 0, .int .u8 0, .int .u8 0, .int .u8 0] 5)) (.slice (some ⟨W5.heap.size, 0, none⟩) 9 9) [0, 0, 0, 0, 0, 0, 0, 0, 0]) := Lib.hid (bytes_new _ _ _ _ _ _ rfl rfl rfl (by decide))
  have hA5 := (Ext.refl W5).alloc (.cells #[.int .u8 0, .int .u8 0, .int .u8 0, .int .u8 0, .int .u8 0, .int .u8 0, .int .u8 0, .int .u8 0, .int .u8 0] 5)
  have HN6 := Lib.hid (HN4.out.ext hA5)
  have HV6 := Lib.hid (HV4.out.ext hA5)
  have HX6 := Lib.hid (HX4.out.ext hA5)
  have HZ6 := Lib.hid (HZ4.out.ext hA5)
  have HB6 := Lib.hid (HB4.out.ext hA5)
  have HE6 := Lib.hid (HE4.out.trans hA5)
  have HVy := Lib.hid (HVx.out.ext hA5)
  clear hA5 HN4 HV4 HX4 HZ4 HB4 HE4 HVx
  go_wp2_with fail
  clear hm9
  generalize W5.alloc (.cells #[.int .u8 0, .int .u8 0, .int .u8 0, .int .u8 0, .int .u8 0, .int .u8 0, .int .u8 0, .int .u8 0, .int .u8 0] 5) = W6 at *
  refine (sparse_any _ _ W6 HX5.out).mono ?_
  rintro e w7 (⟨-, rfl, hE7⟩ | ⟨s, hs, -⟩)
  case inr => rw [nine_none] at hs; cases hs
  have hA7 := (Ext.refl w7).alloc (.cells #[.int .i64 0, .int .i64 0, .int .i64 0, .int .i64 0, .int .i64 0, .int .i64 0, .slice none 0 0, .int .i64 0] 26)
  have HN7 := Lib.hid ((HN6.out.ext hE7).ext hA7)
  have HV7 := Lib.hid ((HV6.out.ext hE7).ext hA7)
  have HX7 := Lib.hid ((HX6.out.ext hE7).ext hA7)
  have HZ7 := Lib.hid ((HZ6.out.ext hE7).ext hA7)
  have HB7 := Lib.hid ((HB6.out.ext hE7).ext hA7)
  have HE7 := Lib.hid ((HE6.out.trans hE7).trans hA7)
  have HVz := Lib.hid ((HVy.out.ext hE7).ext hA7)
  clear hE7 hA7 HN6 HV6 HX6 HZ6 HB6 HE6 HVy HX5
  go_upto_region 6 with (fail)
  generalize w7.alloc (.cells #[.int .i64 0, .int .i64 0, .int .i64 0, .int .i64 0, .int .i64 0, .int .i64 0, .slice none 0 0, .int .i64 0] 26) = W7 at *
  have hm8 := make8
  have hA8 := (Ext.refl W7).alloc (.cells #[.int .u8 0, .int .u8 0, .int .u8 0, .int .u8 0, .int .u8 0, .int .u8 0, .int .u8 0, .int .u8 0] 5)
  have HX8 : Hid (Bytes (W7.alloc (.cells #[.int .u8 0, .int .u8 0, .int .u8 0, .int .u8 0, .int .u8 0, .int .u8 0, .int .u8 0, .int .u8 0] 5)) (.slice (some ⟨W7.heap.size, 0, none⟩) 8 8) (snBy snZ)) := Lib.hid (by rw [snZ_by]; exact bytes_new _ _ _ _ _ _ rfl rfl rfl (by decide))
  have HZ8 := Lib.hid (HZ7.out.ext hA8)
  go_wp2_with fail
  have hx2 := HZ8.out
  have HN8 := Lib.hid (HN7.out.ext hA8)
  have HV8 := Lib.hid (HV7.out.ext hA8)
  have HX8b := Lib.hid (HX7.out.ext hA8)
  have HB8 := Lib.hid (HB7.out.ext hA8)
  have HE8 := Lib.hid (HE7.out.trans hA8)
  have HVw := Lib.hid (HVz.out.ext hA8)
  clear hm8 hx2 hA8 HN7 HV7 HX7 HZ7 HB7 HE7 HVz
  generalize W7.alloc (.cells #[.int .u8 0, .int .u8 0, .int .u8 0, .int .u8 0, .int .u8 0, .int .u8 0, .int .u8 0, .int .u8 0] 5) = W8 at *
  refine (same_any _ _ _ _ W8 HZ8.out HX8.out).mono ?_
  rw [decide_eq_true (show snBy snZ = snBy snZ from rfl)]
  rintro e w9 ⟨rfl, rfl⟩
  have hA9 := (Ext.refl W8).alloc (.cells #[.int .u8 0, .int .u8 0, .int .u8 0, .int .u8 0, .int .u8 0, .int .u8 0, .int .u8 0, .int .u8 2, .int .u8 2, .int .u8 120, .int .u8 0, .int .u8 0, .int .u8 0, .int .u8 1, .int .u8 0, .int .u8 0, .int .u8 0, .int .u8 0, .int .u8 0, .int .u8 0, .int .u8 0, .int .u8 0, .int .u8 0] 5)
  have HX9 : Hid (Bytes (W8.alloc (.cells #[.int .u8 0, .int .u8 0, .int .u8 0, .int .u8 0, .int .u8 0, .int .u8 0, .int .u8 0, .int .u8 2, .int .u8 2, .int .u8 120, .int .u8 0, .int .u8 0, .int .u8 0, .int .u8 1, .int .u8 0, .int .u8 0, .int .u8 0, .int .u8 0, .int .u8 0, .int .u8 0, .int .u8 0, .int .u8 0, .int .u8 0] 5)) (.slice (some ⟨W8.heap.size, 0, none⟩) 23 23) (snBy snX)) := Lib.hid (by rw [snX_by]; exact bytes_new _ _ _ _ _ _ rfl rfl rfl (by decide))
  have HN9 := Lib.hid (HN8.out.ext hA9)
  have HV9 := Lib.hid (HV8.out.ext hA9)
  have HY9 := Lib.hid (HX8b.out.ext hA9)
  have HB9 := Lib.hid (HB8.out.ext hA9)
  have HE9 := Lib.hid (HE8.out.trans hA9)
  have HV9x := Lib.hid (HVw.out.ext hA9)
  clear hA9 HN8 HV8 HX8b HB8 HE8 HVw HX8 HZ8
  go_wp2_with fail
  generalize W8.alloc (.cells #[.int .u8 0, .int .u8 0, .int .u8 0, .int .u8 0, .int .u8 0, .int .u8 0, .int .u8 0, .int .u8 2, .int .u8 2, .int .u8 120, .int .u8 0, .int .u8 0, .int .u8 0, .int .u8 1, .int .u8 0, .int .u8 0, .int .u8 0, .int .u8 0, .int .u8 0, .int .u8 0, .int .u8 0, .int .u8 0, .int .u8 0] 5) = W9 at *
  refine (same_any _ _ _ _ W9 HY9.out HX9.out).mono ?_
  rw [decide_eq_true (show snBy snX = snBy snX from rfl)]
  rintro e w10 ⟨rfl, rfl⟩
  have ⟨p0, p1, p2, p3, p4, p5, p6, p7⟩ := HN9.out.n8
  have ⟨q0, q1, q2, q3, q4, q5, q6, q7⟩ := HB9.out.n8
  go_wp2_with fail
  refine (sSame_any snX snX W9 _ _ HV9.out HV9x.out).mono ?_
  rw [eqSn_refl]
  rintro e w11 ⟨rfl, hE11⟩
  have HE11 := Lib.hid (HE9.out.trans hE11)
  clear hE11 p0 p1 p2 p3 p4 p5 p6 p7 q0 q1 q2 q3 q4 q5 q6 q7
  go_wp2
  go_ret
  exact ⟨rfl, HE11.out⟩
end Go.Proofs.YtdienbcjfljjnaaGreatDoor
