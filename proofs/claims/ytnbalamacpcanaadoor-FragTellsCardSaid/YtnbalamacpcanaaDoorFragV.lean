/- Walks: awake of law 09. -/
import Derived.Test.YtnbalamacpcanaaDoorFrgR
import Derived.Test.YtnbalamacpcanaaDoorFragE
import Derived.Test.YtnbalamacpcanaaDoorFragP
open Go.RowKit Go.Shelf
namespace Go.Proofs.YtnbalamacpcanaaDoor
open Go Go.Proofs Fm

theorem row_one_it (w : World) {x : It} {d : Value} {b : Nat} {e : TypeId} {fr : Nat × Nat} (hb : w.heap[b]? = some (.cells (itCells x d).toArray e fr)) (hd : strE.Row w x.after d) (hw : itWf x) : itE.Row w [x] (.slice (some ⟨b, 0, none⟩) 1 1) := by
  refine Elem.Row.mk rfl (by simp) (by simp [maxLen]) (Array.getElem?_eq_some_iff.1 hb).1 (fun i hi => ⟨fun j => (itCells x d).getD j .nilFunc, ?_, fun j hj => ?_⟩)
  · have : i = 0 := by simp at hi; omega
    subst this
    exact ⟨rfl, rfl, hd, rfl, rfl, rfl, hw⟩
  · have : i = 0 := by simp at hi; omega
    subst this
    have hj6 : j < 6 := hj
    simp only [World.cell?, hb]
    rw [Nat.zero_mul, Nat.zero_add, Nat.zero_add, List.getElem?_toArray, List.getD_eq_getElem?_getD, List.getElem?_eq_getElem (by simp [itCells]; omega)]
    rfl
theorem row_one_str (w : World) {s : List UInt8} {b : Nat} {e : TypeId} {fr : Nat × Nat} (hb : w.heap[b]? = some (.cells #[.string (str s)] e fr)) (hs : s.length ≤ 9223372036854775807) : strE.Row w [s] (.slice (some ⟨b, 0, none⟩) 1 1) := by
  refine Elem.Row.mk rfl (by simp) (by simp [maxLen]) (Array.getElem?_eq_some_iff.1 hb).1 (fun i hi => ⟨fun _ => .string (str s), ?_, fun j hj => ?_⟩)
  · have : i = 0 := by simp at hi; omega
    subst this
    exact ⟨rfl, hs⟩
  · have : i = 0 := by simp at hi; omega
    subst this
    have : j = 0 := by have hj1 : j < 1 := hj; omega
    subst this
    simp [World.cell?, hb]
theorem bytes_lit (w : World) (xs : List UInt8) (e : TypeId) (hn : xs.length ≤ 1000) : Bytes (w.alloc (.cells (xs.map bv).toArray e)) (.slice (some ⟨w.heap.size, 0, none⟩) xs.length xs.length) xs := by
  refine Bytes.mk rfl (Nat.le_refl _) (by unfold maxLen; omega) (by simp) (fun j hj => ?_)
  have := heap_alloc_new w (.cells (xs.map bv).toArray e)
  simp only [World.cell?, this]
  simp [hj]
def exA : It := ⟨[97], 0, [], [], 0, 0⟩
def exM : It := ⟨[109], 1, [[98]], [97], 3, 1⟩
theorem exA_b : fragB [exA] = true := by decide +kernel
theorem exM_b : fragB [exM] = true := by decide +kernel
theorem ex0_by : fragBy [] = [0] := by decide +kernel
theorem exA_by : fragBy [exA] = [2, 2, 97, 0, 0, 0] := by decide +kernel
theorem exM_by : fragBy [exM] = [2, 2, 109, 2, 2, 2, 98, 2, 2, 97, 6] := by decide +kernel
theorem name_A : nameB [65] = false := by decide +kernel
theorem name_x21 : nameB (List.replicate 21 120) = false := by decide +kernel
theorem name_a_9 : nameB [97, 95, 57] = true := by decide +kernel
theorem exA_wf : itWf exA := ⟨by decide, by decide, by unfold isI64 exA; simp, by unfold isI64 exA; simp⟩
theorem exM_wf : itWf exM := ⟨by decide, by decide, by unfold isI64 exM; simp, by unfold isI64 exM; simp⟩

set_option maxRecDepth 100000 in
set_option maxHeartbeats 8000000 in
theorem awake09 (w : World) : Calls Tryd.prog 48 #[] w fun e w' => e = .returned (.bool true) ∧ Ext w w' := by
  have hz1 : (w.alloc (.cells #[.string { data := #[97] }, .int .u8 0, .slice none 0 0, .string { data := #[] }, .int .i64 0, .int .i64 0] 47)).heap.size = w.heap.size + 1 := by simp
  have hb1 := heap_alloc_new w (.cells #[.string { data := #[97] }, .int .u8 0, .slice none 0 0, .string { data := #[] }, .int .i64 0, .int .i64 0] 47)
  have hE1 := (Ext.refl w).alloc (.cells #[.string { data := #[97] }, .int .u8 0, .slice none 0 0, .string { data := #[] }, .int .i64 0, .int .i64 0] 47)
  go_enter Tryd.func48, Tryd.ntmps48
  go_wp2_with fail
  generalize w.alloc (.cells #[.string { data := #[97] }, .int .u8 0, .slice none 0 0, .string { data := #[] }, .int .i64 0, .int .i64 0] 47) = W1 at *
  have hA1 : itE.Row W1 [exA] (.slice (some ⟨w.heap.size, 0, none⟩) 1 1) := row_one_it W1 (d := .slice none 0 0) hb1 (Elem.Row.void _ _ _) exA_wf
  have hb2 := heap_alloc_new W1 (.cells #[.string { data := #[98] }] 9)
  have hE2 := (Ext.refl W1).alloc (.cells #[.string { data := #[98] }] 9)
  have hz2 : (W1.alloc (.cells #[.string { data := #[98] }] 9)).heap.size = w.heap.size + 1 + 1 := by simp [hz1]
  rw [hz1] at hb2
  generalize W1.alloc (.cells #[.string { data := #[98] }] 9) = W2 at *
  have hS2 : strE.Row W2 [[98]] (.slice (some ⟨w.heap.size + 1, 0, none⟩) 1 1) := row_one_str W2 hb2 (by decide)
  have hb3 := heap_alloc_new W2 (.cells #[.string { data := #[109] }, .int .u8 1, .slice (some ⟨w.heap.size + 1, 0, none⟩) 1 1, .string { data := #[97] }, .int .i64 3, .int .i64 1] 47)
  have hE3 := (Ext.refl W2).alloc (.cells #[.string { data := #[109] }, .int .u8 1, .slice (some ⟨w.heap.size + 1, 0, none⟩) 1 1, .string { data := #[97] }, .int .i64 3, .int .i64 1] 47)
  rw [hz2] at hb3
  generalize W2.alloc (.cells #[.string { data := #[109] }, .int .u8 1, .slice (some ⟨w.heap.size + 1, 0, none⟩) 1 1, .string { data := #[97] }, .int .i64 3, .int .i64 1] 47) = W3 at *
  have HM : Hid (itE.Row W3 [exM] (.slice (some ⟨w.heap.size + 1 + 1, 0, none⟩) 1 1)) := Lib.hid (row_one_it W3 (d := .slice (some ⟨w.heap.size + 1, 0, none⟩) 1 1) hb3 (hS2.ext hE3) exM_wf)
  have HA := Lib.hid ((hA1.ext hE2).ext hE3)
  have HE3 := Lib.hid ((hE1.trans hE2).trans hE3)
  clear hb1 hb2 hb3 hA1 hS2 hz1 hz2 hE1 hE2 hE3
  refine (fbytes_any [] W3 _ (Elem.Row.void _ _ _)).mono ?_
  rintro e w4 ⟨a4, m4, c4, n4, rfl, hE4, -, hy⟩
  obtain ⟨rfl, hO4⟩ := hy (by decide)
  have HB4 := Lib.hid hO4.bytes
  have HE4 := Lib.hid hE4
  clear hy hO4 hE4
  go_wp2_with fail
  refine (fbytes_any [exA] w4 _ (HA.out.ext HE4.out)).mono ?_
  rintro e w5 ⟨a5, m5, c5, n5, rfl, hE5, -, hy⟩
  obtain ⟨rfl, hO5⟩ := hy exA_b
  have HB5 := Lib.hid hO5.bytes
  have HE5 := Lib.hid (HE4.out.trans hE5)
  have HB4 := Lib.hid (HB4.out.ext hE5)
  clear hy hO5 hE5
  go_wp2_with fail
  refine (fbytes_any [exM] w5 _ (HM.out.ext HE5.out)).mono ?_
  rintro e w6 ⟨a6, m6, c6, n6, rfl, hE6, -, hy⟩
  obtain ⟨rfl, hO6⟩ := hy exM_b
  have HB6 := Lib.hid hO6.bytes
  have HE6 := Lib.hid (HE5.out.trans hE6)
  have HB4x := Lib.hid (HB4.out.ext hE6)
  have HB5x := Lib.hid (HB5.out.ext hE6)
  clear hy hO6 hE6
  go_wp2_with fail
  refine (fparse_any _ _ w6 HB6.out).mono ?_
  rintro e w7 ⟨a7, m7, c7, f7, l7, rfl, hE7, hO7, -, hy⟩
  obtain ⟨rfl, rfl⟩ := hy [exM] (by have := takeF_by exM_b []; rwa [List.append_nil] at this)
  have HR7 := Lib.hid hO7.row
  have HE7 := Lib.hid (HE6.out.trans hE7)
  have HB4y := Lib.hid (HB4x.out.ext hE7)
  have HB5y := Lib.hid (HB5x.out.ext hE7)
  have HB6y := Lib.hid (HB6.out.ext hE7)
  have HM7 := Lib.hid (HM.out.ext HE7.out)
  have HEw7 := Lib.hid (HE3.out.trans HE7.out)
  clear hy hO7 hE7 HE3 HE4 HE5 HE6 HE7 HB4 HB5 HB4x HB5x HB6 HM HA
  go_wp2_with fail
  have x8 := (Ext.refl w7).alloc (.cells #[.int .u8 0] 5)
  refine (same_true (HB4y.out.ext x8) (bytes_lit w7 [0] 5 (by decide)) ex0_by).mono ?_
  rintro e w8 ⟨rfl, rfl⟩
  have HE8 := Lib.hid x8
  clear x8
  generalize w7.alloc (.cells #[.int .u8 0] 5) = w8 at *
  go_wp2_with fail
  have x9 := (Ext.refl w8).alloc (.cells #[.int .u8 2, .int .u8 2, .int .u8 97, .int .u8 0, .int .u8 0, .int .u8 0] 5)
  refine (same_true ((HB5y.out.ext HE8.out).ext x9) (bytes_lit w8 [2, 2, 97, 0, 0, 0] 5 (by decide)) exA_by).mono ?_
  rintro e w9 ⟨rfl, rfl⟩
  have HE9 := Lib.hid (HE8.out.trans x9)
  clear x9
  generalize w8.alloc (.cells #[.int .u8 2, .int .u8 2, .int .u8 97, .int .u8 0, .int .u8 0, .int .u8 0] 5) = w9 at *
  go_wp2_with fail
  have x10 := (Ext.refl w9).alloc (.cells #[.int .u8 2, .int .u8 2, .int .u8 109, .int .u8 2, .int .u8 2, .int .u8 2, .int .u8 98, .int .u8 2, .int .u8 2, .int .u8 97, .int .u8 6] 5)
  refine (same_true ((HB6y.out.ext HE9.out).ext x10) (bytes_lit w9 [2, 2, 109, 2, 2, 2, 98, 2, 2, 97, 6] 5 (by decide)) exM_by).mono ?_
  rintro e w10 ⟨rfl, rfl⟩
  have HE10 := Lib.hid (HE9.out.trans x10)
  clear x10
  generalize w9.alloc (.cells #[.int .u8 2, .int .u8 2, .int .u8 109, .int .u8 2, .int .u8 2, .int .u8 2, .int .u8 98, .int .u8 2, .int .u8 2, .int .u8 97, .int .u8 6] 5) = w10 at *
  go_wp2_with fail
  refine (fSame_any [exM] [exM] w10 _ _ (HR7.out.ext HE10.out) (HM7.out.ext HE10.out)).mono ?_
  rw [show eqF [exM] [exM] = true from eqF_iff.2 rfl]
  rintro e w11 ⟨rfl, hE11⟩
  have HE11 := Lib.hid (HE10.out.trans hE11)
  clear hE11
  go_wp2_with fail
  refine (name_any [65] (by decide) w11).mono ?_
  rw [name_A]
  rintro e w12 ⟨rfl, hE12⟩
  have HE12 := Lib.hid (HE11.out.trans hE12)
  clear hE12
  go_wp2_with fail
  refine (name_any [] (by decide) w12).mono ?_
  rw [show nameB [] = false from rfl]
  rintro e w13 ⟨rfl, hE13⟩
  have HE13 := Lib.hid (HE12.out.trans hE13)
  clear hE13
  go_wp2_with fail
  refine (Tryd.strings_Repeat { data := #[120] } 21 w13 (by decide) (by decide)).mono ?_
  rintro e w14 ⟨rfl, hE14⟩
  have HE14 : Hid (Ext w7 w14) := Lib.hid (HE13.out.trans hE14)
  clear hE14
  rw [show (Lib.repeatL ({ data := #[120] } : ByteArray).data.toList 21) = List.replicate 21 120 by decide +kernel]
  go_wp2_with fail
  refine (name_any (List.replicate 21 120) (by decide) w14).mono ?_
  rw [name_x21]
  rintro e w15 ⟨rfl, hE15⟩
  have HE15 := Lib.hid (HE14.out.trans hE15)
  clear hE15
  go_wp2_with fail
  refine (name_any [97, 95, 57] (by decide) w15).mono ?_
  rw [name_a_9]
  rintro e w16 ⟨rfl, hE16⟩
  have HE16 := Lib.hid (HEw7.out.trans (HE15.out.trans hE16))
  clear hE16
  go_wp2
  go_ret
  exact ⟨rfl, HE16.out⟩
end Go.Proofs.YtnbalamacpcanaaDoor
