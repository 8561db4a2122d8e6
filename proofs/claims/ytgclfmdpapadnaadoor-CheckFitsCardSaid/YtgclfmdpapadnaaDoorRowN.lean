/- Rows of numbers and of values out of a row's reading. -/
import Derived.Test.YtgclfmdpapadnaaDoorPlQ
import Derived.Test.YtgclfmdpapadnaaDoorFragV
import Derived.Test.YtgclfmdpapadnaaDoorCa
import Derived.Test.YtgclfmdpapadnaaDoorPlFn
import Derived.ProofKit
import Derived.OpenShut
import Derived.ShutString
import Derived.ChangeOld
import Derived.Test.YtgclfmdpapadnaaDoorProg
import Derived.Deep.RegionHeld3
import Derived.BigQuiet
open Go.RowKit Go.Shelf
namespace Fm
open Go Go.RowKit
def ckA : It := ⟨[97], 0, [], [], 0, 0⟩
def ckB : It := ⟨[98], 0, [[97]], [], 0, 0⟩
def ckM : It := ⟨[109], 1, [], [97], 2, 1⟩
def ckWide : It := ⟨[109], 1, [], [97], 5, 1⟩
def ckLost : It := ⟨[98], 0, [[99]], [], 0, 0⟩
def ckDeep : List Nd := [ndFl 0 (-1), ndFl 0 0, ndFl 0 1]
theorem ck_wf : itWf ckA ∧ itWf ckB ∧ itWf ckM ∧ itWf ckWide ∧ itWf ckLost := by
  refine ⟨?_, ?_, ?_, ?_, ?_⟩ <;> exact ⟨by decide, by decide, by unfold isI64 ; decide, by unfold isI64; decide⟩
theorem ck1 : checkF 3 4 [] (-1) 5 [ckA, ckB] = 0 := by decide +kernel
theorem ck3 : checkF 3 4 [] (-1) 5 [ckA, ckLost] = 21 := by decide +kernel
theorem ck5 : checkF 3 4 [] (-1) 5 [ckA, ckM] = 22 := by decide +kernel
theorem ck6 : checkF 3 4 [] (-1) 5 [ckA, ckA] = 20 := by decide +kernel
theorem ck7 : checkF 3 4 [] (-1) 5 [ckA, ckWide] = 24 := by decide +kernel
theorem ck8 : checkF 3 4 ckDeep 2 5 [ckA] = 23 := by decide +kernel
theorem rightO_nil : RightO [] := fun i hi => by cases hi
theorem ckDeep_right : RightO ckDeep := by
  have h1 : RightO [ndFl 0 (-1)] := @rightO_snoc [] (ndFl 0 (-1)) rightO_nil (by decide) (by decide) (fun j hj _ => by have : (-1 : Int) = (j : Int) := hj; omega)
  have h2 : RightO [ndFl 0 (-1), ndFl 0 0] := @rightO_snoc [ndFl 0 (-1)] (ndFl 0 0) h1 (by decide) (by decide) (fun j hj hl => by
    have : (0 : Int) = (j : Int) := hj
    obtain rfl : j = 0 := by omega
    rfl)
  exact @rightO_snoc [ndFl 0 (-1), ndFl 0 0] (ndFl 0 1) h2 (by decide) (by decide) (fun j hj hl => by
    have : (1 : Int) = (j : Int) := hj
    obtain rfl : j = 1 := by omega
    rfl)
theorem row_two_it (w : World) {x y : It} {d d' : Value} {b : Nat} {e : TypeId} {fr : Nat × Nat} (hb : w.heap[b]? = some (.cells (itCells x d ++ itCells y d').toArray e fr)) (hd : strE.Row w x.after d) (hd' : strE.Row w y.after d') (hw : itWf x) (hw' : itWf y) : itE.Row w [x, y] (.slice (some ⟨b, 0, none⟩) 2 2) := by
  refine Elem.Row.mk rfl (by simp) (by simp [maxLen]) (Array.getElem?_eq_some_iff.1 hb).1 (fun i hi => ⟨fun j => (itCells x d ++ itCells y d').getD (i * 6 + j) .nilFunc, ?_, fun j hj => ?_⟩)
  · have hi : i < 2 := hi
    rcases (by omega : i = 0 ∨ i = 1) with rfl | rfl
    · exact ⟨rfl, rfl, hd, rfl, rfl, rfl, hw⟩
    · exact ⟨rfl, rfl, hd', rfl, rfl, rfl, hw'⟩
  · have hi : i < 2 := hi
    have hj6 : j < 6 := hj
    simp only [World.cell?, hb]
    rw [show 0 + (i * itE.sz + j) = i * 6 + j by show 0 + (i * 6 + j) = _; omega, List.getElem?_toArray, List.getD_eq_getElem?_getD, List.getElem?_eq_getElem (by simp [itCells]; omega)]
    rfl
end Fm
namespace Go.Proofs.YtgclfmdpapadnaaDoor
open Go Go.Proofs Fm
attribute [local go_sem] Oper.semAt_some

theorem frag20 (l : List Nd) (items : List It) (hO : RightO l) (hl : l.length ≤ 1000000) (hi : items.length ≤ 1000) (ow k : Int) (hk : checkF 3 4 l ow 5 items = k) (X : World) (nv iv : Value) (hN : ndE.Row X l nv) (hI : itE.Row X items iv) :
    Calls Tryd.prog 14 #[.agg #[.int .i64 0, .int .i64 3, .int .i64 4, .int .i64 0, .int .i64 0], nv, .int .i64 ow, .int .i64 5, iv] X fun e w' => e = .returned (.int .i64 k) ∧ Ext X w' := by
  rw [← hk]
  exact cFrag_any l items hO hl hi 0 3 4 0 0 ow 5 X nv iv hN hI
theorem total20 (X : World) (iv : Value) (hI : itE.Row X [ckA, ckB] iv) : Calls Tryd.prog 11 #[iv] X fun e w' => e = .returned (.int .i64 2) ∧ Ext X w' :=
  ctotal_any [ckA, ckB] (fun x hx => by
    simp only [List.mem_cons, List.not_mem_nil, or_false] at hx
    rcases hx with rfl | rfl <;> exact ⟨⟨by decide, by decide⟩, by decide, by decide⟩) (by decide) X iv hI
theorem cost20 (X : World) (v : Value) (h : ItV X ckM v) : Calls Tryd.prog 10 #[v] X fun e w' => e = .returned (.int .i64 5) ∧ Ext X w' :=
  ccost_any ckM ⟨⟨by decide, by decide⟩, by decide, by decide⟩ X v h
theorem deepRow (W : World) : ndE.Row (W.alloc (.cells (flC 0 (-1) ++ flC 0 0 ++ flC 0 1).toArray 50)) ckDeep (.slice (some ⟨W.heap.size, 0, none⟩) 3 3) := by
  have z : ∀ k : Int, -1 ≤ k → k ≤ 1 → isI64 k := fun k h1 h2 => by unfold isI64; omega
  have ho := World.ownsRow_lit W (flC 0 (-1) ++ flC 0 0 ++ flC 0 1).toArray 3 (base := W.heap.size) (e := 50) (size := 16) (Nat.le_refl _) (by unfold maxLen; omega) rfl
  refine ndRow_parts (cs := [flC 0 (-1), flC 0 0, flC 0 1]) rfl (by simpa [ckDeep] using ho) (fun i hi hc => ?_)
  have hi : i < 3 := hi
  rcases (by omega : i = 0 ∨ i = 1 ∨ i = 2) with rfl | rfl | rfl
  · exact ⟨rfl, ndFl_v (z 0 (by omega) (by omega)) (z (-1) (by omega) (by omega)) _⟩
  · exact ⟨rfl, ndFl_v (z 0 (by omega) (by omega)) (z 0 (by omega) (by omega)) _⟩
  · exact ⟨rfl, ndFl_v (z 0 (by omega) (by omega)) (z 1 (by omega) (by omega)) _⟩

set_option maxRecDepth 100000 in
set_option maxHeartbeats 8000000 in
theorem awake20_any (w : World) : Calls Tryd.prog 9 #[] w fun e w' => e = .returned (.bool true) ∧ Ext w w' := by
  go_enter Tryd.func9, Tryd.ntmps9
  go_upto_region 2 with (fail)
  have bC := BoxL.new w [.int .i64 0, .int .i64 3, .int .i64 4, .int .i64 0, .int .i64 0] 32
  have e1 := (Ext.refl w).alloc (.cells #[.int .i64 0, .int .i64 3, .int .i64 4, .int .i64 0, .int .i64 0] 32)
  have z1 : w.heap.size < (w.alloc (.cells #[.int .i64 0, .int .i64 3, .int .i64 4, .int .i64 0, .int .i64 0] 32)).heap.size := by simp
  generalize w.alloc (.cells #[.int .i64 0, .int .i64 3, .int .i64 4, .int .i64 0, .int .i64 0] 32) = W1 at *
  go_upto_region 3 with (fail)
  obtain ⟨SB, hSB⟩ : ∃ SB, SB = W1.heap.size := ⟨_, rfl⟩
  rw [← hSB]
  have hS := heap_alloc_new W1 (.cells #[.string { data := #[97] }] 9)
  have e2 := (Ext.refl W1).alloc (.cells #[.string { data := #[97] }] 9)
  have z2 : (W1.alloc (.cells #[.string { data := #[97] }] 9)).heap.size = W1.heap.size + 1 := by simp
  rw [← hSB] at hS z2
  generalize W1.alloc (.cells #[.string { data := #[97] }] 9) = W2 at *
  have hSr : strE.Row W2 [[97]] (.slice (some ⟨SB, 0, none⟩) 1 1) := row_one_str W2 hS (by decide)
  have bA := BoxL.new W2 [.string { data := #[97] }, .int .u8 0, .slice none 0 0, .string { data := #[] }, .int .i64 0, .int .i64 0] 27
  have e3 := (Ext.refl W2).alloc (.cells #[.string { data := #[97] }, .int .u8 0, .slice none 0 0, .string { data := #[] }, .int .i64 0, .int .i64 0] 27)
  have z3 : (W2.alloc (.cells #[.string { data := #[97] }, .int .u8 0, .slice none 0 0, .string { data := #[] }, .int .i64 0, .int .i64 0] 27)).heap.size = SB + 1 + 1 := by simp [z2]
  rw [z2] at bA
  generalize W2.alloc (.cells #[.string { data := #[97] }, .int .u8 0, .slice none 0 0, .string { data := #[] }, .int .i64 0, .int .i64 0] 27) = W3 at *
  have bB := BoxL.new W3 [.string { data := #[98] }, .int .u8 0, .slice (some ⟨SB, 0, none⟩) 1 1, .string { data := #[] }, .int .i64 0, .int .i64 0] 27
  have e4 := (Ext.refl W3).alloc (.cells #[.string { data := #[98] }, .int .u8 0, .slice (some ⟨SB, 0, none⟩) 1 1, .string { data := #[] }, .int .i64 0, .int .i64 0] 27)
  rw [z3] at bB
  generalize W3.alloc (.cells #[.string { data := #[98] }, .int .u8 0, .slice (some ⟨SB, 0, none⟩) 1 1, .string { data := #[] }, .int .i64 0, .int .i64 0] 27) = W4 at *
  clear hSB z2 z3 hS z1
  have HS := Lib.hid ((hSr.ext e3).ext e4)
  have HC := Lib.hid (((bC.ext e2).ext e3).ext e4)
  have HA := Lib.hid (bA.ext e4)
  have HB := Lib.hid bB
  have HE4 := Lib.hid (((e1.trans e2).trans e3).trans e4)
  clear bA bB bC e1 e2 e3 e4 hSr
  go_upto_region 4 with (fail)
  have bM := BoxL.new W4 [.string { data := #[109] }, .int .u8 1, .slice none 0 0, .string { data := #[97] }, .int .i64 2, .int .i64 1] 27
  have e5 := (Ext.refl W4).alloc (.cells #[.string { data := #[109] }, .int .u8 1, .slice none 0 0, .string { data := #[97] }, .int .i64 2, .int .i64 1] 27)
  generalize W4.alloc (.cells #[.string { data := #[109] }, .int .u8 1, .slice none 0 0, .string { data := #[97] }, .int .i64 2, .int .i64 1] 27) = W5 at *
  have z5 : W4.heap.size < W5.heap.size := bM.1
  generalize W4.heap.size = BM at *
  have ⟨m0, m1, m2, m3, m4, m5⟩ := bM.six
  go_upto_region 5 with (fail)
  have bW := BoxL.new W5 [.string { data := #[109] }, .int .u8 1, .slice none 0 0, .string { data := #[97] }, .int .i64 2, .int .i64 1] 27
  have e6 := (Ext.refl W5).alloc (.cells #[.string { data := #[109] }, .int .u8 1, .slice none 0 0, .string { data := #[97] }, .int .i64 2, .int .i64 1] 27)
  have HM := Lib.hid (bM.ext e6)
  clear m0 m1 m2 m3 m4 m5 bM
  generalize W5.alloc (.cells #[.string { data := #[109] }, .int .u8 1, .slice none 0 0, .string { data := #[97] }, .int .i64 2, .int .i64 1] 27) = W6 at *
  generalize hBW : W5.heap.size = BW at *
  have w4 := bW.cell 4 _ rfl
  have w4' := bW.free 4
  go_upto_region 6 with (fail)
  have HW := Lib.hid (bW.set 4 (by simp) (.int .i64 5))
  have e7 : Ext W5 (W6.setCell ⟨BW, 4, none⟩ (.int .i64 5)) := e6.setCell (p := ⟨BW, 4, none⟩) (by show W5.heap.size ≤ BW; omega) _
  have HM := Lib.hid (HM.out.kept (setOne_grown W6 BW 4 (.int .i64 5)) (fun e => by injection e with e; omega))
  clear w4 w4' bW e6
  generalize W6.setCell ⟨BW, 4, none⟩ (.int .i64 5) = W7 at *
  have HB7 := Lib.hid (HB.out.ext (e5.trans e7))
  have ⟨x0, x1, x2, x3, x4, x5⟩ := HB7.out.six
  go_upto_region 7 with (fail)
  have bL := BoxL.new W7 [.string { data := #[98] }, .int .u8 0, .slice (some ⟨SB, 0, none⟩) 1 1, .string { data := #[] }, .int .i64 0, .int .i64 0] 27
  have e8 := (Ext.refl W7).alloc (.cells #[.string { data := #[98] }, .int .u8 0, .slice (some ⟨SB, 0, none⟩) 1 1, .string { data := #[] }, .int .i64 0, .int .i64 0] 27)
  clear x0 x1 x2 x3 x4 x5
  generalize W7.alloc (.cells #[.string { data := #[98] }, .int .u8 0, .slice (some ⟨SB, 0, none⟩) 1 1, .string { data := #[] }, .int .i64 0, .int .i64 0] 27) = W8 at *
  generalize hBL : W7.heap.size = BL at *
  have e9 := (Ext.refl W8).alloc (.cells #[.string { data := #[99] }] 9)
  have l2 := (bL.ext e9).cell 2 _ rfl
  have l2' := (bL.ext e9).free 2
  have lz : BL < W8.heap.size := bL.1
  go_upto_region 8 with (fail)
  have hL9 : BoxL ((W8.setCell ⟨BL, 2, none⟩ (.slice (some ⟨W8.heap.size, 0, none⟩) 1 1)).alloc (.cells #[.string { data := #[99] }] 9)) BL [.string { data := #[98] }, .int .u8 0, .slice (some ⟨W8.heap.size, 0, none⟩) 1 1, .string { data := #[] }, .int .i64 0, .int .i64 0] := (bL.set 2 (by simp) (.slice (some ⟨W8.heap.size, 0, none⟩) 1 1)).ext ((Ext.refl _).alloc _)
  have hE9 : Ext W7 ((W8.setCell ⟨BL, 2, none⟩ (.slice (some ⟨W8.heap.size, 0, none⟩) 1 1)).alloc (.cells #[.string { data := #[99] }] 9)) := (e8.setCell (p := ⟨BL, 2, none⟩) (by show W7.heap.size ≤ BL; omega) _).alloc _
  have hT9 := heap_alloc_new (W8.setCell ⟨BL, 2, none⟩ (.slice (some ⟨W8.heap.size, 0, none⟩) 1 1)) (.cells #[.string { data := #[99] }] 9)
  rw [World.size_setCell] at hT9
  clear e9 l2 l2' lz bL e8
  generalize (W8.setCell ⟨BL, 2, none⟩ (.slice (some ⟨W8.heap.size, 0, none⟩) 1 1)).alloc (.cells #[.string { data := #[99] }] 9) = W9 at *
  generalize W8.heap.size = SC at *
  have HL := Lib.hid hL9
  have HT := Lib.hid (row_one_str W9 (s := [99]) hT9 (by decide))
  have HE9 := Lib.hid ((e5.trans e7).trans hE9)
  have HM := Lib.hid (HM.out.ext hE9)
  have HW := Lib.hid (HW.out.ext hE9)
  clear hL9 hE9 hT9 e5 e7 z5 HB7
  have hD := deepRow W9
  have hE10 := (Ext.refl W9).alloc (.cells (flC 0 (-1) ++ flC 0 0 ++ flC 0 1).toArray 50)
  simp only [flC, List.cons_append, List.nil_append] at hD hE10
  go_upto_region 9 with (fail)
  generalize W9.alloc (.cells #[.string { data := #[] }, .string { data := #[] }, .int .u8 0, .int .i64 0, .int .i64 (-1), .int .i64 0, .slice none 0 0, .int .i64 0, .int .i64 0, .int .u8 0, .int .i64 0, .int .i64 0, .int .u8 0, .int .i64 0, .string { data := #[] }, .slice none 0 0, .string { data := #[] }, .string { data := #[] }, .int .u8 0, .int .i64 0, .int .i64 0, .int .i64 0, .slice none 0 0, .int .i64 0, .int .i64 0, .int .u8 0, .int .i64 0, .int .i64 0, .int .u8 0, .int .i64 0, .string { data := #[] }, .slice none 0 0, .string { data := #[] }, .string { data := #[] }, .int .u8 0, .int .i64 0, .int .i64 1, .int .i64 0, .slice none 0 0, .int .i64 0, .int .i64 0, .int .u8 0, .int .i64 0, .int .i64 0, .int .u8 0, .int .i64 0, .string { data := #[] }, .slice none 0 0] 50) = WA at *
  generalize W9.heap.size = DB at *
  have HD := Lib.hid hD
  have HS := Lib.hid ((HS.out.ext HE9.out).ext hE10)
  have HT := Lib.hid (HT.out.ext hE10)
  have HC := Lib.hid ((HC.out.ext HE9.out).ext hE10)
  have HA := Lib.hid ((HA.out.ext HE9.out).ext hE10)
  have HB := Lib.hid ((HB.out.ext HE9.out).ext hE10)
  have HM := Lib.hid (HM.out.ext hE10)
  have HW := Lib.hid (HW.out.ext hE10)
  have HL := Lib.hid (HL.out.ext hE10)
  have HEw := Lib.hid ((HE4.out.trans HE9.out).trans hE10)
  have HK0 := Lib.hid (Ext.refl WA)
  clear hD hE10 HE4 HE9
  have c0 := (HC.out.ext HK0.out).cell 0 _ rfl
  have c1 := (HC.out.ext HK0.out).cell 1 _ rfl
  have c2 := (HC.out.ext HK0.out).cell 2 _ rfl
  have c3 := (HC.out.ext HK0.out).cell 3 _ rfl
  have c4 := (HC.out.ext HK0.out).cell 4 _ rfl
  have ⟨x00, x01, x02, x03, x04, x05⟩ := (HA.out.ext HK0.out).six
  have ⟨x10, x11, x12, x13, x14, x15⟩ := (HB.out.ext HK0.out).six
  go_wp2_with fail
  have hb0 := heap_alloc_new WA (.cells #[.string { data := #[97] }, .int .u8 0, .slice none 0 0, .string { data := #[] }, .int .i64 0, .int .i64 0, .string { data := #[98] }, .int .u8 0, .slice (some ⟨SB, 0, none⟩) 1 1, .string { data := #[] }, .int .i64 0, .int .i64 0] 27)
  have hE0 := (Ext.refl WA).alloc (.cells #[.string { data := #[97] }, .int .u8 0, .slice none 0 0, .string { data := #[] }, .int .i64 0, .int .i64 0, .string { data := #[98] }, .int .u8 0, .slice (some ⟨SB, 0, none⟩) 1 1, .string { data := #[] }, .int .i64 0, .int .i64 0] 27)
  clear c0 c1 c2 c3 c4 x00 x01 x02 x03 x04 x05 x10 x11 x12 x13 x14 x15
  generalize WA.alloc (.cells #[.string { data := #[97] }, .int .u8 0, .slice none 0 0, .string { data := #[] }, .int .i64 0, .int .i64 0, .string { data := #[98] }, .int .u8 0, .slice (some ⟨SB, 0, none⟩) 1 1, .string { data := #[] }, .int .i64 0, .int .i64 0] 27) = X0 at *
  refine (frag20 [] [ckA, ckB] rightO_nil (by decide) (by decide) (-1) _ ck1 X0 _ _ (Elem.Row.void _ _ _) (row_two_it X0 (x := ckA) (y := ckB) (d := .slice none 0 0) (d' := .slice (some ⟨SB, 0, none⟩) 1 1) hb0 (Elem.Row.void _ _ _) (HS.out.ext (HK0.out.trans hE0)) ck_wf.1 ck_wf.2.1)).mono ?_
  rintro e Y0 ⟨rfl, hF0⟩
  have HK1 := Lib.hid ((HK0.out.trans hE0).trans hF0)
  clear hF0 HK0 hb0 hE0
  have ⟨x00, x01, x02, x03, x04, x05⟩ := (HA.out.ext HK1.out).six
  have ⟨x10, x11, x12, x13, x14, x15⟩ := (HB.out.ext HK1.out).six
  go_wp2_with fail
  have hb1 := heap_alloc_new Y0 (.cells #[.string { data := #[97] }, .int .u8 0, .slice none 0 0, .string { data := #[] }, .int .i64 0, .int .i64 0, .string { data := #[98] }, .int .u8 0, .slice (some ⟨SB, 0, none⟩) 1 1, .string { data := #[] }, .int .i64 0, .int .i64 0] 27)
  have hE1 := (Ext.refl Y0).alloc (.cells #[.string { data := #[97] }, .int .u8 0, .slice none 0 0, .string { data := #[] }, .int .i64 0, .int .i64 0, .string { data := #[98] }, .int .u8 0, .slice (some ⟨SB, 0, none⟩) 1 1, .string { data := #[] }, .int .i64 0, .int .i64 0] 27)
  clear x00 x01 x02 x03 x04 x05 x10 x11 x12 x13 x14 x15
  generalize Y0.alloc (.cells #[.string { data := #[97] }, .int .u8 0, .slice none 0 0, .string { data := #[] }, .int .i64 0, .int .i64 0, .string { data := #[98] }, .int .u8 0, .slice (some ⟨SB, 0, none⟩) 1 1, .string { data := #[] }, .int .i64 0, .int .i64 0] 27) = X1 at *
  refine (total20 X1 _ (row_two_it X1 (x := ckA) (y := ckB) (d := .slice none 0 0) (d' := .slice (some ⟨SB, 0, none⟩) 1 1) hb1 (Elem.Row.void _ _ _) (HS.out.ext (HK1.out.trans hE1)) ck_wf.1 ck_wf.2.1)).mono ?_
  rintro e Y1 ⟨rfl, hF1⟩
  have HK2 := Lib.hid ((HK1.out.trans hE1).trans hF1)
  clear hF1 HK1 hb1 hE1
  have c0 := (HC.out.ext HK2.out).cell 0 _ rfl
  have c1 := (HC.out.ext HK2.out).cell 1 _ rfl
  have c2 := (HC.out.ext HK2.out).cell 2 _ rfl
  have c3 := (HC.out.ext HK2.out).cell 3 _ rfl
  have c4 := (HC.out.ext HK2.out).cell 4 _ rfl
  have ⟨x00, x01, x02, x03, x04, x05⟩ := (HA.out.ext HK2.out).six
  have ⟨x10, x11, x12, x13, x14, x15⟩ := (HL.out.ext HK2.out).six
  go_wp2_with fail
  have hb2 := heap_alloc_new Y1 (.cells #[.string { data := #[97] }, .int .u8 0, .slice none 0 0, .string { data := #[] }, .int .i64 0, .int .i64 0, .string { data := #[98] }, .int .u8 0, .slice (some ⟨SC, 0, none⟩) 1 1, .string { data := #[] }, .int .i64 0, .int .i64 0] 27)
  have hE2 := (Ext.refl Y1).alloc (.cells #[.string { data := #[97] }, .int .u8 0, .slice none 0 0, .string { data := #[] }, .int .i64 0, .int .i64 0, .string { data := #[98] }, .int .u8 0, .slice (some ⟨SC, 0, none⟩) 1 1, .string { data := #[] }, .int .i64 0, .int .i64 0] 27)
  clear c0 c1 c2 c3 c4 x00 x01 x02 x03 x04 x05 x10 x11 x12 x13 x14 x15
  generalize Y1.alloc (.cells #[.string { data := #[97] }, .int .u8 0, .slice none 0 0, .string { data := #[] }, .int .i64 0, .int .i64 0, .string { data := #[98] }, .int .u8 0, .slice (some ⟨SC, 0, none⟩) 1 1, .string { data := #[] }, .int .i64 0, .int .i64 0] 27) = X2 at *
  refine (frag20 [] [ckA, ckLost] rightO_nil (by decide) (by decide) (-1) _ ck3 X2 _ _ (Elem.Row.void _ _ _) (row_two_it X2 (x := ckA) (y := ckLost) (d := .slice none 0 0) (d' := .slice (some ⟨SC, 0, none⟩) 1 1) hb2 (Elem.Row.void _ _ _) (HT.out.ext (HK2.out.trans hE2)) ck_wf.1 ck_wf.2.2.2.2)).mono ?_
  rintro e Y2 ⟨rfl, hF2⟩
  have HK3 := Lib.hid ((HK2.out.trans hE2).trans hF2)
  clear hF2 HK2 hb2 hE2
  have ⟨x00, x01, x02, x03, x04, x05⟩ := (HM.out.ext HK3.out).six
  go_wp2_with fail
  clear x00 x01 x02 x03 x04 x05
  refine (cost20 Y2 _ ⟨none, 0, 0, rfl, Elem.Row.void _ _ _, ck_wf.2.2.1⟩).mono ?_
  rintro e Y3 ⟨rfl, hF3⟩
  have HK4 := Lib.hid (HK3.out.trans hF3)
  clear hF3 HK3
  have c0 := (HC.out.ext HK4.out).cell 0 _ rfl
  have c1 := (HC.out.ext HK4.out).cell 1 _ rfl
  have c2 := (HC.out.ext HK4.out).cell 2 _ rfl
  have c3 := (HC.out.ext HK4.out).cell 3 _ rfl
  have c4 := (HC.out.ext HK4.out).cell 4 _ rfl
  have ⟨x00, x01, x02, x03, x04, x05⟩ := (HA.out.ext HK4.out).six
  have ⟨x10, x11, x12, x13, x14, x15⟩ := (HM.out.ext HK4.out).six
  go_wp2_with fail
  have hb4 := heap_alloc_new Y3 (.cells #[.string { data := #[97] }, .int .u8 0, .slice none 0 0, .string { data := #[] }, .int .i64 0, .int .i64 0, .string { data := #[109] }, .int .u8 1, .slice none 0 0, .string { data := #[97] }, .int .i64 2, .int .i64 1] 27)
  have hE4 := (Ext.refl Y3).alloc (.cells #[.string { data := #[97] }, .int .u8 0, .slice none 0 0, .string { data := #[] }, .int .i64 0, .int .i64 0, .string { data := #[109] }, .int .u8 1, .slice none 0 0, .string { data := #[97] }, .int .i64 2, .int .i64 1] 27)
  clear c0 c1 c2 c3 c4 x00 x01 x02 x03 x04 x05 x10 x11 x12 x13 x14 x15
  generalize Y3.alloc (.cells #[.string { data := #[97] }, .int .u8 0, .slice none 0 0, .string { data := #[] }, .int .i64 0, .int .i64 0, .string { data := #[109] }, .int .u8 1, .slice none 0 0, .string { data := #[97] }, .int .i64 2, .int .i64 1] 27) = X4 at *
  refine (frag20 [] [ckA, ckM] rightO_nil (by decide) (by decide) (-1) _ ck5 X4 _ _ (Elem.Row.void _ _ _) (row_two_it X4 (x := ckA) (y := ckM) (d := .slice none 0 0) (d' := .slice none 0 0) hb4 (Elem.Row.void _ _ _) (Elem.Row.void _ _ _) ck_wf.1 ck_wf.2.2.1)).mono ?_
  rintro e Y4 ⟨rfl, hF4⟩
  have HK5 := Lib.hid ((HK4.out.trans hE4).trans hF4)
  clear hF4 HK4 hb4 hE4
  have c0 := (HC.out.ext HK5.out).cell 0 _ rfl
  have c1 := (HC.out.ext HK5.out).cell 1 _ rfl
  have c2 := (HC.out.ext HK5.out).cell 2 _ rfl
  have c3 := (HC.out.ext HK5.out).cell 3 _ rfl
  have c4 := (HC.out.ext HK5.out).cell 4 _ rfl
  have ⟨x00, x01, x02, x03, x04, x05⟩ := (HA.out.ext HK5.out).six
  go_wp2_with fail
  have hb5 := heap_alloc_new Y4 (.cells #[.string { data := #[97] }, .int .u8 0, .slice none 0 0, .string { data := #[] }, .int .i64 0, .int .i64 0, .string { data := #[97] }, .int .u8 0, .slice none 0 0, .string { data := #[] }, .int .i64 0, .int .i64 0] 27)
  have hE5 := (Ext.refl Y4).alloc (.cells #[.string { data := #[97] }, .int .u8 0, .slice none 0 0, .string { data := #[] }, .int .i64 0, .int .i64 0, .string { data := #[97] }, .int .u8 0, .slice none 0 0, .string { data := #[] }, .int .i64 0, .int .i64 0] 27)
  clear c0 c1 c2 c3 c4 x00 x01 x02 x03 x04 x05
  generalize Y4.alloc (.cells #[.string { data := #[97] }, .int .u8 0, .slice none 0 0, .string { data := #[] }, .int .i64 0, .int .i64 0, .string { data := #[97] }, .int .u8 0, .slice none 0 0, .string { data := #[] }, .int .i64 0, .int .i64 0] 27) = X5 at *
  refine (frag20 [] [ckA, ckA] rightO_nil (by decide) (by decide) (-1) _ ck6 X5 _ _ (Elem.Row.void _ _ _) (row_two_it X5 (x := ckA) (y := ckA) (d := .slice none 0 0) (d' := .slice none 0 0) hb5 (Elem.Row.void _ _ _) (Elem.Row.void _ _ _) ck_wf.1 ck_wf.1)).mono ?_
  rintro e Y5 ⟨rfl, hF5⟩
  have HK6 := Lib.hid ((HK5.out.trans hE5).trans hF5)
  clear hF5 HK5 hb5 hE5
  have c0 := (HC.out.ext HK6.out).cell 0 _ rfl
  have c1 := (HC.out.ext HK6.out).cell 1 _ rfl
  have c2 := (HC.out.ext HK6.out).cell 2 _ rfl
  have c3 := (HC.out.ext HK6.out).cell 3 _ rfl
  have c4 := (HC.out.ext HK6.out).cell 4 _ rfl
  have ⟨x00, x01, x02, x03, x04, x05⟩ := (HA.out.ext HK6.out).six
  have ⟨x10, x11, x12, x13, x14, x15⟩ := (HW.out.ext HK6.out).six
  go_wp2_with fail
  have hb6 := heap_alloc_new Y5 (.cells #[.string { data := #[97] }, .int .u8 0, .slice none 0 0, .string { data := #[] }, .int .i64 0, .int .i64 0, .string { data := #[109] }, .int .u8 1, .slice none 0 0, .string { data := #[97] }, .int .i64 5, .int .i64 1] 27)
  have hE6 := (Ext.refl Y5).alloc (.cells #[.string { data := #[97] }, .int .u8 0, .slice none 0 0, .string { data := #[] }, .int .i64 0, .int .i64 0, .string { data := #[109] }, .int .u8 1, .slice none 0 0, .string { data := #[97] }, .int .i64 5, .int .i64 1] 27)
  clear c0 c1 c2 c3 c4 x00 x01 x02 x03 x04 x05 x10 x11 x12 x13 x14 x15
  generalize Y5.alloc (.cells #[.string { data := #[97] }, .int .u8 0, .slice none 0 0, .string { data := #[] }, .int .i64 0, .int .i64 0, .string { data := #[109] }, .int .u8 1, .slice none 0 0, .string { data := #[97] }, .int .i64 5, .int .i64 1] 27) = X6 at *
  refine (frag20 [] [ckA, ckWide] rightO_nil (by decide) (by decide) (-1) _ ck7 X6 _ _ (Elem.Row.void _ _ _) (row_two_it X6 (x := ckA) (y := ckWide) (d := .slice none 0 0) (d' := .slice none 0 0) hb6 (Elem.Row.void _ _ _) (Elem.Row.void _ _ _) ck_wf.1 ck_wf.2.2.2.1)).mono ?_
  rintro e Y6 ⟨rfl, hF6⟩
  have HK7 := Lib.hid ((HK6.out.trans hE6).trans hF6)
  clear hF6 HK6 hb6 hE6
  have c0 := (HC.out.ext HK7.out).cell 0 _ rfl
  have c1 := (HC.out.ext HK7.out).cell 1 _ rfl
  have c2 := (HC.out.ext HK7.out).cell 2 _ rfl
  have c3 := (HC.out.ext HK7.out).cell 3 _ rfl
  have c4 := (HC.out.ext HK7.out).cell 4 _ rfl
  have ⟨x00, x01, x02, x03, x04, x05⟩ := (HA.out.ext HK7.out).six
  go_wp2_with fail
  have hb7 := heap_alloc_new Y6 (.cells #[.string { data := #[97] }, .int .u8 0, .slice none 0 0, .string { data := #[] }, .int .i64 0, .int .i64 0] 27)
  have hE7 := (Ext.refl Y6).alloc (.cells #[.string { data := #[97] }, .int .u8 0, .slice none 0 0, .string { data := #[] }, .int .i64 0, .int .i64 0] 27)
  clear c0 c1 c2 c3 c4 x00 x01 x02 x03 x04 x05
  generalize Y6.alloc (.cells #[.string { data := #[97] }, .int .u8 0, .slice none 0 0, .string { data := #[] }, .int .i64 0, .int .i64 0] 27) = X7 at *
  refine (frag20 ckDeep [ckA] ckDeep_right (by decide) (by decide) 2 _ ck8 X7 _ _ (HD.out.ext (HK7.out.trans hE7)) (row_one_it X7 (x := ckA) (d := .slice none 0 0) hb7 (Elem.Row.void _ _ _) ck_wf.1)).mono ?_
  rintro e Y7 ⟨rfl, hF7⟩
  have HK8 := Lib.hid ((HK7.out.trans hE7).trans hF7)
  clear hF7 HK7 hb7 hE7
  go_wp2
  go_ret
  exact ⟨rfl, HEw.out.trans HK8.out⟩
end Go.Proofs.YtgclfmdpapadnaaDoor

open Go.RowKit Go.Shelf
namespace Go.Proofs.YtgclfmdpapadnaaDoor
open Go Go.Proofs Fm

set_option maxRecDepth 100000 in
set_option maxHeartbeats 8000000 in
theorem few09_any (l : List It) (w : World) (v : Value) (hv : itE.Row w l v) :
    Calls Tryd.prog 13 #[v] w fun e w' => e = .returned (.bool (fewF l)) ∧ Ext w w' := by
  obtain ⟨a, cap, rfl, h1, h2⟩ := hv.slice
  have HR := Lib.hid hv
  have hll : l.length ≤ 9223372036854775807 := by omega
  clear hv h1 h2
  go_enter Tryd.func13, Tryd.ntmps13
  go_wp2_with fail
  go_loopw [9] (fun i wr => ∃ j : Nat, j ≤ l.length ∧ i = .int .i64 j ∧ Hid ((l.take j).all lightI = true) ∧ Ext w wr) (fun i _ => l.length - (intOf i).toNat)
  case atStart => exact ⟨0, by omega, rfl, Lib.hid (by simp), Ext.refl _⟩
  case round =>
    obtain ⟨j, hj, rfl, HA, hE⟩ := hrel
    by_cases hlt : j < l.length
    case neg =>
      have hj' : j = l.length := by omega
      have HX : Hid (fewF l = decide ((l.length : Int) ≤ 60)) := Lib.hid (by
        have := HA.out; rw [hj', List.take_length] at this
        unfold fewF; rw [this, Bool.true_and, decide_eq_decide]; omega)
      clear hj' HA
      go_wp2
      go_ret
      exact ⟨by rw [HX.out]; rfl, hE⟩
    obtain ⟨b, off, rfl, hb, aa, m, cc, c0, c1, c2, c3, c4, c5, hs⟩ := it_at HR.out hE j hlt
    obtain ⟨x, hx⟩ : ∃ x, x = l[j] := ⟨_, rfl⟩
    rw [← hx] at c0 c1 c3 c4 c5 hs
    have HS := Lib.hid (hs.ext hE)
    have hml : m ≤ 9223372036854775807 := by have := HS.out.row.length_le; rw [← HS.out.len] at this; exact this
    have HXj := Lib.hid hx
    have HX0 : Hid (lightI x = false → fewF l = false) := Lib.hid (fun h => fewF_not hlt (by rw [← HXj.out]; exact h))
    have hsn := str_size x.name
    have hso := str_size x.over
    have HM := Lib.hid HS.out.len
    have hln : x.name.length ≤ 9223372036854775807 := by obtain ⟨_, _, _, _, _, h, _⟩ := HS.out; exact h
    have hlo : x.over.length ≤ 9223372036854775807 := by obtain ⟨_, _, _, _, _, _, h, _⟩ := HS.out; exact h
    clear hs hx hb
    generalize (x.kind.toNat : Int) = K at *
    have HE1 := Lib.hid (hE.alloc (.cells #[.string (str x.name), .int .u8 K, .slice aa m cc, .string (str x.over), .int .i64 x.width, .int .i64 x.quota] 27))
    have HB1 : Hid (BoxL (wr.alloc (.cells #[.string (str x.name), .int .u8 K, .slice aa m cc, .string (str x.over), .int .i64 x.width, .int .i64 x.quota] 27)) wr.heap.size [.string (str x.name), .int .u8 K, .slice aa m cc, .string (str x.over), .int .i64 x.width, .int .i64 x.quota]) := Lib.hid (BoxL.new wr _ _)
    have HE01 := Lib.hid ((Ext.refl wr).alloc (.cells #[.string (str x.name), .int .u8 K, .slice aa m cc, .string (str x.over), .int .i64 x.width, .int .i64 x.quota] 27))
    by_cases h40 : 40 < m
    case pos =>
      have HX := Lib.hid (HX0.out (lightI_after (by have := HM.out; omega)))
      have h40' : (40 : Int) < (m : Int) := by omega
      clear HA HX0
      go_wp2
      go_ret
      exact ⟨by rw [HX.out]; rfl, HE1.out⟩
    have h40' : ¬ (40 : Int) < (m : Int) := by omega
    by_cases hn : 100 < x.name.length
    case pos =>
      have HX := Lib.hid (HX0.out (lightI_name hn))
      have hn' : (100 : Int) < (x.name.length : Int) := by omega
      clear HA HX0
      go_wp2
      go_ret
      exact ⟨by rw [HX.out]; rfl, HE1.out⟩
    have hn' : ¬ (100 : Int) < (x.name.length : Int) := by omega
    by_cases ho : 100 < x.over.length
    case pos =>
      have HX := Lib.hid (HX0.out (lightI_over ho))
      have ho' : (100 : Int) < (x.over.length : Int) := by omega
      clear HA HX0
      go_wp2
      go_ret
      exact ⟨by rw [HX.out]; rfl, HE1.out⟩
    have ho' : ¬ (100 : Int) < (x.over.length : Int) := by omega
    have HL : Hid (x.after.all (fun s => decide (s.length ≤ 100)) = true → lightI x = true) := Lib.hid (fun h => lightI_mk (by have := HM.out; omega) (by omega) (by omega) h)
    have HRx := Lib.hid (HS.out.row.ext HE01.out)
    clear h40 hn ho
    go_wp2_with fail
    have hwz : wr.heap.size < (wr.alloc (.cells #[.string (str x.name), .int .u8 K, .slice aa m cc, .string (str x.over), .int .i64 x.width, .int .i64 x.quota] 27)).heap.size := by simp
    generalize wr.alloc (.cells #[.string (str x.name), .int .u8 K, .slice aa m cc, .string (str x.over), .int .i64 x.width, .int .i64 x.quota] 27) = W1 at *
    clear c0 c1 c2 c3 c4 c5
    go_loopw [32] (fun i wr2 => ∃ k : Nat, k ≤ m ∧ i = .int .i64 k ∧ Hid ((x.after.take k).all (fun s => decide (s.length ≤ 100)) = true) ∧ Ext W1 wr2) (fun i _ => m - (intOf i).toNat)
    case atStart => exact ⟨0, by omega, rfl, Lib.hid (by simp), Ext.refl _⟩
    case round =>
      obtain ⟨k, hk, rfl, HA2, hE2⟩ := hrel
      by_cases hkm : k < m
      · have hkx : k < x.after.length := by have := HM.out; omega
        obtain ⟨sb, so, rfl, hsb, hsc, hsl⟩ := str_at HRx.out hE2 k hkx
        have hss := str_size x.after[k]
        by_cases h100 : 100 < x.after[k].length
        case pos =>
          have HX := Lib.hid (HX0.out (lightI_text hkx h100))
          have h100' : (100 : Int) < (x.after[k].length : Int) := by omega
          clear h100
          go_wp2
          go_ret
          exact ⟨by rw [HX.out]; rfl, HE1.out.trans hE2⟩
        case neg =>
          have HA3 : Hid ((x.after.take (k + 1)).all (fun s => decide (s.length ≤ 100)) = true) := Lib.hid (by
            rw [List.take_add_one, List.getElem?_eq_getElem hkx, List.all_append, HA2.out]; simp; omega)
          have h100' : ¬ (100 : Int) < (x.after[k].length : Int) := by omega
          clear h100
          go_wp2
          go_roundw
          case rel => exact ⟨k + 1, by omega, by go_num, HA3, hE2⟩
          case measure => simp [intOf]; omega
      · have hkk : k = m := by omega
        have HXY : Hid ((l.take (j + 1)).all lightI = true) := Lib.hid (by
          rw [List.take_add_one, List.getElem?_eq_getElem hlt, List.all_append, HA.out]
          have := HA2.out
          rw [hkk, show m = x.after.length from HM.out, List.take_length] at this
          have := HL.out this
          rw [HXj.out] at this
          simpa using this)
        have HEr := Lib.hid (HE1.out.trans hE2)
        clear hkk
        go_wp2
        go_roundw
        case rel => exact ⟨j + 1, by omega, by go_num, HXY, HEr.out⟩
        case measure => simp [intOf]; omega
end Go.Proofs.YtgclfmdpapadnaaDoor

open Go.RowKit Go.Shelf
namespace Go.Proofs.YtgclfmdpapadnaaDoor
open Go Go.Proofs Fm

/-- Items in a row of one's own; their texts lie where they lay. -/
def ShF (w0 w : World) (v : Value) (l : List It) : Prop :=
  ∃ ds : List Value, ds.length = l.length ∧ w.ownsRow w0.heap.size 27 6 v l.length (itsCells l ds) ∧ ∀ i (hi : i < l.length) (hd : i < ds.length), strE.Row w0 l[i].after ds[i] ∧ itWf l[i]
theorem ShF.ext {w0 w w' : World} {v : Value} {l : List It} (h : ShF w0 w v l) (hE : Ext w w') : ShF w0 w' v l := by
  obtain ⟨ds, h1, h2, h3⟩ := h
  exact ⟨ds, h1, hE.own h2, h3⟩
theorem ShF.lt {w0 w : World} {v : Value} {l : List It} (h : ShF w0 w v l) : ∀ b, v.ownBlock = some b → w0.heap.size ≤ b ∧ b < w.heap.size := by
  obtain ⟨ds, h1, h2, h3⟩ := h
  exact h2.lt
theorem ShF.row {w0 w : World} {v : Value} {l : List It} (h : ShF w0 w v l) (hE : Ext w0 w) : itE.Row w l v := by
  obtain ⟨ds, h1, h2, h3⟩ := h
  have hc := fun g => World.ownsRow.cells h2 (g := g)
  rcases h2.2 with ⟨rfl, h0⟩ | ⟨g, cap, cur, rfl, hb, hg, hl, hm, h5, h6⟩
  · have : l = [] := List.eq_nil_of_length_eq_zero h0
    subst this
    exact Elem.Row.void itE w none
  · refine Elem.Row.mk rfl hl hm (Array.getElem?_eq_some_iff.1 hg).1 (fun i hi => ?_)
    have hd : i < ds.length := by omega
    obtain ⟨a1, a2⟩ := h3 i hi hd
    refine ⟨fun j => (itCells l[i] ds[i]).getD j .nilFunc, ⟨rfl, rfl, a1.ext hE, rfl, rfl, rfl, a2⟩, fun j hj => ?_⟩
    have hj6 : j < 6 := hj
    have := hc g rfl (i * 6 + j) ((itCells l[i] ds[i]).getD j .nilFunc) (by
      rw [itsCells_at l ds i j hi hd hj6, List.getD_eq_getElem?_getD, List.getElem?_eq_getElem (by simp [itCells]; omega)]
      rfl)
    rw [Addr.add_lit] at this
    exact this
theorem sizeof_item : ∀ w, (sizeOf (Tryd.prog.elem 22)).run Tryd.prog w = .ok 6 w := fun _ => by kernel_rfl
theorem slice_it_upto (a : Option Addr) (len cap k : Nat) (h1 : k ≤ cap) (w : World) :
    (Instr.slice 22 (.slice a len cap) none (some (.int .i64 (k : Int))) none).run Tryd.prog w = .ok (.slice a k cap) w := by
  rw [run_slice_h (ht := by kernel_rfl) (h0 := by omega) (h2 := by omega), sizeof_item]
  cases a <;> simp [Result.andThen, sliced, Addr.add]
end Go.Proofs.YtgclfmdpapadnaaDoor

namespace Fm
open Go Go.RowKit Go.ChangeShapes Go.WideShapes Go.ChangeAt

/-- What the reading of a slice of integers says: as the guide's skeleton has it. -/
def IsRow (k : IntKind) (w : World) (a : Option Addr) (len cap : Nat) (zs : List Int) : Prop :=
  (a = none ∧ len = 0 ∧ cap = 0 ∧ zs = []) ∨
  ∃ x, a = some x ∧ len ≤ cap ∧ cap ≤ maxLen ∧ zs.length = cap ∧ (∀ i, i < zs.length → w.cell? (x.add i) = some (.int k (zs.getD i 0))) ∧ ∀ n ∈ zs, (Lit.int k n).wf = true

theorem u8_of_wf {n : Int} (h : (Lit.int .u8 n).wf = true) : ((UInt8.ofNat n.toNat).toNat : Int) = n := by
  have : 0 ≤ n ∧ n ≤ 255 := by
    simp [Lit.wf, IntKind.min, IntKind.max, IntKind.signed, IntKind.bits] at h
    omega
  rw [toNat_ofNat_lt (by omega)]; omega

theorem i64_of_wf {n : Int} (h : (Lit.int .i64 n).wf = true) : isI64 n := by
  simp [Lit.wf, IntKind.min, IntKind.max, IntKind.signed, IntKind.bits] at h
  unfold isI64; omega

theorem IsRow.bytes {w : World} {a : Option Addr} {len cap : Nat} {zs : List Int} (h : IsRow .u8 w a len cap zs) :
    ∃ xs : List UInt8, xs.length = len ∧ Bytes w (.slice a len cap) xs := by
  rcases h with ⟨rfl, rfl, rfl, rfl⟩ | ⟨x, rfl, hl, hm, hz, hc, hw⟩
  · exact ⟨[], rfl, Bytes.nil w⟩
  · refine ⟨(zs.take len).map fun n => UInt8.ofNat n.toNat, by simp; omega, ?_⟩
    have hlen : ((zs.take len).map fun n => UInt8.ofNat n.toNat).length = len := by simp; omega
    refine ⟨some x, cap, by rw [hlen], by omega, hm, (fun h => by cases h), fun ad had h0 => ?_⟩
    cases had
    have h00 := hc 0 (by omega)
    have e0 : x.add 0 = x := by unfold Addr.add; rw [if_pos rfl]
    rw [e0] at h00
    have hs : x.spot = none := by
      cases hsp : x.spot with
      | none => rfl
      | some s =>
        unfold World.cell? at h00
        cases hb : w.heap[x.block]? with
        | none => rw [hb] at h00; cases h00
        | some o => rw [hb] at h00; cases o <;> simp [hsp] at h00
    refine ⟨hs, World.block_lt_of_cell? w x h00, fun j hj => ?_⟩
    have hj' : j < zs.length := by omega
    have hjl : j < len := by omega
    have hcj := hc j hj'
    have ea : x.add j = ⟨x.block, x.off + j, none⟩ := by
      unfold Addr.add; split
      · obtain ⟨b, o, s⟩ := x; simp at hs ⊢; exact ⟨by omega, hs⟩
      · rw [← hs]
    rw [ea] at hcj
    rw [hcj]
    have hg : zs.getD j 0 = zs[j] := by simp [List.getD, hj']
    have hwf := hw zs[j] (List.getElem_mem hj')
    rw [hg]
    simp [bv, hjl, hj']
    have := u8_of_wf hwf
    simp at this
    exact this.symm
end Fm

namespace Fm
open Go Go.RowKit Go.ChangeShapes Go.WideShapes Go.ChangeAt

/-- What reads as data of that type lies so. -/
def Elem.Reads {α : Type} (E : Elem α) (P : Program) (T : TypeId) : Prop :=
  ∀ {H : Type} (enc : TypeId × Value → H) (W : World) (base : Nat) (spare : Nat → Bool) (held : Bool) (fuel : Nat) (cs : List Value) (x : DataW H × List MemPlace),
    DataW.trod enc P W base spare held fuel T cs = some x → ∃ a : α, E.R W a (fun j => cs.getD j .nilFunc)
theorem reads_str {P : Program} {T : TypeId} (hT : P.underlying T = some .string) : strE.Reads P T := by
  intro H enc W base spare held fuel cs x h
  obtain ⟨s, rfl, -, hw⟩ := DataW.trod_string hT h
  refine ⟨s.data.toList, ?_, ?_⟩
  · show Value.string s = _
    rw [str_eta]
  · have e : s.data.toList.length = s.size := by rw [Array.length_toList]; rfl
    unfold maxLen at hw; omega
theorem reads_int {P : Program} {T : TypeId} (hT : P.underlying T = some (.int .i64)) : intE.Reads P T := by
  intro H enc W base spare held fuel cs x h
  obtain ⟨n, rfl, -, hw⟩ := DataW.trod_int hT h
  exact ⟨n, rfl, i64_of_wf hw⟩
theorem reads_u8 {P : Program} {T : TypeId} (hT : P.underlying T = some (.int .u8)) : u8E.Reads P T := by
  intro H enc W base spare held fuel cs x h
  obtain ⟨n, rfl, -, hw⟩ := DataW.trod_int hT h
  exact ⟨UInt8.ofNat n.toNat, by show Value.int _ _ = _; rw [u8_of_wf hw]⟩
theorem reads_slice {α : Type} {E : Elem α} {P : Program} {T e : TypeId} (hT : P.underlying T = some (.slice e)) (hsz : P.cellsOf e = E.sz) (hE : E.Reads P e) (hp : 0 < E.sz) : (rowE E).Reads P T := by
  intro H enc W base spare held fuel cs x h
  rcases DataW.trod_slice hT h with ⟨rfl, -⟩ | ⟨a, len, cap, elems, rest, m, hm, rfl, -, hba, hlc, hcm, hel, hat, -, -⟩
  · exact ⟨[], Elem.Row.void E W none⟩
  · have key : ∀ k, k ≤ len → ∃ l : List α, l.length = k ∧ ∀ i (hi : i < l.length), ∃ c : Nat → Value, E.R W l[i] c ∧ ∀ j, j < E.sz → W.cell? ((a.add (i * E.sz)).add j) = some (c j) := by
      intro k
      induction k with
      | zero => exact fun _ => ⟨[], rfl, fun i hi => by simp at hi⟩
      | succ k ih =>
        intro hk
        obtain ⟨l, hl, hr⟩ := ih (by omega)
        have h1 := hat k (by omega)
        rw [hsz, List.getElem?_eq_getElem (by omega)] at h1
        obtain ⟨cs', hc', ht'⟩ := Option.bind_eq_some_iff.1 h1
        obtain ⟨t, ht⟩ := hE enc W base spare held m cs' _ ht'
        obtain ⟨_, hl4, hcell⟩ := World.cells?_some hc'
        refine ⟨l ++ [t], by simp [hl], fun i hi => ?_⟩
        by_cases hik : i < l.length
        · rw [List.getElem_append_left hik]; exact hr i hik
        · have e : i = l.length := by simp at hi; omega
          subst e
          rw [List.getElem_append_right (by omega)]
          simp only [Nat.sub_self, List.getElem_cons_zero]
          refine ⟨_, ht, fun j hj => ?_⟩
          rw [hl, hcell j hj, List.getD_eq_getElem?_getD, List.getElem?_eq_getElem (by omega)]
          rfl
    obtain ⟨l, hl, hr⟩ := key len (Nat.le_refl _)
    refine ⟨l, ?_⟩
    show E.Row W l (.slice (some a) len cap)
    by_cases h0 : len = 0
    · have : l = [] := List.eq_nil_of_length_eq_zero (by omega)
      subst this h0
      exact ⟨some a, cap, rfl, by simp, hcm, (fun h => by cases h), fun _ _ => .nilFunc, fun h => by simp at h, fun i hi => by simp at hi⟩
    · obtain ⟨c, _, h00⟩ := hr 0 (by omega)
      have h00 := h00 0 hp
      rw [Nat.zero_mul] at h00
      have ea : (a.add 0).add 0 = a := by unfold Addr.add; rw [if_pos rfl, if_pos rfl]
      rw [ea] at h00
      have hs0 : a.spot = none := by
        cases hsp : a.spot with
        | none => rfl
        | some s =>
          unfold World.cell? at h00
          cases hb : W.heap[a.block]? with
          | none => rw [hb] at h00; cases h00
          | some o => rw [hb] at h00; cases o <;> simp [hsp] at h00
      obtain ⟨b, off, spot⟩ := a
      simp only at hs0
      subst hs0
      refine Elem.Row.mk hl.symm (by omega) hcm (World.block_lt_of_cell? W _ h00) (fun i hi => ?_)
      obtain ⟨c, h1, h2⟩ := hr i hi
      refine ⟨c, h1, fun j hj => ?_⟩
      have := h2 j hj
      rw [Addr.add_lit, Addr.add_lit, Nat.add_assoc] at this
      exact this
/-- A slice that is handed in. -/
theorem row_of_val {α : Type} {E : Elem α} {P : Program} {T e : TypeId} (hT : P.underlying T = some (.slice e)) (hR : (rowE E).Reads P T)
    {H : Type} {enc : TypeId × Value → H} {W : World} {r : Reach} {b0 base : Nat} {spare : Nat → Bool} {held : Bool} {v : Value} {d : DataW H} {p : List MemPlace} (hv : Value.okWide P W r b0 T v)
    (h : DataW.Trod enc P W base spare held T v d p) : ∃ l, E.Row W l v := by
  obtain ⟨b, n, c, rfl⟩ := okWide_slice hT hv
  obtain ⟨fuel, hf⟩ := h
  obtain ⟨l, hl⟩ := hR enc W base spare held fuel _ _ hf
  exact ⟨l, hl⟩
end Fm

namespace Fm
open Go Go.RowKit

def stpE : Elem Stp where
  sz := 2
  R _ x c := c 0 = .string (str x.name) ∧ c 1 = .int .i64 x.place ∧ x.name.length ≤ 9223372036854775807 ∧ isI64 x.place
  ext _ h := h
  loc hc h := ⟨(hc 0 (by omega)).symm.trans h.1, (hc 1 (by omega)).symm.trans h.2.1, h.2.2⟩
def stpCells (x : Stp) : List Value := [.string (str x.name), .int .i64 x.place]
def stpsCells (l : List Stp) : List Value := (l.map stpCells).flatten
def stpWf (x : Stp) : Prop := x.name.length ≤ 9223372036854775807 ∧ isI64 x.place
theorem stpsCells_snoc (l : List Stp) (x : Stp) : stpsCells (l ++ [x]) = stpsCells l ++ stpCells x := by unfold stpsCells; simp
theorem stpsCells_at : ∀ (l : List Stp) (i j : Nat) (hi : i < l.length), j < 2 → (stpsCells l)[i * 2 + j]? = (stpCells l[i])[j]?
  | [], i, j, hi, _ => by simp at hi
  | x :: l, 0, j, _, hj => by
    unfold stpsCells
    rw [List.map_cons, List.flatten_cons, List.getElem?_append_left (by simp [stpCells]; omega)]
    simp
  | x :: l, i + 1, j, hi, hj => by
    have ih := stpsCells_at l i j (by simpa using hi) hj
    unfold stpsCells at ih ⊢
    rw [List.map_cons, List.flatten_cons, List.getElem?_append_right (by simp [stpCells]; omega)]
    have e : (i + 1) * 2 + j - (stpCells x).length = i * 2 + j := by simp [stpCells]; omega
    rw [e, ih]
    simp
/-- A path that is handed in. -/
def PthV (w : World) (p : Pth) (v : Value) : Prop :=
  ∃ (a : Option Addr) (m c : Nat), v = .agg #[.int .i64 p.flow, .slice a m c] ∧ stpE.Row w p.steps (.slice a m c) ∧ isI64 p.flow
theorem PthV.ext {w w' : World} {p : Pth} {v : Value} (h : PthV w p v) (hE : Ext w w') : PthV w' p v := by
  obtain ⟨a, m, c, h1, h2, h3⟩ := h
  exact ⟨a, m, c, h1, h2.ext hE, h3⟩
/-- Steps in memory of one's own. -/
def OwnSt (e : TypeId) (base : Nat) (w : World) (v : Value) (l : List Stp) : Prop := w.ownsRow base e 2 v l.length (stpsCells l) ∧ ∀ x, x ∈ l → stpWf x
theorem OwnSt.nil (e : TypeId) (base : Nat) (w : World) : OwnSt e base w (.slice none 0 0) [] := ⟨World.ownsRow_nil w base e 2, fun x h => by cases h⟩
theorem OwnSt.ext {e : TypeId} {base : Nat} {w w' : World} {v : Value} {l : List Stp} (h : OwnSt e base w v l) (hE : Ext w w') : OwnSt e base w' v l := ⟨hE.own h.1, h.2⟩
theorem OwnSt.mono {e : TypeId} {base base' : Nat} {w : World} {v : Value} {l : List Stp} (h : OwnSt e base w v l) (hb : base' ≤ base) : OwnSt e base' w v l := ⟨ownsRow_base h.1 hb, h.2⟩
theorem OwnSt.lt {e : TypeId} {base : Nat} {w : World} {v : Value} {l : List Stp} (h : OwnSt e base w v l) (b : Nat) (hb : v.ownBlock = some b) : base ≤ b ∧ b < w.heap.size := World.ownsRow.lt h.1 b hb
theorem OwnSt.kept {e : TypeId} {base : Nat} {w w' : World} {v : Value} {l : List Stp} {row : Option Nat} (h : OwnSt e base w v l) (hg : w.grownBy w' row) (hr : ∀ b, row = some b → b < base) : OwnSt e base w' v l := by
  refine ⟨World.ownsRow.kept h.1 hg ?_, h.2⟩
  cases hv : v.ownBlock with
  | none => exact .inl rfl
  | some b => right; intro e; have := hr b e.symm; have := (World.ownsRow.lt h.1 b hv).1; omega
theorem OwnSt.slice {e : TypeId} {base : Nat} {w : World} {v : Value} {l : List Stp} (h : OwnSt e base w v l) : ∃ a c, v = .slice a l.length c := by
  rcases h.1.2 with ⟨rfl, h0⟩ | ⟨g, cap, cur, rfl, _⟩
  · exact ⟨none, 0, by rw [h0]⟩
  · exact ⟨_, _, rfl⟩
theorem OwnSt.row {e : TypeId} {base : Nat} {w : World} {v : Value} {l : List Stp} (h : OwnSt e base w v l) : stpE.Row w l v := by
  have hc := fun g => World.ownsRow.cells h.1 (g := g)
  rcases h.1.2 with ⟨rfl, h0⟩ | ⟨g, cap, cur, rfl, hb, hg, h1, h2, h5, h6⟩
  · have : l = [] := List.eq_nil_of_length_eq_zero h0
    subst this
    exact Elem.Row.void stpE w none
  · refine Elem.Row.mk rfl h1 h2 (Array.getElem?_eq_some_iff.1 hg).1 (fun i hi => ?_)
    have hwf := h.2 _ (List.getElem_mem hi)
    refine ⟨fun j => (stpCells l[i]).getD j .nilFunc, ⟨rfl, rfl, hwf⟩, fun j hj => ?_⟩
    have hj2 : j < 2 := hj
    have := hc g rfl (i * 2 + j) ((stpCells l[i]).getD j .nilFunc) (by
      rw [stpsCells_at l i j hi hj2, List.getD_eq_getElem?_getD, List.getElem?_eq_getElem (by simp [stpCells]; omega)]; rfl)
    rw [Addr.add_lit] at this
    exact this
theorem OwnSt.snoc {e : TypeId} {base : Nat} {w' : World} {v' : Value} {l : List Stp} {x : Stp} (hrow : w'.ownsRow base e 2 v' (l.length + 1) (stpsCells l ++ stpCells x)) (hl : ∀ y, y ∈ l → stpWf y) (hx : stpWf x) : OwnSt e base w' v' (l ++ [x]) := by
  refine ⟨by rw [List.length_append, stpsCells_snoc]; exact hrow, fun y hy => ?_⟩
  rcases List.mem_append.1 hy with hy | hy
  · exact hl y hy
  · rw [List.mem_singleton] at hy; subst hy; exact hx
/-- A path in memory of one's own. -/
def PthOwn (e : TypeId) (base : Nat) (w : World) (p : Pth) (v : Value) : Prop :=
  ∃ (a : Option Addr) (m c : Nat), v = .agg #[.int .i64 p.flow, .slice a m c] ∧ OwnSt e base w (.slice a m c) p.steps ∧ isI64 p.flow
theorem PthOwn.v {e : TypeId} {base : Nat} {w : World} {p : Pth} {v : Value} (h : PthOwn e base w p v) : PthV w p v := by
  obtain ⟨a, m, c, h1, h2, h3⟩ := h
  exact ⟨a, m, c, h1, h2.row, h3⟩
theorem PthOwn.ext {e : TypeId} {base : Nat} {w w' : World} {p : Pth} {v : Value} (h : PthOwn e base w p v) (hE : Ext w w') : PthOwn e base w' p v := by
  obtain ⟨a, m, c, h1, h2, h3⟩ := h
  exact ⟨a, m, c, h1, h2.ext hE, h3⟩
end Fm

namespace Fm
open Go Go.RowKit
/-- A configuration. -/
structure Cfg where
  k0 : Int
  k1 : Int
  k2 : Int
  k3 : Int
  k4 : Int
def CfgV (_ : World) (c : Cfg) (v : Value) : Prop := v = .agg #[.int .i64 c.k0, .int .i64 c.k1, .int .i64 c.k2, .int .i64 c.k3, .int .i64 c.k4] ∧ isI64 c.k0 ∧ isI64 c.k1 ∧ isI64 c.k2 ∧ isI64 c.k3 ∧ isI64 c.k4
end Fm
namespace Go.Proofs.YtgclfmdpapadnaaDoor
open Go Go.Proofs Fm Go.RowKit Go.ChangeShapes Go.WideShapes Go.ChangeAt

set_option maxRecDepth 100000 in
theorem fieldsCfg : Tryd.prog.underlying 32 = some (.struct #[⟨"Quota", 3, 0, false, "", "", 0⟩, ⟨"Depth", 3, 1, false, "", "", 8⟩, ⟨"Width", 3, 2, false, "", "", 16⟩, ⟨"Retry", 3, 3, false, "", "", 24⟩, ⟨"Flows", 3, 4, false, "", "", 32⟩]) := by kernel_rfl
theorem cellsC_cfg : Tryd.prog.cellsOf 32 = 5 := by kernel_rfl
theorem cellsC_int : Tryd.prog.cellsOf 3 = 1 := by kernel_rfl
set_option maxRecDepth 100000 in
/-- A configuration that is handed in by value. -/
theorem cfgv_of_val {H : Type} {enc : TypeId × Value → H} {W : World} {r : Reach} {b0 base : Nat} {spare : Nat → Bool} {held : Bool} {v : Value} {d : DataW H} {p : List MemPlace} (hv : Value.okWide Tryd.prog W r b0 32 v)
    (h : DataW.Trod enc Tryd.prog W base spare held 32 v d p) : ∃ x, CfgV W x v := by
  obtain ⟨cs, rfl, hsz⟩ := okWide_struct fieldsCfg hv
  obtain ⟨fuel, hf⟩ := h
  obtain ⟨xs, n, hfuel, hx, hlen, hxs, hf'⟩ := DataW.trod_struct fieldsCfg (show DataW.trod enc Tryd.prog W base spare held fuel 32 cs.toList = some (d, p) by simpa [Value.cells] using hf)
  rw [cellsC_cfg] at hlen
  match hcs : cs.toList, hlen with
  | [v0, v1, v2, v3, v4], _ =>
  rw [hcs] at hf'
  have g0 : DataW.trod enc Tryd.prog W base spare held n 3 (([v0, v1, v2, v3, v4].drop 0).take (Tryd.prog.cellsOf 3)) = xs[0]? := hf' 0 _ rfl
  have g1 : DataW.trod enc Tryd.prog W base spare held n 3 (([v0, v1, v2, v3, v4].drop 1).take (Tryd.prog.cellsOf 3)) = xs[1]? := hf' 1 _ rfl
  have g2 : DataW.trod enc Tryd.prog W base spare held n 3 (([v0, v1, v2, v3, v4].drop 2).take (Tryd.prog.cellsOf 3)) = xs[2]? := hf' 2 _ rfl
  have g3 : DataW.trod enc Tryd.prog W base spare held n 3 (([v0, v1, v2, v3, v4].drop 3).take (Tryd.prog.cellsOf 3)) = xs[3]? := hf' 3 _ rfl
  have g4 : DataW.trod enc Tryd.prog W base spare held n 3 (([v0, v1, v2, v3, v4].drop 4).take (Tryd.prog.cellsOf 3)) = xs[4]? := hf' 4 _ rfl
  rw [cellsC_int] at g0 g1 g2 g3 g4
  match xs, hxs with
  | [y0, y1, y2, y3, y4], _ =>
  obtain ⟨a0, r0, l0⟩ := reads_int Tryd.underlying3 enc W base spare held n [v0] y0 g0
  obtain ⟨a1, r1, l1⟩ := reads_int Tryd.underlying3 enc W base spare held n [v1] y1 g1
  obtain ⟨a2, r2, l2⟩ := reads_int Tryd.underlying3 enc W base spare held n [v2] y2 g2
  obtain ⟨a3, r3, l3⟩ := reads_int Tryd.underlying3 enc W base spare held n [v3] y3 g3
  obtain ⟨a4, r4, l4⟩ := reads_int Tryd.underlying3 enc W base spare held n [v4] y4 g4
  have ecs : cs = #[v0, v1, v2, v3, v4] := by rw [← hcs]
  have e0 : v0 = .int .i64 a0 := r0
  have e1 : v1 = .int .i64 a1 := r1
  have e2 : v2 = .int .i64 a2 := r2
  have e3 : v3 = .int .i64 a3 := r3
  have e4 : v4 = .int .i64 a4 := r4
  refine ⟨⟨a0, a1, a2, a3, a4⟩, ?_, l0, l1, l2, l3, l4⟩
  rw [ecs, e0, e1, e2, e3, e4]
end Go.Proofs.YtgclfmdpapadnaaDoor

open Go.RowKit Go.Shelf
namespace Fm
open Go Go.RowKit
/-- Whoever an item means. -/
def refsL (x : It) : List (List UInt8) := x.after ++ (if isMapI x then [x.over] else [])
theorem refsL_not {l : List Nd} {owner : Int} {I : List It} (h : refersF l owner I = false) {x : It} (hx : x ∈ I) {s : List UInt8} (hs : s ∈ refsL x) : lostF l owner I s = false := by
  unfold refersF at h
  rw [List.any_eq_false] at h
  have h1 := h x hx
  rw [Bool.or_eq_true, not_or, Bool.not_eq_true, List.any_eq_false, Bool.not_eq_true, Bool.and_eq_false_iff] at h1
  unfold refsL at hs
  rcases List.mem_append.1 hs with h2 | h2
  · have := h1.1 s h2
    simpa using this
  · rcases h1.2 with h3 | h3
    · rw [h3] at h2; simp at h2
    · cases hm : isMapI x with
      | false => rw [hm] at h2; simp at h2
      | true => rw [hm] at h2; simp at h2; rw [h2]; exact h3
theorem isMapI_iff {x : It} : isMapI x = true ↔ x.kind = 1 := by unfold isMapI; simp
/-- Which names were there. -/
noncomputable def metF (l : List It) (s : List UInt8) : Option Int := if ∃ x, x ∈ l ∧ x.name = s then some 1 else none
theorem metF_nil : (fun _ => none) = metF [] := by funext s; unfold metF; simp
theorem metF_new {I : List It} (h : twiceF I = false) {j : Nat} (hj : j < I.length) : metF (I.take j) I[j].name = none := by
  unfold metF
  rw [if_neg]
  rintro ⟨x, hx, e⟩
  rw [List.mem_take_iff_getElem] at hx
  obtain ⟨i, hi, rfl⟩ := hx
  exact twiceF_iff.1 h j i hj (by omega) e
theorem metF_old {I : List It} {j : Nat} (hj : j < I.length) : metF (I.take (j + 1)) I[j].name = some 1 := by
  unfold metF
  rw [if_pos]
  exact ⟨I[j], by rw [List.mem_take_iff_getElem]; exact ⟨j, by omega, rfl⟩, rfl⟩
end Fm
namespace Go.Proofs.YtgclfmdpapadnaaDoor
open Go Go.Proofs Fm
attribute [local go_sem] Oper.semAt_some

theorem metF_put {I : List It} {j : Nat} (hj : j < I.length) : supd (metF (I.take j)) I[j].name 1 = metF (I.take (j + 1)) := by
  funext s
  unfold supd
  by_cases e : s = I[j].name
  · rw [if_pos e, e, metF_old hj]
  · rw [if_neg e]
    unfold metF
    rw [List.take_succ_eq_append_getElem hj]
    by_cases h : ∃ x, x ∈ I.take j ∧ x.name = s
    · obtain ⟨x, hx, hxs⟩ := h
      rw [if_pos ⟨x, hx, hxs⟩, if_pos ⟨x, List.mem_append_left _ hx, hxs⟩]
    · rw [if_neg h, if_neg]
      rintro ⟨x, hx, hxs⟩
      rcases List.mem_append.1 hx with hx | hx
      · exact h ⟨x, hx, hxs⟩
      · rw [List.mem_singleton] at hx
        subst hx
        exact e hxs.symm
theorem SMap.castE {w : World} {b n : Nat} {f g : List UInt8 → Option Int} {sz : Nat} (h : SMap w b n f sz) (e : f = g) : SMap w b n g sz := by rw [← e]; exact h
/-- Texts as what is appended. -/
theorem src_strs {w : World} {l : List (List UInt8)} {v : Value} (h : strE.Row w l v) : Src Tryd.prog 1 25 v l.length (l.map strV) w := by
  obtain ⟨a, c, rfl, -, -⟩ := h.slice
  by_cases h0 : l.length = 0
  · have hl : l = [] := List.eq_nil_of_length_eq_zero h0
    subst hl
    cases a with
    | none => exact Src.ofNil w Tryd.underlying25 c
    | some ad => exact Src.ofSlice w Tryd.underlying25 _ _ _ _ rfl (fun j u hu => by simp at hu) (fun u hu => by cases hu)
  · obtain ⟨-, b, off, rfl, hb, hat⟩ := h.at (by omega)
    refine Src.ofSlice w Tryd.underlying25 _ _ _ _ (by simp) (fun j u hu => ?_) (fun u hu => ?_)
    · rw [List.getElem?_map] at hu
      obtain ⟨s, hs, rfl⟩ := Option.map_eq_some_iff.1 hu
      obtain ⟨hj, rfl⟩ := List.getElem?_eq_some_iff.1 hs
      obtain ⟨cc, hR, hcell⟩ := hat j hj
      have := hcell 0 (by decide) w (Ext.refl w)
      rw [hR.1] at this
      rw [Addr.add_lit, show off + j = off + (j * strE.sz + 0) by show off + j = off + (j * 1 + 0); omega, this]
      rfl
    · obtain ⟨s, -, rfl⟩ := List.mem_map.1 hu
      rfl
theorem strs_len {w : World} {l : List (List UInt8)} {v : Value} (h : strE.Row w l v) : ∀ s, s ∈ l → s.length ≤ 9223372036854775807 := by
  intro s hs
  obtain ⟨a, c, rfl, -, -⟩ := h.slice
  obtain ⟨i, hi, rfl⟩ := List.getElem_of_mem hs
  obtain ⟨-, b, off, -, -, hat⟩ := h.at (by omega)
  obtain ⟨cc, hR, -⟩ := hat i hi
  exact hR.2
set_option maxRecDepth 100000 in
set_option maxHeartbeats 4000000 in
theorem checkFits_any (w : World) (c : Cfg) (cv : Value) (hcv : CfgV w c cv) (l : List Int) (lv : Value) (hlv : intE.Row w l lv) (at' : Int) (_hat : isI64 at') (q : Int) (hq : isI64 q) (items : List It) (iv : Value) (hiv : itE.Row w items iv) (k : UInt8) :
    Calls Tryd.prog 5 #[cv, lv, .int .i64 at', .int .i64 q, iv, .int .u8 (k.toNat : Int)] w fun e w' => e = .returned (.bool true) ∧ Ext w w' := by
  obtain ⟨rfl, hk0, hk1, hk2, -⟩ := hcv
  obtain ⟨k0, k1, k2, k3, k4⟩ := c
  obtain ⟨al, cl, rfl, hl1, hl2⟩ := hlv.slice
  obtain ⟨ai, ci, rfl, hi1, hi2⟩ := hiv.slice
  obtain ⟨IN, hIN⟩ : ∃ IN, IN = min items.length 30 := ⟨_, rfl⟩
  have hmin : min (items.length : Int) 30 = (IN : Int) := by omega
  have hs := slice_it_upto ai items.length ci IN (by omega)
  obtain ⟨I, hI⟩ : ∃ I, I = items.take IN := ⟨_, rfl⟩
  have HI := Lib.hid (show itE.Row w I (.slice ai IN ci) by rw [hI]; exact hiv.take (by omega))
  have HIn := Lib.hid (show I.length = IN by rw [hI, List.length_take]; omega)
  have hi30 : IN ≤ 30 := by omega
  have HR := Lib.hid hlv
  have HQ := Lib.hid hq
  have HK := Lib.hid (And.intro hk1 hk2)
  have hE1 := (Ext.refl w).alloc (.cells #[.int .i64 k0, .int .i64 k1, .int .i64 k2, .int .i64 k3, .int .i64 k4] 32)
  have hB1 := BoxL.new w [.int .i64 k0, .int .i64 k1, .int .i64 k2, .int .i64 k3, .int .i64 k4] 32
  have HE1 := Lib.hid hE1
  have HB1 := Lib.hid hB1
  clear hI hIN hlv hiv hl1 hi1 hE1 hB1 hk0 hk1 hk2 hq
  simp only
  go_enter Tryd.func5, Tryd.ntmps5
  go_upto_region 1 with (fail)
  generalize w.alloc (.cells #[.int .i64 k0, .int .i64 k1, .int .i64 k2, .int .i64 k3, .int .i64 k4] 32) = W1 at *
  generalize w.heap.size = CB at *
  go_wp2_with fail
  refine (owned_any l at' W1 _ (HR.out.ext HE1.out)).mono ?_
  rintro e w2 ⟨v2, rfl, hN2, hE2⟩
  obtain ⟨A2, C2, rfl⟩ := hN2.slice
  obtain ⟨L, hL⟩ : ∃ L, L = ownedF l := ⟨_, rfl⟩
  have hO : RightO L := by rw [hL]; exact ownedF_right l
  have hLl : L.length ≤ 60 := by rw [hL, ownedF_len]; omega
  obtain ⟨OW, hOW⟩ : ∃ OW, OW = ownerF l at' := ⟨_, rfl⟩
  rw [← hL] at hN2
  rw [← hL, ← hOW]
  have HO := Lib.hid hO
  have HLl := Lib.hid hLl
  have HN2 := Lib.hid hN2.row
  have HE2 := Lib.hid (HE1.out.trans hE2)
  have HB2 := Lib.hid (HB1.out.ext hE2)
  clear hL hOW hO hLl hN2 hE2 HR HB1 HE1
  have HRt := Lib.hid (fun Y (hY : Ext w2 Y) => awake20_any Y)
  have HF := Lib.hid (fun (d ww : Int) (h : isI64 d ∧ isI64 ww) (a0 a3 a4 : Int) (qq X : Int) (hX : checkF d ww L OW qq I = X) Y (hY : Ext w2 Y) => (show Calls Tryd.prog 14 #[.agg #[.int .i64 a0, .int .i64 d, .int .i64 ww, .int .i64 a3, .int .i64 a4], .slice A2 L.length C2, .int .i64 OW, .int .i64 qq, .slice ai IN ci] Y fun e w' => e = .returned (.int .i64 X) ∧ Ext Y w' by
    rw [← hX]
    exact cFrag_any L I HO.out (by have := HLl.out; omega) (by rw [HIn.out]; omega) a0 d ww a3 a4 OW qq Y _ _ (HN2.out.ext hY) (HI.out.ext (HE2.out.trans hY))))
  go_upto_region 3 with (fail)
  clear hmin hs
  go_wp2_with fail
  refine (few09_any I w2 _ (HI.out.ext HE2.out)).mono ?_
  cases hfw : fewF I with
  | false =>
    rintro e w3 ⟨rfl, hE3⟩
    have HE3 := Lib.hid hE3
    clear hfw hE3
    go_wp2_with fail
    refine (awake20_any w3).mono ?_
    rintro e w4 ⟨rfl, hE4⟩
    have HE4 := Lib.hid ((HE2.out.trans HE3.out).trans hE4)
    clear hE4
    go_wp2
    go_ret
    exact ⟨rfl, HE4.out⟩
  | true =>
  rintro e w3 ⟨rfl, hE3⟩
  have HE3 := Lib.hid hE3
  clear hfw hE3
  have c0 := (HB2.out.ext HE3.out).cell 0 _ rfl
  have c1 := (HB2.out.ext HE3.out).cell 1 _ rfl
  have c2 := (HB2.out.ext HE3.out).cell 2 _ rfl
  have c3 := (HB2.out.ext HE3.out).cell 3 _ rfl
  have c4 := (HB2.out.ext HE3.out).cell 4 _ rfl
  go_wp2_with fail
  obtain ⟨X, hX⟩ : ∃ X, X = checkF k1 k2 L OW q I := ⟨_, rfl⟩
  refine (HF.out k1 k2 HK.out k0 k3 k4 q X hX.symm w3 HE3.out).mono ?_
  rintro e w4 ⟨rfl, hE4⟩
  have HE4 := Lib.hid (HE3.out.trans hE4)
  clear hE4 c0 c1 c2 c3 c4 HE3
  by_cases hx0 : X = 0
  case neg =>
    have t0 : (X != 0) = true := by simp [hx0]
    clear hx0 hX
    go_wp2_with fail
    refine (awake20_any w4).mono ?_
    rintro e w5 ⟨rfl, hE5⟩
    have HE5 := Lib.hid ((HE2.out.trans HE4.out).trans hE5)
    clear hE5
    go_wp2
    go_ret
    exact ⟨rfl, HE5.out⟩
  have HOk := Lib.hid (show checkF k1 k2 L OW q I = 0 by rw [← hX]; exact hx0)
  have t0 : (X != 0) = false := by simp [hx0]
  clear hx0 hX
  obtain ⟨hfr, hwi, htw, hde, hre, hto, hov⟩ := checkF_ok.1 HOk.out
  have HFr := Lib.hid hfr
  have HWi := Lib.hid (wideF_iff.1 hwi)
  have HTw := Lib.hid htw
  have HDe := Lib.hid (deepB_iff.1 hde)
  have HRe := Lib.hid hre
  have HTo := Lib.hid hto
  clear hfr hwi htw hde hre hto hov
  go_wp2_with fail
  obtain ⟨DF, hDF⟩ : ∃ DF, DF = deepF L OW := ⟨_, rfl⟩
  refine (deep_any L OW HO.out w4 _ (HN2.out.ext HE4.out)).mono ?_
  rw [← hDF] at HDe ⊢
  have hdb : 0 ≤ DF ∧ DF ≤ 1000 := by
    rw [hDF]
    unfold deepF
    cases hp : placeF L OW with
    | false => simp
    | true =>
      obtain ⟨h0, h1⟩ : 0 ≤ OW ∧ OW < L.length := by unfold placeF at hp; simpa using hp
      have := chainO_len HO.out OW.toNat (by omega)
      have := HLl.out
      rw [if_pos rfl]
      omega
  rintro e w5 ⟨rfl, hE5⟩
  have HE5 := Lib.hid (HE4.out.trans hE5)
  clear hE5 hDF HE4
  have hmm := @run_makeMap Tryd.prog
  go_upto_region 7 with (fail)
  clear hmm
  have hE6 := (Ext.refl w5).alloc (.map #[] 0)
  have HM6 := Lib.hid ((SMap.new w5).castE metF_nil)
  have HE6 := Lib.hid (HE5.out.trans hE6)
  have hMz : w2.heap.size ≤ w5.heap.size := HE5.out.size
  clear hE6
  generalize w5.alloc (.map #[] 0) = w6 at *
  generalize w5.heap.size = MB at *
  have HMz := Lib.hid hMz
  clear hMz HE5
  go_wp2_with fail
  go_loopw [57] (fun i wr => ∃ (j sz : Nat), j ≤ IN ∧ i = .int .i64 j ∧ Hid (Ext w2 wr) ∧ Hid (SMap wr MB j (metF (I.take j)) sz)) (fun i _ => IN - (intOf i).toNat)
  case atStart => exact ⟨0, 0, by omega, rfl, HE6, HM6⟩
  case round =>
    clear HE6 HM6
    obtain ⟨j, sz, hj, rfl, HE, HM⟩ := hrel
    by_cases hlt : j < IN
    case neg =>
      have HFa := Lib.hid (fair_of HFr.out)
      obtain ⟨T, hT⟩ : ∃ T, T = totalF I := ⟨_, rfl⟩
      have hTb : (IN : Int) ≤ T ∧ T ≤ 1000000000 := by
        have h1 := HFr.out
        unfold fragB at h1
        rw [Bool.and_eq_true] at h1
        have h2 := total_low h1.1
        rw [← hT, HIn.out] at h2
        omega
      have hTq : T ≤ q := by rw [hT]; exact HTo.out
      have hIw : (IN : Int) ≤ k2 := by have := HWi.out.1; rw [HIn.out] at this; exact this
      have HT0 := Lib.hid (fun Y (hY : Ext w2 Y) => (show Calls Tryd.prog 11 #[.slice ai IN ci] Y fun e w' => e = .returned (.int .i64 T) ∧ Ext Y w' by
        rw [hT]
        exact ctotal_any I HFa.out (by rw [HIn.out]; omega) Y _ (HI.out.ext (HE2.out.trans hY))))
      have HFq := Lib.hid (show checkF k1 k2 L OW T I = 0 by rw [hT]; exact checkF_total HOk.out)
      have HFl := Lib.hid (show checkF k1 k2 L OW (T - 1) I = 22 by rw [hT]; exact checkF_less HOk.out)
      have HTq := Lib.hid hTq
      have HIw := Lib.hid hIw
      clear hT
      go_wp2_with fail
      refine (fright_any I wr _ (HI.out.ext (HE2.out.trans HE.out))).mono ?_
      rw [HFr.out]
      rintro e w7 ⟨rfl, hE7⟩
      have HE7 := Lib.hid (HE.out.trans hE7)
      have c2 := (HB2.out.ext HE7.out).cell 2 _ rfl
      clear hE7 HE HM
      go_wp2_with fail
      refine (HT0.out w7 HE7.out).mono ?_
      rintro e w8 ⟨rfl, hE8⟩
      have HE8 := Lib.hid (HE7.out.trans hE8)
      clear hE8 HE7 c2
      obtain ⟨KK, hKK⟩ : ∃ KK : Int, KK = (k.toNat : Int) % 10 := ⟨_, rfl⟩
      have hkk : (k.toNat : Int) % 10 = KK := hKK.symm
      have hkb : 0 ≤ KK ∧ KK ≤ 9 := by omega
      clear hKK
      go_upto_region 29 with (fail)
      clear hkk
      have c1 := (HB2.out.ext HE8.out).cell 1 _ rfl
      have c2 := (HB2.out.ext HE8.out).cell 2 _ rfl
      go_cut [195] from 165 to 195 (fun p w' => p = .bool false ∧ Hid (Ext w2 w'))
      case first =>
        by_cases hq4 : q < 1099511627776
        case neg =>
          go_wp2_with fail
          go_meet
          case rel => exact ⟨rfl, HE8⟩
        by_cases hw4 : k2 < 1099511627776
        case neg =>
          go_wp2_with fail
          go_meet
          case rel => exact ⟨rfl, HE8⟩
        by_cases hd4 : k1 < 1099511627776
        case neg =>
          go_wp2_with fail
          go_meet
          case rel => exact ⟨rfl, HE8⟩
        have b1 : -9223372036854775808 ≤ k1 := HK.out.1.1
        have b2 : -9223372036854775808 ≤ k2 := HK.out.2.1
        have b3 : -9223372036854775808 ≤ q := HQ.out.1
        have HFm := Lib.hid (HF.out (k1 + KK) (k2 + KK) ⟨by unfold isI64; omega, by unfold isI64; omega⟩ 0 0 0 (q + KK) 0 (checkF_more hkb.1 HOk.out) w8 HE8.out)
        go_wp2_with fail
        refine HFm.out.mono ?_
        rintro e w9 ⟨rfl, hE9⟩
        have HE9 := Lib.hid (HE8.out.trans hE9)
        clear hE9 HFm
        go_wp2_with fail
        go_meet
        case rel => exact ⟨rfl, HE9⟩
      case rest =>
      obtain ⟨rfl, HEc⟩ := hcut
      clear c1 c2 HE8
      rename World => wq
      apply_assumption
      go_upto_region 31 with (fail)
      have HS : Hid (∀ w', Ext wq w' → w'.cell? ⟨CB, 0, none⟩ = some (.int .i64 k0) ∧ w'.cell? ⟨CB, 1, none⟩ = some (.int .i64 k1) ∧ w'.cell? ⟨CB, 2, none⟩ = some (.int .i64 k2) ∧ w'.cell? ⟨CB, 3, none⟩ = some (.int .i64 k3) ∧ w'.cell? ⟨CB, 4, none⟩ = some (.int .i64 k4)) := Lib.hid (fun w' hE =>
        ⟨(HB2.out.ext (HEc.out.trans hE)).cell 0 _ rfl, (HB2.out.ext (HEc.out.trans hE)).cell 1 _ rfl, (HB2.out.ext (HEc.out.trans hE)).cell 2 _ rfl, (HB2.out.ext (HEc.out.trans hE)).cell 3 _ rfl, (HB2.out.ext (HEc.out.trans hE)).cell 4 _ rfl⟩)
      have HD0 := Lib.hid (Ext.refl wq).drew
      have HT1 := Lib.hid (fun Y (hY : Ext wq Y) => HT0.out Y (HEc.out.trans hY))
      have HF1 := Lib.hid (fun Y (hY : Ext wq Y) => HF.out k1 k2 HK.out k0 k3 k4 T 0 HFq.out Y (HEc.out.trans hY))
      have HF2 := Lib.hid (fun Y (hY : Ext wq Y) => HF.out k1 k2 HK.out k0 k3 k4 (T - 1) 22 HFl.out Y (HEc.out.trans hY))
      have HEf := Lib.hid (fun Y (hY : Ext wq Y) => (HE2.out.trans HEc.out).trans hY)
      by_cases h0 : IN = 0
      · subst h0
        have hw1 : IntKind.i64.wrap (T - 1) = T - 1 := IntWalk.i64_in _ (by omega)
        have z0 : ((0 : Nat) : Int) = 0 := rfl
        refine wp_region_held_drew (S := (fun w' => w'.cell? ⟨CB, 0, none⟩ = some (.int .i64 k0) ∧ w'.cell? ⟨CB, 1, none⟩ = some (.int .i64 k1) ∧ w'.cell? ⟨CB, 2, none⟩ = some (.int .i64 k2) ∧ w'.cell? ⟨CB, 3, none⟩ = some (.int .i64 k3) ∧ w'.cell? ⟨CB, 4, none⟩ = some (.int .i64 k4))) (by kernel_rfl) ?_ (fun hHeld => ?_)
        · (try dsimp only)
          (first | exact HS.out _ (Ext.refl _) | exact HS.out _ HD0.out | exact HS.out _ E1.out | exact HS.out _ E2.out | exact HS.out _ E3.out | exact HS.out _ E4.out | exact HS.out _ E5.out)
        refine take_w 0 (some 196) (v := ?_) (by kernel_rfl) (by kernel_rfl) (by kernel_rfl) (by kernel_rfl) (by kernel_rfl) (fun _ _ _ h => h) (by rfl) ?_ (by assumption) ?_
        rotate_left
        · (intro w hSw; (try dsimp only at hSw); go_simp; try with_reducible rfl)
        try simp only [Act.put, List.setIfInBounds_toArray, List.set_cons_zero, List.set_cons_succ]
        refine take_w 1 (some 197) (v := ?_) (by kernel_rfl) (by kernel_rfl) (by kernel_rfl) (by kernel_rfl) (by kernel_rfl) (fun _ _ _ h => h) (by rfl) ?_ (by assumption) ?_
        rotate_left
        · (intro w hSw; (try dsimp only at hSw); go_simp; try with_reducible rfl)
        try simp only [Act.put, List.setIfInBounds_toArray, List.set_cons_zero, List.set_cons_succ]
        refine take_w 2 (some 198) (v := ?_) (by kernel_rfl) (by kernel_rfl) (by kernel_rfl) (by kernel_rfl) (by kernel_rfl) (fun _ _ _ h => h) (by rfl) ?_ (by assumption) ?_
        rotate_left
        · (intro w hSw; (try dsimp only at hSw); go_simp; try with_reducible rfl)
        try simp only [Act.put, List.setIfInBounds_toArray, List.set_cons_zero, List.set_cons_succ]
        refine take_w 3 (some 199) (v := ?_) (by kernel_rfl) (by kernel_rfl) (by kernel_rfl) (by kernel_rfl) (by kernel_rfl) (fun _ _ _ h => h) (by rfl) ?_ (by assumption) ?_
        rotate_left
        · (intro w hSw; (try dsimp only at hSw); go_simp; try with_reducible rfl)
        try simp only [Act.put, List.setIfInBounds_toArray, List.set_cons_zero, List.set_cons_succ]
        refine take_w 5 (some 201) (v := ?_) (by kernel_rfl) (by kernel_rfl) (by kernel_rfl) (by kernel_rfl) (by kernel_rfl) (fun _ _ _ h => h) (by rfl) ?_ (by assumption) ?_
        rotate_left
        · (intro w hSw; (try dsimp only at hSw); go_simp; try with_reducible rfl)
        try simp only [Act.put, List.setIfInBounds_toArray, List.set_cons_zero, List.set_cons_succ]
        refine ready_one 4 (by kernel_rfl) (by kernel_rfl) (by rfl) (fun Kc hKc => ?_)
        go_simp
        refine (HT1.out _ HD0.out).mono ?_
        rintro e y1 ⟨rfl, hE1⟩
        have E1 := Lib.hid (HD0.out.trans hE1)
        clear hE1
        try go_wp2_with fail
        refine hKc.out _ _ ?_ (fun hHeld => ?_)
        · (try dsimp only)
          (first | exact HS.out _ (Ext.refl _) | exact HS.out _ HD0.out | exact HS.out _ E1.out | exact HS.out _ E2.out | exact HS.out _ E3.out | exact HS.out _ E4.out | exact HS.out _ E5.out)
        clear hKc Kc
        try simp only [Act.put, List.setIfInBounds_toArray, List.set_cons_zero, List.set_cons_succ]
        refine ready_one 6 (by kernel_rfl) (by kernel_rfl) (by rfl) (fun Kc hKc => ?_)
        go_simp
        refine (HF1.out _ E1.out).mono ?_
        rintro e y2 ⟨rfl, hE2⟩
        have E2 := Lib.hid (E1.out.trans hE2)
        clear hE2
        try go_wp2_with fail
        refine hKc.out _ _ ?_ (fun hHeld => ?_)
        · (try dsimp only)
          (first | exact HS.out _ (Ext.refl _) | exact HS.out _ HD0.out | exact HS.out _ E1.out | exact HS.out _ E2.out | exact HS.out _ E3.out | exact HS.out _ E4.out | exact HS.out _ E5.out)
        clear hKc Kc
        try simp only [Act.put, List.setIfInBounds_toArray, List.set_cons_zero, List.set_cons_succ]
        refine take_w 7 (some 203) (v := ?_) (by kernel_rfl) (by kernel_rfl) (by kernel_rfl) (by kernel_rfl) (by kernel_rfl) (fun _ _ _ h => h) (by rfl) ?_ (by assumption) ?_
        rotate_left
        · (intro w hSw; (try dsimp only at hSw); go_simp; try with_reducible rfl)
        try simp only [Act.put, List.setIfInBounds_toArray, List.set_cons_zero, List.set_cons_succ]
        refine take_w 8 (some 204) (v := ?_) (by kernel_rfl) (by kernel_rfl) (by kernel_rfl) (by kernel_rfl) (by kernel_rfl) (fun _ _ _ h => h) (by rfl) ?_ (by assumption) ?_
        rotate_left
        · (intro w hSw; (try dsimp only at hSw); go_simp; try with_reducible rfl)
        try simp only [Act.put, List.setIfInBounds_toArray, List.set_cons_zero, List.set_cons_succ]
        refine take_w 9 (some 205) (v := ?_) (by kernel_rfl) (by kernel_rfl) (by kernel_rfl) (by kernel_rfl) (by kernel_rfl) (fun _ _ _ h => h) (by rfl) ?_ (by assumption) ?_
        rotate_left
        · (intro w hSw; (try dsimp only at hSw); go_simp; try with_reducible rfl)
        try simp only [Act.put, List.setIfInBounds_toArray, List.set_cons_zero, List.set_cons_succ]
        refine take_w 10 (some 206) (v := ?_) (by kernel_rfl) (by kernel_rfl) (by kernel_rfl) (by kernel_rfl) (by kernel_rfl) (fun _ _ _ h => h) (by rfl) ?_ (by assumption) ?_
        rotate_left
        · (intro w hSw; (try dsimp only at hSw); go_simp; try with_reducible rfl)
        try simp only [Act.put, List.setIfInBounds_toArray, List.set_cons_zero, List.set_cons_succ]
        refine take_w 11 (some 207) (v := ?_) (by kernel_rfl) (by kernel_rfl) (by kernel_rfl) (by kernel_rfl) (by kernel_rfl) (fun _ _ _ h => h) (by rfl) ?_ (by assumption) ?_
        rotate_left
        · (intro w hSw; (try dsimp only at hSw); go_simp; try with_reducible rfl)
        try simp only [Act.put, List.setIfInBounds_toArray, List.set_cons_zero, List.set_cons_succ]
        refine take_w 12 (some 208) (v := ?_) (by kernel_rfl) (by kernel_rfl) (by kernel_rfl) (by kernel_rfl) (by kernel_rfl) (fun _ _ _ h => h) (by rfl) ?_ (by assumption) ?_
        rotate_left
        · (intro w hSw; (try dsimp only at hSw); go_simp; try with_reducible rfl)
        try simp only [Act.put, List.setIfInBounds_toArray, List.set_cons_zero, List.set_cons_succ]
        refine take_un 7 [(13, some 209), (14, some 210), (15, some 211), (16, some 212), (17, some 213), (18, some 214), (19, some 215)] rfl (by kernel_rfl) (fun _ _ _ _ h => h) (by assumption) ?_
        simp only [putU, setU, Act.put, List.setIfInBounds_toArray, List.set_cons_zero, List.set_cons_succ]
        refine ready_u 20 (some 216) (by kernel_rfl) (by kernel_rfl) (by kernel_rfl) (by rfl) (by assumption) ?_
        try simp only [Act.put, List.setIfInBounds_toArray, List.set_cons_zero, List.set_cons_succ]
        refine take_un 1 [(21, some 217)] rfl (by kernel_rfl) (fun _ _ _ _ h => h) (by assumption) ?_
        simp only [putU, setU, Act.put, List.setIfInBounds_toArray, List.set_cons_zero, List.set_cons_succ]
        refine take_w 22 (some 218) (v := ?_) (by kernel_rfl) (by kernel_rfl) (by kernel_rfl) (by kernel_rfl) (by kernel_rfl) (fun _ _ _ h => h) (by rfl) ?_ (by assumption) ?_
        rotate_left
        · (intro w hSw; (try dsimp only at hSw); go_simp; try with_reducible rfl)
        try simp only [Act.put, List.setIfInBounds_toArray, List.set_cons_zero, List.set_cons_succ]
        refine take_w 23 (some 219) (v := ?_) (by kernel_rfl) (by kernel_rfl) (by kernel_rfl) (by kernel_rfl) (by kernel_rfl) (fun _ _ _ h => h) (by rfl) ?_ (by assumption) ?_
        rotate_left
        · (intro w hSw; (try dsimp only at hSw); go_simp; try with_reducible rfl)
        try simp only [Act.put, List.setIfInBounds_toArray, List.set_cons_zero, List.set_cons_succ]
        refine take_w 24 (some 220) (v := ?_) (by kernel_rfl) (by kernel_rfl) (by kernel_rfl) (by kernel_rfl) (by kernel_rfl) (fun _ _ _ h => h) (by rfl) ?_ (by assumption) ?_
        rotate_left
        · (intro w hSw; (try dsimp only at hSw); go_simp; try with_reducible rfl)
        try simp only [Act.put, List.setIfInBounds_toArray, List.set_cons_zero, List.set_cons_succ]
        refine ready_one 25 (by kernel_rfl) (by kernel_rfl) (by rfl) (fun Kc hKc => ?_)
        go_simp
        refine (awake20_any _).mono ?_
        rintro e y5 ⟨rfl, hE5⟩
        have E5 := Lib.hid (E2.out.trans hE5)
        clear hE5
        try go_wp2_with fail
        refine hKc.out _ _ ?_ (fun hHeld => ?_)
        · (try dsimp only)
          (first | exact HS.out _ (Ext.refl _) | exact HS.out _ HD0.out | exact HS.out _ E1.out | exact HS.out _ E2.out | exact HS.out _ E3.out | exact HS.out _ E4.out | exact HS.out _ E5.out)
        clear hKc Kc
        try simp only [Act.put, List.setIfInBounds_toArray, List.set_cons_zero, List.set_cons_succ]
        refine take_w 26 (some 222) (v := ?_) (by kernel_rfl) (by kernel_rfl) (by kernel_rfl) (by kernel_rfl) (by kernel_rfl) (fun _ _ _ h => h) (by rfl) ?_ (by assumption) ?_
        rotate_left
        · (intro w hSw; (try dsimp only at hSw); go_simp; try with_reducible rfl)
        try simp only [Act.put, List.setIfInBounds_toArray, List.set_cons_zero, List.set_cons_succ]
        refine take_w 27 (some 12) (v := ?_) (by kernel_rfl) (by kernel_rfl) (by kernel_rfl) (by kernel_rfl) (by kernel_rfl) (fun _ _ _ h => h) (by rfl) ?_ (by assumption) ?_
        rotate_left
        · (intro w hSw; (try dsimp only at hSw); go_simp; try with_reducible rfl)
        try simp only [Act.put, List.setIfInBounds_toArray, List.set_cons_zero, List.set_cons_succ]
        refine wpAnyH_done (by kernel_rfl) ?_ _
        all_goals go_wp2_with fail
        all_goals go_ret
        all_goals exact ⟨rfl, HEf.out _ E5.out⟩
      · have t1 : ((IN : Int) == 0) = false := by simp; omega
        obtain ⟨T1, hT1⟩ : ∃ T1, T1 = T - 1 := ⟨_, rfl⟩
        have hw1 : IntKind.i64.wrap T1 = T1 := IntWalk.i64_in _ (by omega)
        rw [← hT1] at HF2
        have hT2 := hT1.symm
        clear h0 hT1
        go_region_held3 (fun w' => w'.cell? ⟨CB, 0, none⟩ = some (.int .i64 k0) ∧ w'.cell? ⟨CB, 1, none⟩ = some (.int .i64 k1) ∧ w'.cell? ⟨CB, 2, none⟩ = some (.int .i64 k2) ∧ w'.cell? ⟨CB, 3, none⟩ = some (.int .i64 k3) ∧ w'.cell? ⟨CB, 4, none⟩ = some (.int .i64 k4))
          (first | exact HS.out _ (Ext.refl _) | exact HS.out _ HD0.out | exact HS.out _ E1.out | exact HS.out _ E2.out | exact HS.out _ E3.out | exact HS.out _ E4.out | exact HS.out _ E5.out)
          (first
            | (go_at_call_of 14 (#[.agg #[.int .i64 k0, .int .i64 k1, .int .i64 k2, .int .i64 k3, .int .i64 k4], .slice A2 L.length C2, .int .i64 OW, .int .i64 T, .slice ai IN ci] : Array Value)
               refine (HF1.out _ E1.out).mono ?_
               rintro e y2 ⟨rfl, hE2⟩
               have E2 := Lib.hid (E1.out.trans hE2)
               clear hE2)
            | (go_at_call_of 14 (#[.agg #[.int .i64 k0, .int .i64 k1, .int .i64 k2, .int .i64 k3, .int .i64 k4], .slice A2 L.length C2, .int .i64 OW, .int .i64 T1, .slice ai IN ci] : Array Value)
               refine (HF2.out _ E3.out).mono ?_
               rintro e y4 ⟨rfl, hE4⟩
               have E4 := Lib.hid (E3.out.trans hE4)
               clear hE4)
            | (go_at_call 11
               (first
                 | (refine (HT1.out _ E2.out).mono ?_
                    rintro e y3 ⟨rfl, hE3⟩
                    have E3 := Lib.hid (E2.out.trans hE3)
                    clear hE3)
                 | (refine (HT1.out _ HD0.out).mono ?_
                    rintro e y1 ⟨rfl, hE1⟩
                    have E1 := Lib.hid (HD0.out.trans hE1)
                    clear hE1)))
            | (go_at_call 9
               refine (awake20_any _).mono ?_
               rintro e y5 ⟨rfl, hE5⟩
               have E5 := Lib.hid (E4.out.trans hE5)
               clear hE5))
        all_goals go_wp2_with fail
        all_goals go_ret
        all_goals exact ⟨rfl, HEf.out _ E5.out⟩
    have hjI : j < I.length := by rw [HIn.out]; exact hlt
    obtain ⟨b, off, rfl, hb, aa, ma, ca, x0, x1, x2, x3, x4, x5, hit⟩ := it_at HI.out (HE2.out.trans HE.out) j hjI
    have hj0 : (0 : Int) ≤ (j : Int) := by omega
    have hj1 : (j : Int) < (IN : Int) := by omega
    obtain ⟨x, hx⟩ : ∃ x, x = I[j] := ⟨_, rfl⟩
    rw [← hx] at x0 x1 x3 x4 x5 hit
    obtain ⟨aa', ma', ca', eq', hra, hnl, hol, -⟩ := id hit
    have hrw := hit.row
    have hml := hit.len
    subst hml
    have HX := Lib.hid hx
    have HNl := Lib.hid hnl
    have HOl := Lib.hid hol
    have HAf := Lib.hid hrw
    obtain ⟨kd, hkd⟩ : ∃ kd, kd = (x.kind.toNat : Int) := ⟨_, rfl⟩
    rw [← hkd] at x1
    have HKd := Lib.hid hkd
    have hE7 := (Ext.refl wr).alloc (.cells #[.string (str x.name), .int .u8 kd, .slice aa x.after.length ca, .string (str x.over), .int .i64 x.width, .int .i64 x.quota] 27)
    have hB7 := BoxL.new wr [.string (str x.name), .int .u8 kd, .slice aa x.after.length ca, .string (str x.over), .int .i64 x.width, .int .i64 x.quota] 27
    clear hit eq' hra hnl hol hrw hx hkd
    go_upto_region 10 with (fail)
    have HE7 := Lib.hid (HE.out.trans hE7)
    have HM7 := Lib.hid (HM.out.ext hE7)
    have hMX : MB < wr.heap.size := HM.out.lt
    clear x0 x1 x2 x3 x4 x5 hE7
    generalize wr.alloc (.cells #[.string (str x.name), .int .u8 kd, .slice aa x.after.length ca, .string (str x.over), .int .i64 x.width, .int .i64 x.quota] 27) = w7 at *
    generalize wr.heap.size = XB at *
    have HB7 := Lib.hid hB7
    have y0 := hB7.cell 0 _ rfl
    have hlook := HM7.out.look HNl.out
    rw [HX.out, metF_new HTw.out hjI, ← HX.out] at hlook
    simp only [Option.getD_none] at hlook
    clear hB7
    go_upto_region 11 with (refine wpList_sput rfl _ _ _ rfl rfl HM7.out (by omega) x.name rfl HNl.out 1 rfl (by unfold isI64; omega) ?_; intro w8 hM8 hg8)
    have HM8 := Lib.hid (hM8.castE (show supd (metF (I.take j)) x.name 1 = metF (I.take (j + 1)) by rw [HX.out]; exact metF_put hjI))
    have HE8 := Lib.hid (HE7.out.grown hg8 (fun k e => by injection e with e; have := HMz.out; omega))
    have HB8 := Lib.hid (HB7.out.kept hg8 (fun e => by injection e with e; omega))
    clear hM8 hg8 y0 hlook HM7 HE7 HB7 HM HE
    have hEa := (Ext.refl w8).alloc (.cells #[] 9)
    have y2 := (HB8.out.ext hEa).cell 2 _ rfl
    have HW8 := Lib.hid (show w2.heap.size ≤ w8.heap.size ∧ XB < w8.heap.size ∧ MB < w8.heap.size from ⟨HE8.out.size, HB8.out.1, HM8.out.lt⟩)
    have HO8 := Lib.hid (World.ownsRow_made w8 #[] 0 (base := w8.heap.size) (e := 9) (size := 1) (Nat.le_refl _) (by simp) rfl)
    have HSr := Lib.hid (src_strs (HAf.out.ext ((HE2.out.trans HE8.out).trans hEa)))
    have hxl : x.after.length ≤ 20 := by
      have := HFr.out
      unfold fragB at this
      rw [Bool.and_eq_true, List.all_eq_true] at this
      have h1 := this.1 x (by rw [HX.out]; exact List.getElem_mem hjI)
      rw [itB_iff] at h1
      exact h1.2.1
    have HEa := Lib.hid hEa
    have HZa := Lib.hid (show w8.heap.size ≤ (w8.alloc (.cells #[] 9)).heap.size by simp)
    clear hEa
    go_upto_region 12 with (at_builtin; refine wpList_appAt _ elem_string rfl _ _ 25 rfl w8.heap.size _ 0 _ rfl HO8.out _ _ _ rfl HSr.out (by unfold maxLen; omega) (by omega) HZa.out ?_)
    intro v9 w9 hown9 hgrow9 _
    obtain ⟨A9, C9, rfl⟩ : ∃ A C, v9 = .slice A x.after.length C := by
      exact ownsRow_sl hown9
    have HS9 := Lib.hid (show OwnS 9 w8.heap.size w9 (.slice A9 x.after.length C9) x.after from ⟨by simpa using hown9, strs_len HAf.out⟩)
    have hE9 := HEa.out.grown hgrow9 (fun k e => (World.ownsRow.lt HO8.out k e).1)
    have HM9 := Lib.hid (HM8.out.ext hE9)
    have HB9 := Lib.hid (HB8.out.ext hE9)
    have HE9 := Lib.hid (HE8.out.trans hE9)
    have HZ9 := Lib.hid hE9.size
    clear hown9 hgrow9 hE9 y2 HO8 HSr HEa HZa HM8 HB8 HE8
    have y1 := HB9.out.cell 1 _ rfl
    have hk := u8_oneC (k := x.kind) 1
    rw [show (((1 : UInt8).toNat : Nat) : Int) = 1 from rfl, ← HKd.out] at hk
    have hdc : DF + 1 ≤ k1 := HDe.out.1 (by rw [HIn.out]; omega)
    by_cases h1 : x.kind = 1
    case' pos =>
      have t1 : (kd == 1) = true := by rw [hk]; simpa using h1
      have hw1 : x.width ≤ k2 := HWi.out.2 x (by rw [HX.out]; exact List.getElem_mem hjI) (isMapI_iff.2 h1)
      have hd1 : DF + 1 < k1 := HDe.out.2 x (by rw [HX.out]; exact List.getElem_mem hjI) (isMapI_iff.2 h1)
      have HRx := Lib.hid (show refsL x = x.after ++ [x.over] by unfold refsL; rw [if_pos (isMapI_iff.2 h1)])
      have y3 := HB9.out.cell 3 _ rfl
      have hEb := (Ext.refl w9).alloc (.cells #[.string (str x.over)] 9)
      have HNb : Hid ((w9.alloc (.cells #[.string (str x.over)] 9)).heap[w9.heap.size]? = some (.cells [.string (str x.over)].toArray 9 (0, 0))) := Lib.hid (heap_alloc_new w9 _)
      have HOb := Lib.hid (HS9.out.ext hEb)
      have HEb := Lib.hid hEb
      have HZb := Lib.hid (show w8.heap.size ≤ (w9.alloc (.cells #[.string (str x.over)] 9)).heap.size from Nat.le_trans HZ9.out hEb.size)
      clear hk h1 hEb
      go_upto_region 14 with (at_builtin; refine wpList_appOne elem_string rfl _ _ rfl rfl HOb.out.1 rfl HNb.out rfl (by simp [Value.oneCell']) (by omega) (by omega) HZb.out ?_)
      intro v10 w10 hown10 hgrow10 _
      have hS10 : OwnS 9 w8.heap.size w10 v10 (refsL x) := by rw [HRx.out]; exact OwnS.snoc hown10 HOb.out.2 HOl.out
      have hlt := (World.ownsRow.lt HOb.out.1)
      have HE10 := Lib.hid ((HE9.out.trans HEb.out).grown hgrow10 (fun k e => by have := (hlt k e).1; have := HW8.out; omega))
      have HB10 := Lib.hid ((HB9.out.ext HEb.out).kept hgrow10 (fun e => by have := (hlt _ e).1; have := HW8.out; omega))
      have HM10 := Lib.hid ((HM9.out.ext HEb.out).kept hgrow10 (fun e => by have := (hlt _ e).1; have := HW8.out; omega))
      have HS10 := Lib.hid hS10
      obtain ⟨A10, C10, rfl⟩ : ∃ A C, v10 = .slice A (refsL x).length C := ownsRow_sl hS10.1
      have y4 := HB10.out.cell 4 _ rfl
      have c1 := (HB2.out.ext HE10.out).cell 1 _ rfl
      have c2 := (HB2.out.ext HE10.out).cell 2 _ rfl
      clear hown10 hgrow10 hS10 hlt y3 HOb HNb HEb HZb HRx HS9 HE9 HB9 HM9 y1
      go_upto_region 16 with (fail)
      clear y4 c1 c2 hw1 hd1 t1
      obtain ⟨wc, rfl⟩ : ∃ wc : World, wc = w10 := ⟨_, rfl⟩
      obtain ⟨Ar, rfl⟩ : ∃ Ar, Ar = A10 := ⟨_, rfl⟩
      obtain ⟨Cr, rfl⟩ : ∃ Cr, Cr = C10 := ⟨_, rfl⟩
    case' neg =>
      have t1 : (kd == 1) = false := by rw [hk]; simpa using h1
      have HRx := Lib.hid (show refsL x = x.after by unfold refsL; rw [if_neg (fun h => h1 (isMapI_iff.1 h))]; simp)
      have HS10 := Lib.hid (show OwnS 9 w8.heap.size w9 (.slice A9 (refsL x).length C9) (refsL x) by rw [HRx.out]; exact HS9.out)
      rw [show Value.slice A9 x.after.length C9 = .slice A9 (refsL x).length C9 by rw [HRx.out]]
      have HE10 := HE9
      have HB10 := HB9
      have HM10 := HM9
      clear hk h1 HS9 HE9 HB9 HM9 HRx
      go_upto_region 16 with (fail)
      clear y1 t1
      obtain ⟨wc, rfl⟩ : ∃ wc : World, wc = w9 := ⟨_, rfl⟩
      obtain ⟨Ar, rfl⟩ : ∃ Ar, Ar = A9 := ⟨_, rfl⟩
      obtain ⟨Cr, rfl⟩ : ∃ Cr, Cr = C9 := ⟨_, rfl⟩
    all_goals
      have HLs := Lib.hid (fun s (hs : s ∈ refsL x) => refsL_not HRe.out (show x ∈ I by rw [HX.out]; exact List.getElem_mem hjI) hs)
      obtain ⟨RF, hRF⟩ : ∃ RF, RF = refsL x := ⟨_, rfl⟩
      rw [← hRF] at HS10 HLs ⊢
      obtain ⟨RN, hRN⟩ : ∃ RN, RN = RF.length := ⟨_, rfl⟩
      rw [← hRN] at HS10 ⊢
      have hRb : RN ≤ 1000 := by
        rw [hRN, hRF]
        unfold refsL
        rw [List.length_append]
        split <;> simp <;> omega
      have HRN := Lib.hid hRN
      clear hRF hRN
      go_wp2_with fail
      go_loopw [92] (fun i wz => ∃ m : Nat, m ≤ RN ∧ i = .int .i64 m ∧ Hid (Ext wc wz)) (fun i _ => RN - (intOf i).toNat)
      case atStart => exact ⟨0, by omega, rfl, Lib.hid (Ext.refl _)⟩
      case round =>
        obtain ⟨m, hm, rfl, HEi⟩ := hrel
        by_cases hml : m < RN
        case neg =>
          have HB12 := Lib.hid (HB10.out.ext HEi.out)
          have HM12 := Lib.hid (HM10.out.ext HEi.out)
          have HE12 := Lib.hid (HE10.out.trans HEi.out)
          have y0 := HB12.out.cell 0 _ rfl
          have hlook := HM12.out.look HNl.out
          rw [show metF (I.take (j + 1)) x.name = some 1 by rw [HX.out]; exact metF_old hjI] at hlook
          simp only [Option.getD_some] at hlook
          have c1 := (HB2.out.ext HE12.out).cell 1 _ rfl
          clear HB12 HS10 HB10 HM10 HE10
          go_wp2_with fail
          go_roundw
          case rel => exact ⟨j + 1, _, by omega, by go_num, HE12, HM12⟩
          case measure => simp [intOf]; omega
        have hmR : m < RF.length := by rw [← HRN.out]; exact hml
        obtain ⟨bR, oR, rfl, hbR, hcR, hsR⟩ := str_at HS10.out.row HEi.out m hmR
        obtain ⟨s, hs⟩ : ∃ s, s = RF[m] := ⟨_, rfl⟩
        have HLo := Lib.hid (HLs.out s (by rw [hs]; exact List.getElem_mem hmR))
        rw [← hs] at hcR hsR
        have HSl := Lib.hid hsR
        have hm0 : (0 : Int) ≤ (m : Int) := by omega
        have hm1 : (m : Int) < (RN : Int) := by omega
        have HE11 := Lib.hid (HE10.out.trans HEi.out)
        clear hs hsR hmR
        go_wp2_with fail
        refine (cRefs_any L I HO.out (by have := HLl.out; omega) OW s HSl.out _ _ _ (HN2.out.ext HE11.out) (HI.out.ext (HE2.out.trans HE11.out))).mono ?_
        rw [HLo.out]
        rcases lostF_not HLo.out with ⟨z, hz, hrf, hnm⟩ | ⟨z, hz, hrf, hnm⟩
        · rw [hrf]
          rintro e w13 ⟨rfl, hE13⟩
          have HEj := Lib.hid (HEi.out.trans hE13)
          obtain ⟨gb, gof, ge, hgb, ga, gm, gc, x0, -⟩ := it_at HI.out (HE2.out.trans (HE11.out.trans hE13)) z hz
          injection ge with ge
          injection ge with ge1 ge2
          subst ge1 ge2
          rw [hnm] at x0
          have hz0 : (0 : Int) ≤ (z : Int) := by omega
          have hz1 : (z : Int) < (IN : Int) := by rw [HIn.out] at hz; omega
          clear hE13 hrf hnm hcR hz hgb
          go_wp2_with fail
          go_roundw
          case rel => exact ⟨m + 1, by omega, by go_num, HEj⟩
          case measure => simp [intOf]; omega
        · rw [hrf]
          rintro e w13 ⟨rfl, hE13⟩
          have HEj := Lib.hid (HEi.out.trans hE13)
          obtain ⟨gb, gof, ge, hgb, aa2, ma2, ca2, kk2, N2, s2, d2, ⟨-, x1, -⟩, -⟩ := nd_at16 HN2.out (HE11.out.trans hE13) z hz
          subst ge
          rw [hnm] at x1
          have hz0 : (0 : Int) ≤ (z : Int) := by omega
          have hz1 : (z : Int) < (L.length : Int) := by omega
          clear hE13 hrf hnm hcR hz hgb
          go_wp2_with fail
          go_roundw
          case rel => exact ⟨m + 1, by omega, by go_num, HEj⟩
          case measure => simp [intOf]; omega
end Go.Proofs.YtgclfmdpapadnaaDoor

namespace Go.Proofs.YtgclfmdpapadnaaDoor
open Go Go.Proofs Fm Go.RowKit Go.ChangeShapes Go.WideShapes Go.ChangeAt

set_option maxRecDepth 100000 in
theorem fields6 : Tryd.prog.underlying 27 = some (.struct #[⟨"Name", 9, 0, false, "", "", 0⟩, ⟨"Kind", 5, 1, false, "", "", 16⟩, ⟨"After", 25, 2, false, "", "", 24⟩, ⟨"Over", 9, 3, false, "", "", 48⟩, ⟨"Width", 3, 4, false, "", "", 64⟩, ⟨"Quota", 3, 5, false, "", "", 72⟩]) := by kernel_rfl
theorem cells_item : Tryd.prog.cellsOf 27 = 6 := by kernel_rfl
theorem cells_str : Tryd.prog.cellsOf 9 = 1 := by kernel_rfl
theorem cells_u8 : Tryd.prog.cellsOf 5 = 1 := by kernel_rfl
theorem cells_int : Tryd.prog.cellsOf 3 = 1 := by kernel_rfl
theorem cells_strs : Tryd.prog.cellsOf 25 = 1 := by kernel_rfl
theorem reads_strs : (rowE strE).Reads Tryd.prog 25 := reads_slice Tryd.underlying25 cells_str (reads_str Tryd.underlying9) (by decide)

set_option maxRecDepth 100000 in
theorem reads_it : itE.Reads Tryd.prog 27 := by
  intro H enc W base spare held fuel cs x h
  obtain ⟨xs, n, hfuel, hx, hlen, hxs, hf⟩ := DataW.trod_struct fields6 h
  rw [cells_item] at hlen
  match cs, hlen with
  | [v0, v1, v2, v3, v4, v5], _ =>
  have g0 : DataW.trod enc Tryd.prog W base spare held n 9 (([v0, v1, v2, v3, v4, v5].drop 0).take (Tryd.prog.cellsOf 9)) = xs[0]? := hf 0 _ rfl
  have g1 : DataW.trod enc Tryd.prog W base spare held n 5 (([v0, v1, v2, v3, v4, v5].drop 1).take (Tryd.prog.cellsOf 5)) = xs[1]? := hf 1 _ rfl
  have g2 : DataW.trod enc Tryd.prog W base spare held n 25 (([v0, v1, v2, v3, v4, v5].drop 2).take (Tryd.prog.cellsOf 25)) = xs[2]? := hf 2 _ rfl
  have g3 : DataW.trod enc Tryd.prog W base spare held n 9 (([v0, v1, v2, v3, v4, v5].drop 3).take (Tryd.prog.cellsOf 9)) = xs[3]? := hf 3 _ rfl
  have g4 : DataW.trod enc Tryd.prog W base spare held n 3 (([v0, v1, v2, v3, v4, v5].drop 4).take (Tryd.prog.cellsOf 3)) = xs[4]? := hf 4 _ rfl
  have g5 : DataW.trod enc Tryd.prog W base spare held n 3 (([v0, v1, v2, v3, v4, v5].drop 5).take (Tryd.prog.cellsOf 3)) = xs[5]? := hf 5 _ rfl
  rw [cells_str] at g0 g3
  rw [cells_u8] at g1
  rw [cells_strs] at g2
  rw [cells_int] at g4 g5
  match xs, hxs with
  | [y0, y1, y2, y3, y4, y5], _ =>
  obtain ⟨a0, r0, l0⟩ := reads_str Tryd.underlying9 enc W base spare held n [v0] y0 g0
  obtain ⟨a1, r1⟩ := reads_u8 Tryd.underlying5 enc W base spare held n [v1] y1 g1
  obtain ⟨a2, r2⟩ := reads_strs enc W base spare held n [v2] y2 g2
  obtain ⟨a3, r3, l3⟩ := reads_str Tryd.underlying9 enc W base spare held n [v3] y3 g3
  obtain ⟨a4, r4, l4⟩ := reads_int Tryd.underlying3 enc W base spare held n [v4] y4 g4
  obtain ⟨a5, r5, l5⟩ := reads_int Tryd.underlying3 enc W base spare held n [v5] y5 g5
  exact ⟨⟨a0, a1, a2, a3, a4, a5⟩, r0, r1, r2, r3, r4, r5, l0, l3, l4, l5⟩
theorem reads_items : (rowE itE).Reads Tryd.prog 22 := reads_slice Tryd.underlying22 cells_item reads_it (by decide)
end Go.Proofs.YtgclfmdpapadnaaDoor

namespace Fm
open Go Go.RowKit
end Fm
namespace Go.Proofs.YtgclfmdpapadnaaDoor
open Go Go.Proofs Fm Go.RowKit Go.ChangeShapes Go.WideShapes Go.ChangeAt
theorem cells_intN : Tryd.prog.cellsOf 3 = 1 := by kernel_rfl
theorem reads_intsN : (rowE intE).Reads Tryd.prog 33 := reads_slice Tryd.underlying33 cells_intN (reads_int Tryd.underlying3) (by decide)
end Go.Proofs.YtgclfmdpapadnaaDoor
