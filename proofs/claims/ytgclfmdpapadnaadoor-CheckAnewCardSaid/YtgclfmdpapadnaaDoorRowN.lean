/- Rows of numbers and of values out of a row's reading. -/
import Derived.Test.YtgclfmdpapadnaaDoorPlQ
import Derived.Test.YtgclfmdpapadnaaDoorFragV
import Derived.Test.YtgclfmdpapadnaaDoorPlCl
import Derived.Test.YtgclfmdpapadnaaDoorVaA
import Derived.ProofKit
import Derived.OpenShut
import Derived.ShutString
import Derived.ChangeOld
import Derived.Test.YtgclfmdpapadnaaDoorProg
import Derived.Deep.RegionWith
import Derived.Deep.RegionHeld3
import Derived.BigQuiet
open Go.RowKit Go.Shelf
namespace Fm
open Go Go.RowKit
def ckA : It := ⟨[97], 0, [], [], 0, 0⟩
def ckB : It := ⟨[98], 0, [[97]], [], 0, 0⟩
def ckM : It := ⟨[109], 1, [], [97], 2, 1⟩
def ckWide : It := ⟨[109], 1, [], [97], 5, 1⟩
def ckLost : It := ⟨[98], 0, [[99]], [], 0, 0⟩
def ckDeep : List Nd := [ndFl 0 (-1), ndFl 0 0, ndFl 0 1]
theorem ck_wf : itWf ckA ∧ itWf ckB ∧ itWf ckM ∧ itWf ckWide ∧ itWf ckLost := by
  refine ⟨?_, ?_, ?_, ?_, ?_⟩ <;> exact ⟨by decide, by decide, by unfold isI64 ; decide, by unfold isI64; decide⟩
theorem ck1 : checkF 3 4 [] (-1) 5 [ckA, ckB] = 0 := by decide +kernel
theorem ck3 : checkF 3 4 [] (-1) 5 [ckA, ckLost] = 21 := by decide +kernel
theorem ck5 : checkF 3 4 [] (-1) 5 [ckA, ckM] = 22 := by decide +kernel
theorem ck6 : checkF 3 4 [] (-1) 5 [ckA, ckA] = 20 := by decide +kernel
theorem ck7 : checkF 3 4 [] (-1) 5 [ckA, ckWide] = 24 := by decide +kernel
theorem ck8 : checkF 3 4 ckDeep 2 5 [ckA] = 23 := by decide +kernel
theorem rightO_nil : RightO [] := fun i hi => by cases hi
theorem ckDeep_right : RightO ckDeep := by
  have h1 : RightO [ndFl 0 (-1)] := @rightO_snoc [] (ndFl 0 (-1)) rightO_nil (by decide) (by decide) (fun j hj _ => by have : (-1 : Int) = (j : Int) := hj; omega)
  have h2 : RightO [ndFl 0 (-1), ndFl 0 0] := @rightO_snoc [ndFl 0 (-1)] (ndFl 0 0) h1 (by decide) (by decide) (fun j hj hl => by
    have : (0 : Int) = (j : Int) := hj
    obtain rfl : j = 0 := by omega
    rfl)
  exact @rightO_snoc [ndFl 0 (-1), ndFl 0 0] (ndFl 0 1) h2 (by decide) (by decide) (fun j hj hl => by
    have : (1 : Int) = (j : Int) := hj
    obtain rfl : j = 1 := by omega
    rfl)
theorem row_two_it (w : World) {x y : It} {d d' : Value} {b : Nat} {e : TypeId} {fr : Nat × Nat} (hb : w.heap[b]? = some (.cells (itCells x d ++ itCells y d').toArray e fr)) (hd : strE.Row w x.after d) (hd' : strE.Row w y.after d') (hw : itWf x) (hw' : itWf y) : itE.Row w [x, y] (.slice (some ⟨b, 0, none⟩) 2 2) := by
  refine Elem.Row.mk rfl (by simp) (by simp [maxLen]) (Array.getElem?_eq_some_iff.1 hb).1 (fun i hi => ⟨fun j => (itCells x d ++ itCells y d').getD (i * 6 + j) .nilFunc, ?_, fun j hj => ?_⟩)
  · have hi : i < 2 := hi
    rcases (by omega : i = 0 ∨ i = 1) with rfl | rfl
    · exact ⟨rfl, rfl, hd, rfl, rfl, rfl, hw⟩
    · exact ⟨rfl, rfl, hd', rfl, rfl, rfl, hw'⟩
  · have hi : i < 2 := hi
    have hj6 : j < 6 := hj
    simp only [World.cell?, hb]
    rw [show 0 + (i * itE.sz + j) = i * 6 + j by show 0 + (i * 6 + j) = _; omega, List.getElem?_toArray, List.getD_eq_getElem?_getD, List.getElem?_eq_getElem (by simp [itCells]; omega)]
    rfl
end Fm
namespace Go.Proofs.YtgclfmdpapadnaaDoor
open Go Go.Proofs Fm
attribute [local go_sem] Oper.semAt_some

theorem frag20 (l : List Nd) (items : List It) (hO : RightO l) (hl : l.length ≤ 1000000) (hi : items.length ≤ 1000) (ow k : Int) (hk : checkF 3 4 l ow 5 items = k) (X : World) (nv iv : Value) (hN : ndE.Row X l nv) (hI : itE.Row X items iv) :
    Calls Tryd.prog 14 #[.agg #[.int .i64 0, .int .i64 3, .int .i64 4, .int .i64 0, .int .i64 0], nv, .int .i64 ow, .int .i64 5, iv] X fun e w' => e = .returned (.int .i64 k) ∧ Ext X w' := by
  rw [← hk]
  exact cFrag_any l items hO hl hi 0 3 4 0 0 ow 5 X nv iv hN hI
theorem total20 (X : World) (iv : Value) (hI : itE.Row X [ckA, ckB] iv) : Calls Tryd.prog 11 #[iv] X fun e w' => e = .returned (.int .i64 2) ∧ Ext X w' :=
  ctotal_any [ckA, ckB] (fun x hx => by
    simp only [List.mem_cons, List.not_mem_nil, or_false] at hx
    rcases hx with rfl | rfl <;> exact ⟨⟨by decide, by decide⟩, by decide, by decide⟩) (by decide) X iv hI
theorem cost20 (X : World) (v : Value) (h : ItV X ckM v) : Calls Tryd.prog 10 #[v] X fun e w' => e = .returned (.int .i64 5) ∧ Ext X w' :=
  ccost_any ckM ⟨⟨by decide, by decide⟩, by decide, by decide⟩ X v h
theorem deepRow (W : World) : ndE.Row (W.alloc (.cells (flC 0 (-1) ++ flC 0 0 ++ flC 0 1).toArray 50)) ckDeep (.slice (some ⟨W.heap.size, 0, none⟩) 3 3) := by
  have z : ∀ k : Int, -1 ≤ k → k ≤ 1 → isI64 k := fun k h1 h2 => by unfold isI64; omega
  have ho := World.ownsRow_lit W (flC 0 (-1) ++ flC 0 0 ++ flC 0 1).toArray 3 (base := W.heap.size) (e := 50) (size := 16) (Nat.le_refl _) (by unfold maxLen; omega) rfl
  refine ndRow_parts (cs := [flC 0 (-1), flC 0 0, flC 0 1]) rfl (by simpa [ckDeep] using ho) (fun i hi hc => ?_)
  have hi : i < 3 := hi
  rcases (by omega : i = 0 ∨ i = 1 ∨ i = 2) with rfl | rfl | rfl
  · exact ⟨rfl, ndFl_v (z 0 (by omega) (by omega)) (z (-1) (by omega) (by omega)) _⟩
  · exact ⟨rfl, ndFl_v (z 0 (by omega) (by omega)) (z 0 (by omega) (by omega)) _⟩
  · exact ⟨rfl, ndFl_v (z 0 (by omega) (by omega)) (z 1 (by omega) (by omega)) _⟩

set_option maxRecDepth 100000 in
set_option maxHeartbeats 8000000 in
theorem awake20_any (w : World) : Calls Tryd.prog 9 #[] w fun e w' => e = .returned (.bool true) ∧ Ext w w' := by
  go_enter Tryd.func9, Tryd.ntmps9
  go_upto_region 2 with (fail)
  have bC := BoxL.new w [.int .i64 0, .int .i64 3, .int .i64 4, .int .i64 0, .int .i64 0] 32
  have e1 := (Ext.refl w).alloc (.cells #[.int .i64 0, .int .i64 3, .int .i64 4, .int .i64 0, .int .i64 0] 32)
  have z1 : w.heap.size < (w.alloc (.cells #[.int .i64 0, .int .i64 3, .int .i64 4, .int .i64 0, .int .i64 0] 32)).heap.size := by simp
  generalize w.alloc (.cells #[.int .i64 0, .int .i64 3, .int .i64 4, .int .i64 0, .int .i64 0] 32) = W1 at *
  go_upto_region 3 with (fail)
  obtain ⟨SB, hSB⟩ : ∃ SB, SB = W1.heap.size := ⟨_, rfl⟩
  rw [← hSB]
  have hS := heap_alloc_new W1 (.cells #[.string { data := #[97] }] 9)
  have e2 := (Ext.refl W1).alloc (.cells #[.string { data := #[97] }] 9)
  have z2 : (W1.alloc (.cells #[.string { data := #[97] }] 9)).heap.size = W1.heap.size + 1 := by simp
  rw [← hSB] at hS z2
  generalize W1.alloc (.cells #[.string { data := #[97] }] 9) = W2 at *
  have hSr : strE.Row W2 [[97]] (.slice (some ⟨SB, 0, none⟩) 1 1) := row_one_str W2 hS (by decide)
  have bA := BoxL.new W2 [.string { data := #[97] }, .int .u8 0, .slice none 0 0, .string { data := #[] }, .int .i64 0, .int .i64 0] 27
  have e3 := (Ext.refl W2).alloc (.cells #[.string { data := #[97] }, .int .u8 0, .slice none 0 0, .string { data := #[] }, .int .i64 0, .int .i64 0] 27)
  have z3 : (W2.alloc (.cells #[.string { data := #[97] }, .int .u8 0, .slice none 0 0, .string { data := #[] }, .int .i64 0, .int .i64 0] 27)).heap.size = SB + 1 + 1 := by simp [z2]
  rw [z2] at bA
  generalize W2.alloc (.cells #[.string { data := #[97] }, .int .u8 0, .slice none 0 0, .string { data := #[] }, .int .i64 0, .int .i64 0] 27) = W3 at *
  have bB := BoxL.new W3 [.string { data := #[98] }, .int .u8 0, .slice (some ⟨SB, 0, none⟩) 1 1, .string { data := #[] }, .int .i64 0, .int .i64 0] 27
  have e4 := (Ext.refl W3).alloc (.cells #[.string { data := #[98] }, .int .u8 0, .slice (some ⟨SB, 0, none⟩) 1 1, .string { data := #[] }, .int .i64 0, .int .i64 0] 27)
  rw [z3] at bB
  generalize W3.alloc (.cells #[.string { data := #[98] }, .int .u8 0, .slice (some ⟨SB, 0, none⟩) 1 1, .string { data := #[] }, .int .i64 0, .int .i64 0] 27) = W4 at *
  clear hSB z2 z3 hS z1
  have HS := Lib.hid ((hSr.ext e3).ext e4)
  have HC := Lib.hid (((bC.ext e2).ext e3).ext e4)
  have HA := Lib.hid (bA.ext e4)
  have HB := Lib.hid bB
  have HE4 := Lib.hid (((e1.trans e2).trans e3).trans e4)
  clear bA bB bC e1 e2 e3 e4 hSr
  go_upto_region 4 with (fail)
  have bM := BoxL.new W4 [.string { data := #[109] }, .int .u8 1, .slice none 0 0, .string { data := #[97] }, .int .i64 2, .int .i64 1] 27
  have e5 := (Ext.refl W4).alloc (.cells #[.string { data := #[109] }, .int .u8 1, .slice none 0 0, .string { data := #[97] }, .int .i64 2, .int .i64 1] 27)
  generalize W4.alloc (.cells #[.string { data := #[109] }, .int .u8 1, .slice none 0 0, .string { data := #[97] }, .int .i64 2, .int .i64 1] 27) = W5 at *
  have z5 : W4.heap.size < W5.heap.size := bM.1
  generalize W4.heap.size = BM at *
  have ⟨m0, m1, m2, m3, m4, m5⟩ := bM.six
  go_upto_region 5 with (fail)
  have bW := BoxL.new W5 [.string { data := #[109] }, .int .u8 1, .slice none 0 0, .string { data := #[97] }, .int .i64 2, .int .i64 1] 27
  have e6 := (Ext.refl W5).alloc (.cells #[.string { data := #[109] }, .int .u8 1, .slice none 0 0, .string { data := #[97] }, .int .i64 2, .int .i64 1] 27)
  have HM := Lib.hid (bM.ext e6)
  clear m0 m1 m2 m3 m4 m5 bM
  generalize W5.alloc (.cells #[.string { data := #[109] }, .int .u8 1, .slice none 0 0, .string { data := #[97] }, .int .i64 2, .int .i64 1] 27) = W6 at *
  generalize hBW : W5.heap.size = BW at *
  have w4 := bW.cell 4 _ rfl
  have w4' := bW.free 4
  go_upto_region 6 with (fail)
  have HW := Lib.hid (bW.set 4 (by simp) (.int .i64 5))
  have e7 : Ext W5 (W6.setCell ⟨BW, 4, none⟩ (.int .i64 5)) := e6.setCell (p := ⟨BW, 4, none⟩) (by show W5.heap.size ≤ BW; omega) _
  have HM := Lib.hid (HM.out.kept (setOne_grown W6 BW 4 (.int .i64 5)) (fun e => by injection e with e; omega))
  clear w4 w4' bW e6
  generalize W6.setCell ⟨BW, 4, none⟩ (.int .i64 5) = W7 at *
  have HB7 := Lib.hid (HB.out.ext (e5.trans e7))
  have ⟨x0, x1, x2, x3, x4, x5⟩ := HB7.out.six
  go_upto_region 7 with (fail)
  have bL := BoxL.new W7 [.string { data := #[98] }, .int .u8 0, .slice (some ⟨SB, 0, none⟩) 1 1, .string { data := #[] }, .int .i64 0, .int .i64 0] 27
  have e8 := (Ext.refl W7).alloc (.cells #[.string { data := #[98] }, .int .u8 0, .slice (some ⟨SB, 0, none⟩) 1 1, .string { data := #[] }, .int .i64 0, .int .i64 0] 27)
  clear x0 x1 x2 x3 x4 x5
  generalize W7.alloc (.cells #[.string { data := #[98] }, .int .u8 0, .slice (some ⟨SB, 0, none⟩) 1 1, .string { data := #[] }, .int .i64 0, .int .i64 0] 27) = W8 at *
  generalize hBL : W7.heap.size = BL at *
  have e9 := (Ext.refl W8).alloc (.cells #[.string { data := #[99] }] 9)
  have l2 := (bL.ext e9).cell 2 _ rfl
  have l2' := (bL.ext e9).free 2
  have lz : BL < W8.heap.size := bL.1
  go_upto_region 8 with (fail)
  have hL9 : BoxL ((W8.setCell ⟨BL, 2, none⟩ (.slice (some ⟨W8.heap.size, 0, none⟩) 1 1)).alloc (.cells #[.string { data := #[99] }] 9)) BL [.string { data := #[98] }, .int .u8 0, .slice (some ⟨W8.heap.size, 0, none⟩) 1 1, .string { data := #[] }, .int .i64 0, .int .i64 0] := (bL.set 2 (by simp) (.slice (some ⟨W8.heap.size, 0, none⟩) 1 1)).ext ((Ext.refl _).alloc _)
  have hE9 : Ext W7 ((W8.setCell ⟨BL, 2, none⟩ (.slice (some ⟨W8.heap.size, 0, none⟩) 1 1)).alloc (.cells #[.string { data := #[99] }] 9)) := (e8.setCell (p := ⟨BL, 2, none⟩) (by show W7.heap.size ≤ BL; omega) _).alloc _
  have hT9 := heap_alloc_new (W8.setCell ⟨BL, 2, none⟩ (.slice (some ⟨W8.heap.size, 0, none⟩) 1 1)) (.cells #[.string { data := #[99] }] 9)
  rw [World.size_setCell] at hT9
  clear e9 l2 l2' lz bL e8
  generalize (W8.setCell ⟨BL, 2, none⟩ (.slice (some ⟨W8.heap.size, 0, none⟩) 1 1)).alloc (.cells #[.string { data := #[99] }] 9) = W9 at *
  generalize W8.heap.size = SC at *
  have HL := Lib.hid hL9
  have HT := Lib.hid (row_one_str W9 (s := [99]) hT9 (by decide))
  have HE9 := Lib.hid ((e5.trans e7).trans hE9)
  have HM := Lib.hid (HM.out.ext hE9)
  have HW := Lib.hid (HW.out.ext hE9)
  clear hL9 hE9 hT9 e5 e7 z5 HB7
  have hD := deepRow W9
  have hE10 := (Ext.refl W9).alloc (.cells (flC 0 (-1) ++ flC 0 0 ++ flC 0 1).toArray 50)
  simp only [flC, List.cons_append, List.nil_append] at hD hE10
  go_upto_region 9 with (fail)
  generalize W9.alloc (.cells #[.string { data := #[] }, .string { data := #[] }, .int .u8 0, .int .i64 0, .int .i64 (-1), .int .i64 0, .slice none 0 0, .int .i64 0, .int .i64 0, .int .u8 0, .int .i64 0, .int .i64 0, .int .u8 0, .int .i64 0, .string { data := #[] }, .slice none 0 0, .string { data := #[] }, .string { data := #[] }, .int .u8 0, .int .i64 0, .int .i64 0, .int .i64 0, .slice none 0 0, .int .i64 0, .int .i64 0, .int .u8 0, .int .i64 0, .int .i64 0, .int .u8 0, .int .i64 0, .string { data := #[] }, .slice none 0 0, .string { data := #[] }, .string { data := #[] }, .int .u8 0, .int .i64 0, .int .i64 1, .int .i64 0, .slice none 0 0, .int .i64 0, .int .i64 0, .int .u8 0, .int .i64 0, .int .i64 0, .int .u8 0, .int .i64 0, .string { data := #[] }, .slice none 0 0] 50) = WA at *
  generalize W9.heap.size = DB at *
  have HD := Lib.hid hD
  have HS := Lib.hid ((HS.out.ext HE9.out).ext hE10)
  have HT := Lib.hid (HT.out.ext hE10)
  have HC := Lib.hid ((HC.out.ext HE9.out).ext hE10)
  have HA := Lib.hid ((HA.out.ext HE9.out).ext hE10)
  have HB := Lib.hid ((HB.out.ext HE9.out).ext hE10)
  have HM := Lib.hid (HM.out.ext hE10)
  have HW := Lib.hid (HW.out.ext hE10)
  have HL := Lib.hid (HL.out.ext hE10)
  have HEw := Lib.hid ((HE4.out.trans HE9.out).trans hE10)
  have HK0 := Lib.hid (Ext.refl WA)
  clear hD hE10 HE4 HE9
  have c0 := (HC.out.ext HK0.out).cell 0 _ rfl
  have c1 := (HC.out.ext HK0.out).cell 1 _ rfl
  have c2 := (HC.out.ext HK0.out).cell 2 _ rfl
  have c3 := (HC.out.ext HK0.out).cell 3 _ rfl
  have c4 := (HC.out.ext HK0.out).cell 4 _ rfl
  have ⟨x00, x01, x02, x03, x04, x05⟩ := (HA.out.ext HK0.out).six
  have ⟨x10, x11, x12, x13, x14, x15⟩ := (HB.out.ext HK0.out).six
  go_wp2_with fail
  have hb0 := heap_alloc_new WA (.cells #[.string { data := #[97] }, .int .u8 0, .slice none 0 0, .string { data := #[] }, .int .i64 0, .int .i64 0, .string { data := #[98] }, .int .u8 0, .slice (some ⟨SB, 0, none⟩) 1 1, .string { data := #[] }, .int .i64 0, .int .i64 0] 27)
  have hE0 := (Ext.refl WA).alloc (.cells #[.string { data := #[97] }, .int .u8 0, .slice none 0 0, .string { data := #[] }, .int .i64 0, .int .i64 0, .string { data := #[98] }, .int .u8 0, .slice (some ⟨SB, 0, none⟩) 1 1, .string { data := #[] }, .int .i64 0, .int .i64 0] 27)
  clear c0 c1 c2 c3 c4 x00 x01 x02 x03 x04 x05 x10 x11 x12 x13 x14 x15
  generalize WA.alloc (.cells #[.string { data := #[97] }, .int .u8 0, .slice none 0 0, .string { data := #[] }, .int .i64 0, .int .i64 0, .string { data := #[98] }, .int .u8 0, .slice (some ⟨SB, 0, none⟩) 1 1, .string { data := #[] }, .int .i64 0, .int .i64 0] 27) = X0 at *
  refine (frag20 [] [ckA, ckB] rightO_nil (by decide) (by decide) (-1) _ ck1 X0 _ _ (Elem.Row.void _ _ _) (row_two_it X0 (x := ckA) (y := ckB) (d := .slice none 0 0) (d' := .slice (some ⟨SB, 0, none⟩) 1 1) hb0 (Elem.Row.void _ _ _) (HS.out.ext (HK0.out.trans hE0)) ck_wf.1 ck_wf.2.1)).mono ?_
  rintro e Y0 ⟨rfl, hF0⟩
  have HK1 := Lib.hid ((HK0.out.trans hE0).trans hF0)
  clear hF0 HK0 hb0 hE0
  have ⟨x00, x01, x02, x03, x04, x05⟩ := (HA.out.ext HK1.out).six
  have ⟨x10, x11, x12, x13, x14, x15⟩ := (HB.out.ext HK1.out).six
  go_wp2_with fail
  have hb1 := heap_alloc_new Y0 (.cells #[.string { data := #[97] }, .int .u8 0, .slice none 0 0, .string { data := #[] }, .int .i64 0, .int .i64 0, .string { data := #[98] }, .int .u8 0, .slice (some ⟨SB, 0, none⟩) 1 1, .string { data := #[] }, .int .i64 0, .int .i64 0] 27)
  have hE1 := (Ext.refl Y0).alloc (.cells #[.string { data := #[97] }, .int .u8 0, .slice none 0 0, .string { data := #[] }, .int .i64 0, .int .i64 0, .string { data := #[98] }, .int .u8 0, .slice (some ⟨SB, 0, none⟩) 1 1, .string { data := #[] }, .int .i64 0, .int .i64 0] 27)
  clear x00 x01 x02 x03 x04 x05 x10 x11 x12 x13 x14 x15
  generalize Y0.alloc (.cells #[.string { data := #[97] }, .int .u8 0, .slice none 0 0, .string { data := #[] }, .int .i64 0, .int .i64 0, .string { data := #[98] }, .int .u8 0, .slice (some ⟨SB, 0, none⟩) 1 1, .string { data := #[] }, .int .i64 0, .int .i64 0] 27) = X1 at *
  refine (total20 X1 _ (row_two_it X1 (x := ckA) (y := ckB) (d := .slice none 0 0) (d' := .slice (some ⟨SB, 0, none⟩) 1 1) hb1 (Elem.Row.void _ _ _) (HS.out.ext (HK1.out.trans hE1)) ck_wf.1 ck_wf.2.1)).mono ?_
  rintro e Y1 ⟨rfl, hF1⟩
  have HK2 := Lib.hid ((HK1.out.trans hE1).trans hF1)
  clear hF1 HK1 hb1 hE1
  have c0 := (HC.out.ext HK2.out).cell 0 _ rfl
  have c1 := (HC.out.ext HK2.out).cell 1 _ rfl
  have c2 := (HC.out.ext HK2.out).cell 2 _ rfl
  have c3 := (HC.out.ext HK2.out).cell 3 _ rfl
  have c4 := (HC.out.ext HK2.out).cell 4 _ rfl
  have ⟨x00, x01, x02, x03, x04, x05⟩ := (HA.out.ext HK2.out).six
  have ⟨x10, x11, x12, x13, x14, x15⟩ := (HL.out.ext HK2.out).six
  go_wp2_with fail
  have hb2 := heap_alloc_new Y1 (.cells #[.string { data := #[97] }, .int .u8 0, .slice none 0 0, .string { data := #[] }, .int .i64 0, .int .i64 0, .string { data := #[98] }, .int .u8 0, .slice (some ⟨SC, 0, none⟩) 1 1, .string { data := #[] }, .int .i64 0, .int .i64 0] 27)
  have hE2 := (Ext.refl Y1).alloc (.cells #[.string { data := #[97] }, .int .u8 0, .slice none 0 0, .string { data := #[] }, .int .i64 0, .int .i64 0, .string { data := #[98] }, .int .u8 0, .slice (some ⟨SC, 0, none⟩) 1 1, .string { data := #[] }, .int .i64 0, .int .i64 0] 27)
  clear c0 c1 c2 c3 c4 x00 x01 x02 x03 x04 x05 x10 x11 x12 x13 x14 x15
  generalize Y1.alloc (.cells #[.string { data := #[97] }, .int .u8 0, .slice none 0 0, .string { data := #[] }, .int .i64 0, .int .i64 0, .string { data := #[98] }, .int .u8 0, .slice (some ⟨SC, 0, none⟩) 1 1, .string { data := #[] }, .int .i64 0, .int .i64 0] 27) = X2 at *
  refine (frag20 [] [ckA, ckLost] rightO_nil (by decide) (by decide) (-1) _ ck3 X2 _ _ (Elem.Row.void _ _ _) (row_two_it X2 (x := ckA) (y := ckLost) (d := .slice none 0 0) (d' := .slice (some ⟨SC, 0, none⟩) 1 1) hb2 (Elem.Row.void _ _ _) (HT.out.ext (HK2.out.trans hE2)) ck_wf.1 ck_wf.2.2.2.2)).mono ?_
  rintro e Y2 ⟨rfl, hF2⟩
  have HK3 := Lib.hid ((HK2.out.trans hE2).trans hF2)
  clear hF2 HK2 hb2 hE2
  have ⟨x00, x01, x02, x03, x04, x05⟩ := (HM.out.ext HK3.out).six
  go_wp2_with fail
  clear x00 x01 x02 x03 x04 x05
  refine (cost20 Y2 _ ⟨none, 0, 0, rfl, Elem.Row.void _ _ _, ck_wf.2.2.1⟩).mono ?_
  rintro e Y3 ⟨rfl, hF3⟩
  have HK4 := Lib.hid (HK3.out.trans hF3)
  clear hF3 HK3
  have c0 := (HC.out.ext HK4.out).cell 0 _ rfl
  have c1 := (HC.out.ext HK4.out).cell 1 _ rfl
  have c2 := (HC.out.ext HK4.out).cell 2 _ rfl
  have c3 := (HC.out.ext HK4.out).cell 3 _ rfl
  have c4 := (HC.out.ext HK4.out).cell 4 _ rfl
  have ⟨x00, x01, x02, x03, x04, x05⟩ := (HA.out.ext HK4.out).six
  have ⟨x10, x11, x12, x13, x14, x15⟩ := (HM.out.ext HK4.out).six
  go_wp2_with fail
  have hb4 := heap_alloc_new Y3 (.cells #[.string { data := #[97] }, .int .u8 0, .slice none 0 0, .string { data := #[] }, .int .i64 0, .int .i64 0, .string { data := #[109] }, .int .u8 1, .slice none 0 0, .string { data := #[97] }, .int .i64 2, .int .i64 1] 27)
  have hE4 := (Ext.refl Y3).alloc (.cells #[.string { data := #[97] }, .int .u8 0, .slice none 0 0, .string { data := #[] }, .int .i64 0, .int .i64 0, .string { data := #[109] }, .int .u8 1, .slice none 0 0, .string { data := #[97] }, .int .i64 2, .int .i64 1] 27)
  clear c0 c1 c2 c3 c4 x00 x01 x02 x03 x04 x05 x10 x11 x12 x13 x14 x15
  generalize Y3.alloc (.cells #[.string { data := #[97] }, .int .u8 0, .slice none 0 0, .string { data := #[] }, .int .i64 0, .int .i64 0, .string { data := #[109] }, .int .u8 1, .slice none 0 0, .string { data := #[97] }, .int .i64 2, .int .i64 1] 27) = X4 at *
  refine (frag20 [] [ckA, ckM] rightO_nil (by decide) (by decide) (-1) _ ck5 X4 _ _ (Elem.Row.void _ _ _) (row_two_it X4 (x := ckA) (y := ckM) (d := .slice none 0 0) (d' := .slice none 0 0) hb4 (Elem.Row.void _ _ _) (Elem.Row.void _ _ _) ck_wf.1 ck_wf.2.2.1)).mono ?_
  rintro e Y4 ⟨rfl, hF4⟩
  have HK5 := Lib.hid ((HK4.out.trans hE4).trans hF4)
  clear hF4 HK4 hb4 hE4
  have c0 := (HC.out.ext HK5.out).cell 0 _ rfl
  have c1 := (HC.out.ext HK5.out).cell 1 _ rfl
  have c2 := (HC.out.ext HK5.out).cell 2 _ rfl
  have c3 := (HC.out.ext HK5.out).cell 3 _ rfl
  have c4 := (HC.out.ext HK5.out).cell 4 _ rfl
  have ⟨x00, x01, x02, x03, x04, x05⟩ := (HA.out.ext HK5.out).six
  go_wp2_with fail
  have hb5 := heap_alloc_new Y4 (.cells #[.string { data := #[97] }, .int .u8 0, .slice none 0 0, .string { data := #[] }, .int .i64 0, .int .i64 0, .string { data := #[97] }, .int .u8 0, .slice none 0 0, .string { data := #[] }, .int .i64 0, .int .i64 0] 27)
  have hE5 := (Ext.refl Y4).alloc (.cells #[.string { data := #[97] }, .int .u8 0, .slice none 0 0, .string { data := #[] }, .int .i64 0, .int .i64 0, .string { data := #[97] }, .int .u8 0, .slice none 0 0, .string { data := #[] }, .int .i64 0, .int .i64 0] 27)
  clear c0 c1 c2 c3 c4 x00 x01 x02 x03 x04 x05
  generalize Y4.alloc (.cells #[.string { data := #[97] }, .int .u8 0, .slice none 0 0, .string { data := #[] }, .int .i64 0, .int .i64 0, .string { data := #[97] }, .int .u8 0, .slice none 0 0, .string { data := #[] }, .int .i64 0, .int .i64 0] 27) = X5 at *
  refine (frag20 [] [ckA, ckA] rightO_nil (by decide) (by decide) (-1) _ ck6 X5 _ _ (Elem.Row.void _ _ _) (row_two_it X5 (x := ckA) (y := ckA) (d := .slice none 0 0) (d' := .slice none 0 0) hb5 (Elem.Row.void _ _ _) (Elem.Row.void _ _ _) ck_wf.1 ck_wf.1)).mono ?_
  rintro e Y5 ⟨rfl, hF5⟩
  have HK6 := Lib.hid ((HK5.out.trans hE5).trans hF5)
  clear hF5 HK5 hb5 hE5
  have c0 := (HC.out.ext HK6.out).cell 0 _ rfl
  have c1 := (HC.out.ext HK6.out).cell 1 _ rfl
  have c2 := (HC.out.ext HK6.out).cell 2 _ rfl
  have c3 := (HC.out.ext HK6.out).cell 3 _ rfl
  have c4 := (HC.out.ext HK6.out).cell 4 _ rfl
  have ⟨x00, x01, x02, x03, x04, x05⟩ := (HA.out.ext HK6.out).six
  have ⟨x10, x11, x12, x13, x14, x15⟩ := (HW.out.ext HK6.out).six
  go_wp2_with fail
  have hb6 := heap_alloc_new Y5 (.cells #[.string { data := #[97] }, .int .u8 0, .slice none 0 0, .string { data := #[] }, .int .i64 0, .int .i64 0, .string { data := #[109] }, .int .u8 1, .slice none 0 0, .string { data := #[97] }, .int .i64 5, .int .i64 1] 27)
  have hE6 := (Ext.refl Y5).alloc (.cells #[.string { data := #[97] }, .int .u8 0, .slice none 0 0, .string { data := #[] }, .int .i64 0, .int .i64 0, .string { data := #[109] }, .int .u8 1, .slice none 0 0, .string { data := #[97] }, .int .i64 5, .int .i64 1] 27)
  clear c0 c1 c2 c3 c4 x00 x01 x02 x03 x04 x05 x10 x11 x12 x13 x14 x15
  generalize Y5.alloc (.cells #[.string { data := #[97] }, .int .u8 0, .slice none 0 0, .string { data := #[] }, .int .i64 0, .int .i64 0, .string { data := #[109] }, .int .u8 1, .slice none 0 0, .string { data := #[97] }, .int .i64 5, .int .i64 1] 27) = X6 at *
  refine (frag20 [] [ckA, ckWide] rightO_nil (by decide) (by decide) (-1) _ ck7 X6 _ _ (Elem.Row.void _ _ _) (row_two_it X6 (x := ckA) (y := ckWide) (d := .slice none 0 0) (d' := .slice none 0 0) hb6 (Elem.Row.void _ _ _) (Elem.Row.void _ _ _) ck_wf.1 ck_wf.2.2.2.1)).mono ?_
  rintro e Y6 ⟨rfl, hF6⟩
  have HK7 := Lib.hid ((HK6.out.trans hE6).trans hF6)
  clear hF6 HK6 hb6 hE6
  have c0 := (HC.out.ext HK7.out).cell 0 _ rfl
  have c1 := (HC.out.ext HK7.out).cell 1 _ rfl
  have c2 := (HC.out.ext HK7.out).cell 2 _ rfl
  have c3 := (HC.out.ext HK7.out).cell 3 _ rfl
  have c4 := (HC.out.ext HK7.out).cell 4 _ rfl
  have ⟨x00, x01, x02, x03, x04, x05⟩ := (HA.out.ext HK7.out).six
  go_wp2_with fail
  have hb7 := heap_alloc_new Y6 (.cells #[.string { data := #[97] }, .int .u8 0, .slice none 0 0, .string { data := #[] }, .int .i64 0, .int .i64 0] 27)
  have hE7 := (Ext.refl Y6).alloc (.cells #[.string { data := #[97] }, .int .u8 0, .slice none 0 0, .string { data := #[] }, .int .i64 0, .int .i64 0] 27)
  clear c0 c1 c2 c3 c4 x00 x01 x02 x03 x04 x05
  generalize Y6.alloc (.cells #[.string { data := #[97] }, .int .u8 0, .slice none 0 0, .string { data := #[] }, .int .i64 0, .int .i64 0] 27) = X7 at *
  refine (frag20 ckDeep [ckA] ckDeep_right (by decide) (by decide) 2 _ ck8 X7 _ _ (HD.out.ext (HK7.out.trans hE7)) (row_one_it X7 (x := ckA) (d := .slice none 0 0) hb7 (Elem.Row.void _ _ _) ck_wf.1)).mono ?_
  rintro e Y7 ⟨rfl, hF7⟩
  have HK8 := Lib.hid ((HK7.out.trans hE7).trans hF7)
  clear hF7 HK7 hb7 hE7
  go_wp2
  go_ret
  exact ⟨rfl, HEw.out.trans HK8.out⟩
end Go.Proofs.YtgclfmdpapadnaaDoor

open Go.RowKit Go.Shelf
namespace Go.Proofs.YtgclfmdpapadnaaDoor
open Go Go.Proofs Fm

theorem itsCells_len : ∀ (l : List It) (ds : List Value), ds.length = l.length → (itsCells l ds).length = l.length * 6
  | [], _, _ => by simp [itsCells]
  | _ :: _, [], h => by simp at h
  | x :: l, d :: ds, h => by
    have ih := itsCells_len l ds (by simpa using h)
    unfold itsCells at ih ⊢
    rw [List.zipWith_cons_cons, List.flatten_cons, List.length_append, ih]
    simp [itCells]; omega
theorem itsCells_some {l : List It} {ds : List Value} (h : ds.length = l.length) {p : Nat} {u : Value} (hu : (itsCells l ds)[p]? = some u) :
    ∃ (i j : Nat) (hi : i < l.length) (hd : i < ds.length), j < 6 ∧ p = i * 6 + j ∧ (itCells l[i] ds[i])[j]? = some u := by
  have hp : p < (itsCells l ds).length := (List.getElem?_eq_some_iff.1 hu).1
  rw [itsCells_len l ds h] at hp
  have hi : p / 6 < l.length := by omega
  have e : p = p / 6 * 6 + p % 6 := by omega
  refine ⟨p / 6, p % 6, hi, by omega, by omega, e, ?_⟩
  rw [← itsCells_at l ds (p / 6) (p % 6) hi (by omega) (by omega), ← e]; exact hu
theorem itsCells_append {l m : List It} {ds es : List Value} (h : ds.length = l.length) : itsCells (l ++ m) (ds ++ es) = itsCells l ds ++ itsCells m es := by
  unfold itsCells
  rw [List.zipWith_append h.symm, List.flatten_append]
/-- Items that may be appended. -/
def SrcI (w0 w : World) (X : Value) (m : List It) : Prop :=
  ∃ ds : List Value, ds.length = m.length ∧ (∀ i (hi : i < m.length) (hd : i < ds.length), strE.Row w0 m[i].after ds[i] ∧ itWf m[i]) ∧ Src Tryd.prog 6 22 X m.length (itsCells m ds) w
theorem srcI_row {w0 w : World} {l : List It} {X : Value} (h : itE.Row w0 l X) (hE : Ext w0 w) : SrcI w0 w X l := by
  obtain ⟨a, cap, rfl, h1, h2, h3, C, h4, h5⟩ := h
  have hl : ((List.range l.length).map (fun i => C i 2)).length = l.length := by simp
  have hd : ∀ i (_ : i < l.length) (hd : i < ((List.range l.length).map (fun i => C i 2)).length), ((List.range l.length).map (fun i => C i 2))[i] = C i 2 := by intro i hi hd; simp
  have hcc : ∀ i j u (hi : i < l.length) (hd : i < ((List.range l.length).map (fun i => C i 2)).length), j < 6 → (itCells l[i] ((List.range l.length).map (fun i => C i 2))[i])[j]? = some u → C i j = u ∧ u.oneCell' = true := by
    intro i j u hi hd' hj hc
    rw [hd i hi hd'] at hc
    obtain ⟨r0, r1, r2, r3, r4, r5, _⟩ := h5 i hi
    obtain ⟨a2, c2, e2, _⟩ := r2.slice
    match j, hj with
    | 0, _ => simp [itCells] at hc; rw [← hc]; exact ⟨r0, rfl⟩
    | 1, _ => simp [itCells] at hc; rw [← hc]; exact ⟨r1, rfl⟩
    | 2, _ => simp [itCells] at hc; rw [← hc]; exact ⟨rfl, by rw [e2]; rfl⟩
    | 3, _ => simp [itCells] at hc; rw [← hc]; exact ⟨r3, rfl⟩
    | 4, _ => simp [itCells] at hc; rw [← hc]; exact ⟨r4, rfl⟩
    | 5, _ => simp [itCells] at hc; rw [← hc]; exact ⟨r5, rfl⟩
  refine ⟨(List.range l.length).map (fun i => C i 2), hl, fun i hi hd' => ?_, ?_⟩
  · obtain ⟨r0, r1, r2, r3, r4, r5, r6⟩ := h5 i hi
    rw [hd i hi hd']; exact ⟨r2, r6⟩
  · have hone : ∀ u ∈ itsCells l ((List.range l.length).map (fun i => C i 2)), u.oneCell' = true := by
      intro u hu
      obtain ⟨p, hp⟩ := List.getElem?_of_mem hu
      obtain ⟨i, j, hi, hd', hj, -, hc⟩ := itsCells_some hl hp
      exact (hcc i j u hi hd' hj hc).2
    by_cases h0 : 0 < l.length
    · obtain ⟨b, off, rfl, hb, hc⟩ := h4 h0
      refine Src.ofSlice w Tryd.underlying22 _ _ _ _ (itsCells_len l _ hl) (fun p u hu => ?_) hone
      obtain ⟨i, j, hi, hd', hj, rfl, hcj⟩ := itsCells_some hl hu
      rw [Addr.add_lit]
      exact (hE.cell (p := ⟨b, _, none⟩) hb).trans ((hc i j hi hj).trans (by rw [(hcc i j u hi hd' hj hcj).1]))
    · have : l = [] := List.eq_nil_of_length_eq_zero (by omega)
      subst this
      cases a with
      | none => exact Src.ofNil w Tryd.underlying22 cap
      | some ad => exact Src.ofSlice w Tryd.underlying22 ad 0 cap [] rfl (fun p u hu => by simp at hu) (fun u hu => by cases hu)
/-- Items in a row of one's own; their texts lie where they lay. -/
def ShF (w0 w : World) (v : Value) (l : List It) : Prop :=
  ∃ ds : List Value, ds.length = l.length ∧ w.ownsRow w0.heap.size 27 6 v l.length (itsCells l ds) ∧ ∀ i (hi : i < l.length) (hd : i < ds.length), strE.Row w0 l[i].after ds[i] ∧ itWf l[i]
theorem ShF.made {w0 w : World} (h : Ext w0 w) : ShF w0 (w.alloc (.cells #[] 27)) (.slice (some ⟨w.heap.size, 0, none⟩) 0 0) [] :=
  ⟨[], rfl, World.ownsRow_made w #[] 0 h.size (by simp) rfl, fun i hi => by simp at hi⟩
theorem ShF.ext {w0 w w' : World} {v : Value} {l : List It} (h : ShF w0 w v l) (hE : Ext w w') : ShF w0 w' v l := by
  obtain ⟨ds, h1, h2, h3⟩ := h
  exact ⟨ds, h1, hE.own h2, h3⟩
theorem ShF.lt {w0 w : World} {v : Value} {l : List It} (h : ShF w0 w v l) : ∀ b, v.ownBlock = some b → w0.heap.size ≤ b ∧ b < w.heap.size := by
  obtain ⟨ds, h1, h2, h3⟩ := h
  exact h2.lt
theorem ShF.row {w0 w : World} {v : Value} {l : List It} (h : ShF w0 w v l) (hE : Ext w0 w) : itE.Row w l v := by
  obtain ⟨ds, h1, h2, h3⟩ := h
  have hc := fun g => World.ownsRow.cells h2 (g := g)
  rcases h2.2 with ⟨rfl, h0⟩ | ⟨g, cap, cur, rfl, hb, hg, hl, hm, h5, h6⟩
  · have : l = [] := List.eq_nil_of_length_eq_zero h0
    subst this
    exact Elem.Row.void itE w none
  · refine Elem.Row.mk rfl hl hm (Array.getElem?_eq_some_iff.1 hg).1 (fun i hi => ?_)
    have hd : i < ds.length := by omega
    obtain ⟨a1, a2⟩ := h3 i hi hd
    refine ⟨fun j => (itCells l[i] ds[i]).getD j .nilFunc, ⟨rfl, rfl, a1.ext hE, rfl, rfl, rfl, a2⟩, fun j hj => ?_⟩
    have hj6 : j < 6 := hj
    have := hc g rfl (i * 6 + j) ((itCells l[i] ds[i]).getD j .nilFunc) (by
      rw [itsCells_at l ds i j hi hd hj6, List.getD_eq_getElem?_getD, List.getElem?_eq_getElem (by simp [itCells]; omega)]
      rfl)
    rw [Addr.add_lit] at this
    exact this
theorem elem_item6 : ElemOf Tryd.prog 22 27 (.agg #[.string { data := #[] }, .int .u8 0, .slice none 0 0, .string { data := #[] }, .int .i64 0, .int .i64 0]) 6 80 := elem_item
theorem sizeof_item : ∀ w, (sizeOf (Tryd.prog.elem 22)).run Tryd.prog w = .ok 6 w := fun _ => by kernel_rfl
theorem slice_it_upto (a : Option Addr) (len cap k : Nat) (h1 : k ≤ cap) (w : World) :
    (Instr.slice 22 (.slice a len cap) none (some (.int .i64 (k : Int))) none).run Tryd.prog w = .ok (.slice a k cap) w := by
  rw [run_slice_h (ht := by kernel_rfl) (h0 := by omega) (h2 := by omega), sizeof_item]
  cases a <;> simp [Result.andThen, sliced, Addr.add]
end Go.Proofs.YtgclfmdpapadnaaDoor

namespace Go.Proofs.YtgclfmdpapadnaaDoor
open Go Go.Proofs Fm Go.RowKit

/-- The look with its 'ok'. -/
theorem SMap.look2 {w : World} {b n : Nat} {f : List UInt8 → Option Int} {sz : Nat} (h : SMap w b n f sz) {s : List UInt8} (hs : s.length ≤ 9223372036854775807) :
    (Instr.lookup 45 (.map (some b)) (.string (str s)) true).run Tryd.prog w = .ok (.tuple #[.int .i64 ((f s).getD 0), .bool (f s).isSome]) w := by
  obtain ⟨D, h1, h2, h3, h4⟩ := h
  obtain ⟨v, ps, hrun, hat⟩ := h1.look_ok (Maps.string_keyed Tryd.underlying9) Tryd.underlying45 (zero_int w) (zd := .lit (.int .i64 0)) (zp := []) (plainElem_int Tryd.underlying3 (by decide)) (key_str hs)
  rw [h4 s] at hat
  obtain ⟨c, hc, hc2, _⟩ := plainElem_int_inv Tryd.underlying3 hat
  rw [hrun, h3 s]
  have e : (f s).getD 0 = c := by
    simp only [Prod.mk.injEq, DataW.lit.injEq, Lit.int.injEq] at hc2
    exact hc2.1.2
  rw [e, hc]
end Go.Proofs.YtgclfmdpapadnaaDoor

namespace Fm
open Go Go.RowKit Go.ChangeShapes Go.WideShapes Go.ChangeAt

/-- What the reading of a slice of integers says: as the guide's skeleton has it. -/
def IsRow (k : IntKind) (w : World) (a : Option Addr) (len cap : Nat) (zs : List Int) : Prop :=
  (a = none ∧ len = 0 ∧ cap = 0 ∧ zs = []) ∨
  ∃ x, a = some x ∧ len ≤ cap ∧ cap ≤ maxLen ∧ zs.length = cap ∧ (∀ i, i < zs.length → w.cell? (x.add i) = some (.int k (zs.getD i 0))) ∧ ∀ n ∈ zs, (Lit.int k n).wf = true

theorem u8_of_wf {n : Int} (h : (Lit.int .u8 n).wf = true) : ((UInt8.ofNat n.toNat).toNat : Int) = n := by
  have : 0 ≤ n ∧ n ≤ 255 := by
    simp [Lit.wf, IntKind.min, IntKind.max, IntKind.signed, IntKind.bits] at h
    omega
  rw [toNat_ofNat_lt (by omega)]; omega

theorem i64_of_wf {n : Int} (h : (Lit.int .i64 n).wf = true) : isI64 n := by
  simp [Lit.wf, IntKind.min, IntKind.max, IntKind.signed, IntKind.bits] at h
  unfold isI64; omega

theorem IsRow.bytes {w : World} {a : Option Addr} {len cap : Nat} {zs : List Int} (h : IsRow .u8 w a len cap zs) :
    ∃ xs : List UInt8, xs.length = len ∧ Bytes w (.slice a len cap) xs := by
  rcases h with ⟨rfl, rfl, rfl, rfl⟩ | ⟨x, rfl, hl, hm, hz, hc, hw⟩
  · exact ⟨[], rfl, Bytes.nil w⟩
  · refine ⟨(zs.take len).map fun n => UInt8.ofNat n.toNat, by simp; omega, ?_⟩
    have hlen : ((zs.take len).map fun n => UInt8.ofNat n.toNat).length = len := by simp; omega
    refine ⟨some x, cap, by rw [hlen], by omega, hm, (fun h => by cases h), fun ad had h0 => ?_⟩
    cases had
    have h00 := hc 0 (by omega)
    have e0 : x.add 0 = x := by unfold Addr.add; rw [if_pos rfl]
    rw [e0] at h00
    have hs : x.spot = none := by
      cases hsp : x.spot with
      | none => rfl
      | some s =>
        unfold World.cell? at h00
        cases hb : w.heap[x.block]? with
        | none => rw [hb] at h00; cases h00
        | some o => rw [hb] at h00; cases o <;> simp [hsp] at h00
    refine ⟨hs, World.block_lt_of_cell? w x h00, fun j hj => ?_⟩
    have hj' : j < zs.length := by omega
    have hjl : j < len := by omega
    have hcj := hc j hj'
    have ea : x.add j = ⟨x.block, x.off + j, none⟩ := by
      unfold Addr.add; split
      · obtain ⟨b, o, s⟩ := x; simp at hs ⊢; exact ⟨by omega, hs⟩
      · rw [← hs]
    rw [ea] at hcj
    rw [hcj]
    have hg : zs.getD j 0 = zs[j] := by simp [List.getD, hj']
    have hwf := hw zs[j] (List.getElem_mem hj')
    rw [hg]
    simp [bv, hjl, hj']
    have := u8_of_wf hwf
    simp at this
    exact this.symm
end Fm

namespace Fm
open Go Go.RowKit Go.ChangeShapes Go.WideShapes Go.ChangeAt

/-- What reads as data of that type lies so. -/
def Elem.Reads {α : Type} (E : Elem α) (P : Program) (T : TypeId) : Prop :=
  ∀ {H : Type} (enc : TypeId × Value → H) (W : World) (base : Nat) (spare : Nat → Bool) (held : Bool) (fuel : Nat) (cs : List Value) (x : DataW H × List MemPlace),
    DataW.trod enc P W base spare held fuel T cs = some x → ∃ a : α, E.R W a (fun j => cs.getD j .nilFunc)
theorem reads_str {P : Program} {T : TypeId} (hT : P.underlying T = some .string) : strE.Reads P T := by
  intro H enc W base spare held fuel cs x h
  obtain ⟨s, rfl, -, hw⟩ := DataW.trod_string hT h
  refine ⟨s.data.toList, ?_, ?_⟩
  · show Value.string s = _
    rw [str_eta]
  · have e : s.data.toList.length = s.size := by rw [Array.length_toList]; rfl
    unfold maxLen at hw; omega
theorem reads_int {P : Program} {T : TypeId} (hT : P.underlying T = some (.int .i64)) : intE.Reads P T := by
  intro H enc W base spare held fuel cs x h
  obtain ⟨n, rfl, -, hw⟩ := DataW.trod_int hT h
  exact ⟨n, rfl, i64_of_wf hw⟩
theorem reads_u8 {P : Program} {T : TypeId} (hT : P.underlying T = some (.int .u8)) : u8E.Reads P T := by
  intro H enc W base spare held fuel cs x h
  obtain ⟨n, rfl, -, hw⟩ := DataW.trod_int hT h
  exact ⟨UInt8.ofNat n.toNat, by show Value.int _ _ = _; rw [u8_of_wf hw]⟩
theorem reads_slice {α : Type} {E : Elem α} {P : Program} {T e : TypeId} (hT : P.underlying T = some (.slice e)) (hsz : P.cellsOf e = E.sz) (hE : E.Reads P e) (hp : 0 < E.sz) : (rowE E).Reads P T := by
  intro H enc W base spare held fuel cs x h
  rcases DataW.trod_slice hT h with ⟨rfl, -⟩ | ⟨a, len, cap, elems, rest, m, hm, rfl, -, hba, hlc, hcm, hel, hat, -, -⟩
  · exact ⟨[], Elem.Row.void E W none⟩
  · have key : ∀ k, k ≤ len → ∃ l : List α, l.length = k ∧ ∀ i (hi : i < l.length), ∃ c : Nat → Value, E.R W l[i] c ∧ ∀ j, j < E.sz → W.cell? ((a.add (i * E.sz)).add j) = some (c j) := by
      intro k
      induction k with
      | zero => exact fun _ => ⟨[], rfl, fun i hi => by simp at hi⟩
      | succ k ih =>
        intro hk
        obtain ⟨l, hl, hr⟩ := ih (by omega)
        have h1 := hat k (by omega)
        rw [hsz, List.getElem?_eq_getElem (by omega)] at h1
        obtain ⟨cs', hc', ht'⟩ := Option.bind_eq_some_iff.1 h1
        obtain ⟨t, ht⟩ := hE enc W base spare held m cs' _ ht'
        obtain ⟨_, hl4, hcell⟩ := World.cells?_some hc'
        refine ⟨l ++ [t], by simp [hl], fun i hi => ?_⟩
        by_cases hik : i < l.length
        · rw [List.getElem_append_left hik]; exact hr i hik
        · have e : i = l.length := by simp at hi; omega
          subst e
          rw [List.getElem_append_right (by omega)]
          simp only [Nat.sub_self, List.getElem_cons_zero]
          refine ⟨_, ht, fun j hj => ?_⟩
          rw [hl, hcell j hj, List.getD_eq_getElem?_getD, List.getElem?_eq_getElem (by omega)]
          rfl
    obtain ⟨l, hl, hr⟩ := key len (Nat.le_refl _)
    refine ⟨l, ?_⟩
    show E.Row W l (.slice (some a) len cap)
    by_cases h0 : len = 0
    · have : l = [] := List.eq_nil_of_length_eq_zero (by omega)
      subst this h0
      exact ⟨some a, cap, rfl, by simp, hcm, (fun h => by cases h), fun _ _ => .nilFunc, fun h => by simp at h, fun i hi => by simp at hi⟩
    · obtain ⟨c, _, h00⟩ := hr 0 (by omega)
      have h00 := h00 0 hp
      rw [Nat.zero_mul] at h00
      have ea : (a.add 0).add 0 = a := by unfold Addr.add; rw [if_pos rfl, if_pos rfl]
      rw [ea] at h00
      have hs0 : a.spot = none := by
        cases hsp : a.spot with
        | none => rfl
        | some s =>
          unfold World.cell? at h00
          cases hb : W.heap[a.block]? with
          | none => rw [hb] at h00; cases h00
          | some o => rw [hb] at h00; cases o <;> simp [hsp] at h00
      obtain ⟨b, off, spot⟩ := a
      simp only at hs0
      subst hs0
      refine Elem.Row.mk hl.symm (by omega) hcm (World.block_lt_of_cell? W _ h00) (fun i hi => ?_)
      obtain ⟨c, h1, h2⟩ := hr i hi
      refine ⟨c, h1, fun j hj => ?_⟩
      have := h2 j hj
      rw [Addr.add_lit, Addr.add_lit, Nat.add_assoc] at this
      exact this
/-- A slice that is handed in. -/
theorem row_of_val {α : Type} {E : Elem α} {P : Program} {T e : TypeId} (hT : P.underlying T = some (.slice e)) (hR : (rowE E).Reads P T)
    {H : Type} {enc : TypeId × Value → H} {W : World} {r : Reach} {b0 base : Nat} {spare : Nat → Bool} {held : Bool} {v : Value} {d : DataW H} {p : List MemPlace} (hv : Value.okWide P W r b0 T v)
    (h : DataW.Trod enc P W base spare held T v d p) : ∃ l, E.Row W l v := by
  obtain ⟨b, n, c, rfl⟩ := okWide_slice hT hv
  obtain ⟨fuel, hf⟩ := h
  obtain ⟨l, hl⟩ := hR enc W base spare held fuel _ _ hf
  exact ⟨l, hl⟩
end Fm

namespace Fm
open Go Go.RowKit

def stpE : Elem Stp where
  sz := 2
  R _ x c := c 0 = .string (str x.name) ∧ c 1 = .int .i64 x.place ∧ x.name.length ≤ 9223372036854775807 ∧ isI64 x.place
  ext _ h := h
  loc hc h := ⟨(hc 0 (by omega)).symm.trans h.1, (hc 1 (by omega)).symm.trans h.2.1, h.2.2⟩
def stpCells (x : Stp) : List Value := [.string (str x.name), .int .i64 x.place]
def stpsCells (l : List Stp) : List Value := (l.map stpCells).flatten
def stpWf (x : Stp) : Prop := x.name.length ≤ 9223372036854775807 ∧ isI64 x.place
theorem stpsCells_at : ∀ (l : List Stp) (i j : Nat) (hi : i < l.length), j < 2 → (stpsCells l)[i * 2 + j]? = (stpCells l[i])[j]?
  | [], i, j, hi, _ => by simp at hi
  | x :: l, 0, j, _, hj => by
    unfold stpsCells
    rw [List.map_cons, List.flatten_cons, List.getElem?_append_left (by simp [stpCells]; omega)]
    simp
  | x :: l, i + 1, j, hi, hj => by
    have ih := stpsCells_at l i j (by simpa using hi) hj
    unfold stpsCells at ih ⊢
    rw [List.map_cons, List.flatten_cons, List.getElem?_append_right (by simp [stpCells]; omega)]
    have e : (i + 1) * 2 + j - (stpCells x).length = i * 2 + j := by simp [stpCells]; omega
    rw [e, ih]
    simp
/-- A path that is handed in. -/
def PthV (w : World) (p : Pth) (v : Value) : Prop :=
  ∃ (a : Option Addr) (m c : Nat), v = .agg #[.int .i64 p.flow, .slice a m c] ∧ stpE.Row w p.steps (.slice a m c) ∧ isI64 p.flow
theorem PthV.ext {w w' : World} {p : Pth} {v : Value} (h : PthV w p v) (hE : Ext w w') : PthV w' p v := by
  obtain ⟨a, m, c, h1, h2, h3⟩ := h
  exact ⟨a, m, c, h1, h2.ext hE, h3⟩
/-- Steps in memory of one's own. -/
def OwnSt (e : TypeId) (base : Nat) (w : World) (v : Value) (l : List Stp) : Prop := w.ownsRow base e 2 v l.length (stpsCells l) ∧ ∀ x, x ∈ l → stpWf x
theorem OwnSt.nil (e : TypeId) (base : Nat) (w : World) : OwnSt e base w (.slice none 0 0) [] := ⟨World.ownsRow_nil w base e 2, fun x h => by cases h⟩
theorem OwnSt.ext {e : TypeId} {base : Nat} {w w' : World} {v : Value} {l : List Stp} (h : OwnSt e base w v l) (hE : Ext w w') : OwnSt e base w' v l := ⟨hE.own h.1, h.2⟩
theorem OwnSt.mono {e : TypeId} {base base' : Nat} {w : World} {v : Value} {l : List Stp} (h : OwnSt e base w v l) (hb : base' ≤ base) : OwnSt e base' w v l := ⟨ownsRow_base h.1 hb, h.2⟩
theorem OwnSt.lt {e : TypeId} {base : Nat} {w : World} {v : Value} {l : List Stp} (h : OwnSt e base w v l) (b : Nat) (hb : v.ownBlock = some b) : base ≤ b ∧ b < w.heap.size := World.ownsRow.lt h.1 b hb
theorem OwnSt.kept {e : TypeId} {base : Nat} {w w' : World} {v : Value} {l : List Stp} {row : Option Nat} (h : OwnSt e base w v l) (hg : w.grownBy w' row) (hr : ∀ b, row = some b → b < base) : OwnSt e base w' v l := by
  refine ⟨World.ownsRow.kept h.1 hg ?_, h.2⟩
  cases hv : v.ownBlock with
  | none => exact .inl rfl
  | some b => right; intro e; have := hr b e.symm; have := (World.ownsRow.lt h.1 b hv).1; omega
theorem OwnSt.slice {e : TypeId} {base : Nat} {w : World} {v : Value} {l : List Stp} (h : OwnSt e base w v l) : ∃ a c, v = .slice a l.length c := by
  rcases h.1.2 with ⟨rfl, h0⟩ | ⟨g, cap, cur, rfl, _⟩
  · exact ⟨none, 0, by rw [h0]⟩
  · exact ⟨_, _, rfl⟩
theorem OwnSt.row {e : TypeId} {base : Nat} {w : World} {v : Value} {l : List Stp} (h : OwnSt e base w v l) : stpE.Row w l v := by
  have hc := fun g => World.ownsRow.cells h.1 (g := g)
  rcases h.1.2 with ⟨rfl, h0⟩ | ⟨g, cap, cur, rfl, hb, hg, h1, h2, h5, h6⟩
  · have : l = [] := List.eq_nil_of_length_eq_zero h0
    subst this
    exact Elem.Row.void stpE w none
  · refine Elem.Row.mk rfl h1 h2 (Array.getElem?_eq_some_iff.1 hg).1 (fun i hi => ?_)
    have hwf := h.2 _ (List.getElem_mem hi)
    refine ⟨fun j => (stpCells l[i]).getD j .nilFunc, ⟨rfl, rfl, hwf⟩, fun j hj => ?_⟩
    have hj2 : j < 2 := hj
    have := hc g rfl (i * 2 + j) ((stpCells l[i]).getD j .nilFunc) (by
      rw [stpsCells_at l i j hi hj2, List.getD_eq_getElem?_getD, List.getElem?_eq_getElem (by simp [stpCells]; omega)]; rfl)
    rw [Addr.add_lit] at this
    exact this
/-- A path in memory of one's own. -/
def PthOwn (e : TypeId) (base : Nat) (w : World) (p : Pth) (v : Value) : Prop :=
  ∃ (a : Option Addr) (m c : Nat), v = .agg #[.int .i64 p.flow, .slice a m c] ∧ OwnSt e base w (.slice a m c) p.steps ∧ isI64 p.flow
theorem PthOwn.v {e : TypeId} {base : Nat} {w : World} {p : Pth} {v : Value} (h : PthOwn e base w p v) : PthV w p v := by
  obtain ⟨a, m, c, h1, h2, h3⟩ := h
  exact ⟨a, m, c, h1, h2.row, h3⟩
theorem PthOwn.ext {e : TypeId} {base : Nat} {w w' : World} {p : Pth} {v : Value} (h : PthOwn e base w p v) (hE : Ext w w') : PthOwn e base w' p v := by
  obtain ⟨a, m, c, h1, h2, h3⟩ := h
  exact ⟨a, m, c, h1, h2.ext hE, h3⟩
end Fm

namespace Fm
open Go Go.RowKit
/-- A configuration. -/
structure Cfg where
  k0 : Int
  k1 : Int
  k2 : Int
  k3 : Int
  k4 : Int
def CfgV (_ : World) (c : Cfg) (v : Value) : Prop := v = .agg #[.int .i64 c.k0, .int .i64 c.k1, .int .i64 c.k2, .int .i64 c.k3, .int .i64 c.k4] ∧ isI64 c.k0 ∧ isI64 c.k1 ∧ isI64 c.k2 ∧ isI64 c.k3 ∧ isI64 c.k4
end Fm
namespace Go.Proofs.YtgclfmdpapadnaaDoor
open Go Go.Proofs Fm Go.RowKit Go.ChangeShapes Go.WideShapes Go.ChangeAt

set_option maxRecDepth 100000 in
theorem fieldsCfg : Tryd.prog.underlying 32 = some (.struct #[⟨"Quota", 3, 0, false, "", "", 0⟩, ⟨"Depth", 3, 1, false, "", "", 8⟩, ⟨"Width", 3, 2, false, "", "", 16⟩, ⟨"Retry", 3, 3, false, "", "", 24⟩, ⟨"Flows", 3, 4, false, "", "", 32⟩]) := by kernel_rfl
theorem cellsC_cfg : Tryd.prog.cellsOf 32 = 5 := by kernel_rfl
theorem cellsC_int : Tryd.prog.cellsOf 3 = 1 := by kernel_rfl
set_option maxRecDepth 100000 in
/-- A configuration that is handed in by value. -/
theorem cfgv_of_val {H : Type} {enc : TypeId × Value → H} {W : World} {r : Reach} {b0 base : Nat} {spare : Nat → Bool} {held : Bool} {v : Value} {d : DataW H} {p : List MemPlace} (hv : Value.okWide Tryd.prog W r b0 32 v)
    (h : DataW.Trod enc Tryd.prog W base spare held 32 v d p) : ∃ x, CfgV W x v := by
  obtain ⟨cs, rfl, hsz⟩ := okWide_struct fieldsCfg hv
  obtain ⟨fuel, hf⟩ := h
  obtain ⟨xs, n, hfuel, hx, hlen, hxs, hf'⟩ := DataW.trod_struct fieldsCfg (show DataW.trod enc Tryd.prog W base spare held fuel 32 cs.toList = some (d, p) by simpa [Value.cells] using hf)
  rw [cellsC_cfg] at hlen
  match hcs : cs.toList, hlen with
  | [v0, v1, v2, v3, v4], _ =>
  rw [hcs] at hf'
  have g0 : DataW.trod enc Tryd.prog W base spare held n 3 (([v0, v1, v2, v3, v4].drop 0).take (Tryd.prog.cellsOf 3)) = xs[0]? := hf' 0 _ rfl
  have g1 : DataW.trod enc Tryd.prog W base spare held n 3 (([v0, v1, v2, v3, v4].drop 1).take (Tryd.prog.cellsOf 3)) = xs[1]? := hf' 1 _ rfl
  have g2 : DataW.trod enc Tryd.prog W base spare held n 3 (([v0, v1, v2, v3, v4].drop 2).take (Tryd.prog.cellsOf 3)) = xs[2]? := hf' 2 _ rfl
  have g3 : DataW.trod enc Tryd.prog W base spare held n 3 (([v0, v1, v2, v3, v4].drop 3).take (Tryd.prog.cellsOf 3)) = xs[3]? := hf' 3 _ rfl
  have g4 : DataW.trod enc Tryd.prog W base spare held n 3 (([v0, v1, v2, v3, v4].drop 4).take (Tryd.prog.cellsOf 3)) = xs[4]? := hf' 4 _ rfl
  rw [cellsC_int] at g0 g1 g2 g3 g4
  match xs, hxs with
  | [y0, y1, y2, y3, y4], _ =>
  obtain ⟨a0, r0, l0⟩ := reads_int Tryd.underlying3 enc W base spare held n [v0] y0 g0
  obtain ⟨a1, r1, l1⟩ := reads_int Tryd.underlying3 enc W base spare held n [v1] y1 g1
  obtain ⟨a2, r2, l2⟩ := reads_int Tryd.underlying3 enc W base spare held n [v2] y2 g2
  obtain ⟨a3, r3, l3⟩ := reads_int Tryd.underlying3 enc W base spare held n [v3] y3 g3
  obtain ⟨a4, r4, l4⟩ := reads_int Tryd.underlying3 enc W base spare held n [v4] y4 g4
  have ecs : cs = #[v0, v1, v2, v3, v4] := by rw [← hcs]
  have e0 : v0 = .int .i64 a0 := r0
  have e1 : v1 = .int .i64 a1 := r1
  have e2 : v2 = .int .i64 a2 := r2
  have e3 : v3 = .int .i64 a3 := r3
  have e4 : v4 = .int .i64 a4 := r4
  refine ⟨⟨a0, a1, a2, a3, a4⟩, ?_, l0, l1, l2, l3, l4⟩
  rw [ecs, e0, e1, e2, e3, e4]
end Go.Proofs.YtgclfmdpapadnaaDoor

open Go.RowKit Go.Shelf
namespace Go.Proofs.YtgclfmdpapadnaaDoor
open Go Go.Proofs Fm

/-- Items of which the first j have their texts in memory of their own, each in another block, all below 'top'. -/
def HalfF (w0 w : World) (v : Value) (l : List It) (j top : Nat) : Prop :=
  ∃ ds : List Value, ds.length = l.length ∧ w.ownsRow w0.heap.size 27 6 v l.length (itsCells l ds) ∧
    (∀ i (hi : i < l.length) (hd : i < ds.length), itWf l[i] ∧ (j ≤ i → strE.Row w0 l[i].after ds[i]) ∧ (i < j → OwnS 9 w0.heap.size w ds[i] l[i].after ∧ ∀ b, ds[i].ownBlock = some b → v.ownBlock ≠ some b ∧ b < top)) ∧
    ∀ i k (hi : i < ds.length) (hk : k < ds.length), i < k → k < j → ∀ b, ds[i].ownBlock = some b → ds[k].ownBlock ≠ some b
theorem HalfF.start {w0 w : World} {v : Value} {l : List It} {top : Nat} (h : ShF w0 w v l) : HalfF w0 w v l 0 top := by
  obtain ⟨ds, h1, h2, h3⟩ := h
  exact ⟨ds, h1, h2, fun i hi hd => ⟨(h3 i hi hd).2, fun _ => (h3 i hi hd).1, fun h => by omega⟩, fun i k hi hk h h' => by omega⟩
/-- A copy. -/
def CopyF (base : Nat) (w : World) (v : Value) (l : List It) : Prop :=
  ∃ ds : List Value, ds.length = l.length ∧ w.ownsRow base 27 6 v l.length (itsCells l ds) ∧
    (∀ i (hi : i < l.length) (hd : i < ds.length), itWf l[i] ∧ OwnS 9 base w ds[i] l[i].after ∧ ∀ b, ds[i].ownBlock = some b → v.ownBlock ≠ some b) ∧
    ∀ i k (hi : i < ds.length) (hk : k < ds.length), i ≠ k → ∀ b, ds[i].ownBlock = some b → ds[k].ownBlock ≠ some b
theorem CopyF.own {base : Nat} {w : World} {v : Value} {l : List It} (h : CopyF base w v l) : OwnFF base w v l := by
  obtain ⟨ds, h1, h2, h3, h4⟩ := h
  exact ⟨ds, h1, h2, fun i hi hd => ⟨(h3 i hi hd).2.1, (h3 i hi hd).1, (h3 i hi hd).2.2⟩⟩
theorem CopyF.ext {base : Nat} {w w' : World} {v : Value} {l : List It} (h : CopyF base w v l) (hE : Ext w w') : CopyF base w' v l := by
  obtain ⟨ds, h1, h2, h3, h4⟩ := h
  exact ⟨ds, h1, hE.own h2, fun i hi hd => ⟨(h3 i hi hd).1, (h3 i hi hd).2.1.ext hE, (h3 i hi hd).2.2⟩, h4⟩
theorem HalfF.full {w0 w : World} {v : Value} {l : List It} {top : Nat} (h : HalfF w0 w v l l.length top) : CopyF w0.heap.size w v l := by
  obtain ⟨ds, h1, h2, h3, h4⟩ := h
  refine ⟨ds, h1, h2, fun i hi hd => ⟨(h3 i hi hd).1, ((h3 i hi hd).2.2 hi).1, fun b hb => (((h3 i hi hd).2.2 hi).2 b hb).1⟩, fun i k hi hk hne b hb => ?_⟩
  by_cases hik : i < k
  · exact h4 i k hi hk hik (by omega) b hb
  · exact fun e => h4 k i hk hi (by omega) (by omega) b e hb
theorem itsCells_set : ∀ (l : List It) (ds : List Value) (j : Nat) (d : Value), ds.length = l.length → j < l.length → itsCells l (ds.set j d) = (itsCells l ds).set (j * 6 + 2) d
  | [], _, _, _, _, h => by simp at h
  | _ :: _, [], _, _, h, _ => by simp at h
  | x :: l, e :: ds, 0, d, _, _ => by
    unfold itsCells
    rw [List.set_cons_zero, List.zipWith_cons_cons, List.zipWith_cons_cons, List.flatten_cons, List.flatten_cons]
    simp [itCells]
  | x :: l, e :: ds, j + 1, d, h, hj => by
    have ih := itsCells_set l ds j d (by simpa using h) (by simpa using hj)
    unfold itsCells at ih ⊢
    rw [List.set_cons_succ, List.zipWith_cons_cons, List.zipWith_cons_cons, List.flatten_cons, List.flatten_cons, ih]
    have e : (j + 1) * 6 + 2 = (itCells x e).length + (j * 6 + 2) := by simp [itCells]; omega
    rw [e, List.set_append_right _ _ (by omega)]
    congr 2
    omega

/-- append at a wanted operation of a list. -/
theorem wpList_appF {w0 w : World} {ops : Array Oper} {rest : List Oper} {o : Oper} {a : Act} {Q : Exit → Act → World → Prop} (hg : Region.wanted o (yielded ops a.tmps) = true) (s x : Operand) (hop : o.op = Op.call { callee := Callee.builtin Builtin.append, args := #[s, x], argTypes := #[22, 22] })
    {v : Value} {l : List It} (hs : a.eval s = v) (h : ShF w0 w v l) (hE : Ext w0 w) {X : Value} {m : List It} (hx : a.eval x = X) (hm : SrcI w0 w X m) (hlen : l.length + m.length ≤ 1000)
    (hK : ∀ v' w', ShF w0 w' v' (l ++ m) → Ext w0 w' → w.grownBy w' v.ownBlock → wpList Tryd.prog ops Q rest (a.put o.dst v') w') : wpList Tryd.prog ops Q (o :: rest) a w := by
  obtain ⟨ds, h1, h2, h3⟩ := h
  obtain ⟨es, g1, g2, g3⟩ := hm
  have hb : (l.length + m.length) * 80 ≤ 1000 * 80 := Nat.mul_le_mul_right _ hlen
  obtain ⟨v', w', hrun, r1, r2, r3⟩ := run_append_src_at w elem_item6 22 o.type w0.heap.size v l.length (itsCells l ds) h2 X m.length (itsCells m es) g3 (by unfold maxLen; omega) (by omega) hE.size
  unfold wpList
  rw [if_pos hg]
  left
  unfold Oper.wp
  simp [execOp, hop, resolve, invoke, builtin, hs, hx, hrun, Result.andThen]
  refine hK v' w' ⟨ds ++ es, by simp [h1, g1], by rw [itsCells_append h1, List.length_append]; exact r1, fun i hi hd => ?_⟩ (hE.grown r2 (fun k hk => (h2.lt k hk).1)) r2
  by_cases hil : i < l.length
  · have hid : i < ds.length := by omega
    rw [List.getElem_append_left hil, List.getElem_append_left hid]; exact h3 i hil hid
  · have hi' : i - l.length < m.length := by rw [List.length_append] at hi; omega
    have e1 : (l ++ m)[i] = m[i - l.length] := List.getElem_append_right (by omega)
    have e2 : (ds ++ es)[i] = es[i - l.length]'(by omega) := by rw [List.getElem_append_right (by omega)]; simp [h1]
    rw [e1, e2]; exact g2 _ hi' (by omega)

set_option maxRecDepth 100000 in
set_option maxHeartbeats 1000000 in
theorem cloneI_any (l : List It) (w : World) (v : Value) (hv : itE.Row w l v) (hl : l.length ≤ 900) :
    Calls Tryd.prog 45 #[v] w fun e w' => ∃ v', e = .returned v' ∧ ShF w w' v' l ∧ Ext w w' := by
  obtain ⟨a, c, rfl, hc, -⟩ := hv.slice
  have HR := Lib.hid hv
  clear hv
  have qnil : ∀ (w : World) (a : Option Addr) (n c n' c' : Nat), (binOp .eql 22 (.slice a n c) (.slice none n' c')).run Tryd.prog w = .ok (.bool a.isNone) w := fun w a n c n' c' => Lib.run_eql_slice_nil w _ _ a n c n' c' Tryd.underlying22
  cases a with
  | none =>
    have hl0 : l = [] := by
      cases hx : l with
      | nil => rfl
      | cons y r =>
        obtain ⟨_, b, off, h, _⟩ := HR.out.at (by rw [hx]; simp)
        cases h
    subst hl0
    go_enter Tryd.func45, Tryd.ntmps45
    go_wp2
    go_ret
    exact ⟨_, rfl, ⟨[], rfl, World.ownsRow_nil _ _ _ _, fun i hi => by simp at hi⟩, Ext.refl w⟩
  | some ad =>
    have HS := Lib.hid (ShF.made (Ext.refl w))
    have hx := (Ext.refl w).alloc (.cells #[] 27)
    have HX := Lib.hid hx
    clear hx
    go_enter Tryd.func45, Tryd.ntmps45
    go_wp2_with (at_builtin; refine wpList_appF rfl _ _ rfl rfl HS.out HX.out rfl (srcI_row HR.out HX.out) (by simp only [List.length_nil]; omega) ?_)
    intro v' w' h1 h2 h3
    have HP : Hid (ShF w w' v' l ∧ Ext w w') := Lib.hid ⟨h1, h2⟩
    clear h1 h2 h3
    go_wp2
    go_ret
    exact ⟨_, rfl, HP.out⟩

set_option maxHeartbeats 1000000 in
/-- slices.Clone of texts. -/
theorem cloneS_any (s : List (List UInt8)) (w : World) (v : Value) (hv : strE.Row w s v) (hl : s.length ≤ 900) :
    Calls Tryd.prog 46 #[v] w fun e w' => ∃ v', e = .returned v' ∧ OwnS 9 w.heap.size w' v' s ∧ Ext w w' := by
  obtain ⟨a, c, rfl, hc, -⟩ := hv.slice
  cases a with
  | none =>
    have hl0 : s = [] := by
      cases hx : s with
      | nil => rfl
      | cons y r =>
        obtain ⟨_, b, off, h, _⟩ := hv.at (by rw [hx]; simp)
        cases h
    subst hl0
    refine (Tryd.slices_Clone_string_nil _ _ w).mono ?_
    rintro e w' ⟨rfl, rfl⟩
    exact ⟨_, rfl, OwnS.nil _ _ _, Ext.refl _⟩
  | some ad =>
    by_cases h0 : s.length = 0
    · have hs0 : s = [] := List.eq_nil_of_length_eq_zero h0
      subst hs0
      refine (Tryd.slices_Clone_string_zero ad c w).mono ?_
      rintro e w' ⟨v', rfl, h1, -, h2⟩
      exact ⟨v', rfl, ⟨h1, fun s h => by cases h⟩, h2⟩
    · obtain ⟨-, b, off, hab, hb, hat⟩ := hv.at (by omega)
      injection hab with hab
      subst hab
      have hall : ∀ t ∈ s, t.length ≤ 9223372036854775807 := by
        intro t ht
        obtain ⟨i, hi, rfl⟩ := List.getElem_of_mem ht
        obtain ⟨cc, hR, _⟩ := hat i hi
        exact hR.2
      refine (Tryd.slices_Clone_string b off s.length c (s.map str) w (by simp) (by omega) (fun j hj => ?_)).mono ?_
      · have hjs : j < s.length := by simpa using hj
        obtain ⟨cc, hR, hcell⟩ := hat j hjs
        have := hcell 0 (by decide) w (Ext.refl w)
        rw [hR.1] at this
        rw [show off + j = off + (j * strE.sz + 0) by show off + j = off + (j * 1 + 0); omega, this]
        simp [List.getD, hjs]
      · rintro e w' ⟨v', rfl, h1, -, h2⟩
        refine ⟨v', rfl, ⟨?_, hall⟩, h2⟩
        have e : ((s.map str).take s.length).map Value.string = s.map strV := by
          rw [List.take_of_length_le (by simp), List.map_map]
          rfl
        rw [← e]
        exact h1

theorem HalfF.ext {w0 w w' : World} {v : Value} {l : List It} {j top : Nat} (h : HalfF w0 w v l j top) (hE : Ext w w') : HalfF w0 w' v l j top := by
  obtain ⟨ds, h1, h2, h3, h4⟩ := h
  exact ⟨ds, h1, hE.own h2, fun i hi hd => ⟨(h3 i hi hd).1, (h3 i hi hd).2.1, fun h => ⟨((h3 i hi hd).2.2 h).1.ext hE, ((h3 i hi hd).2.2 h).2⟩⟩, h4⟩
theorem HalfF.at {w0 w : World} {g cap : Nat} {l : List It} {j top : Nat} (h : HalfF w0 w (.slice (some ⟨g, 0, none⟩) l.length cap) l j top) (hj : j < l.length) :
    ∃ d, w.cell? ⟨g, j * 6 + 2, none⟩ = some d ∧ w.frozen? ⟨g, j * 6 + 2, none⟩ = false ∧ strE.Row w0 l[j].after d ∧ g < w.heap.size ∧ w0.heap.size ≤ g := by
  obtain ⟨ds, h1, h2, h3, _⟩ := h
  have hd : j < ds.length := by omega
  refine ⟨ds[j], ?_, h2.frozenAt _, (h3 j hj hd).2.1 (Nat.le_refl _), (h2.lt g rfl).2, (h2.lt g rfl).1⟩
  rw [h2.cellAt _ (by omega), itsCells_at l ds j 2 hj hd (by omega)]
  simp [itCells]
theorem HalfF.step {w0 w : World} {g cap : Nat} {l : List It} {j : Nat} {d : Value} {b : Nat} (h : HalfF w0 w (.slice (some ⟨g, 0, none⟩) l.length cap) l j b) (hj : j < l.length) (hd : OwnS 9 b w d l[j].after) (hb : w0.heap.size ≤ b) (hg : g < b) (hbw : b ≤ w.heap.size) :
    HalfF w0 (w.setCell ⟨g, j * 6 + 2, none⟩ d) (.slice (some ⟨g, 0, none⟩) l.length cap) l (j + 1) (w.setCell ⟨g, j * 6 + 2, none⟩ d).heap.size ∧ w.grownBy (w.setCell ⟨g, j * 6 + 2, none⟩ d) (some g) := by
  obtain ⟨ds, h1, h2, h3, h4⟩ := h
  have st := h2.stored (j * 6 + 2) d
  have hsz := st.2.size
  refine ⟨⟨ds.set j d, by simp [h1], by rw [itsCells_set l ds j d h1 hj]; exact st.1, fun i hi hid => ?_, fun i k hi hk hik hkj b' hb' => ?_⟩, st.2⟩
  · have hid' : i < ds.length := by omega
    by_cases e : i = j
    · subst e
      have ed : (ds.set i d)[i] = d := by simp
      rw [ed]
      exact ⟨(h3 i hi hid').1, fun h => by omega, fun _ => ⟨(hd.mono hb).kept st.2 (fun k hk e => by injection e with e; have := (hd.block k hk).1; omega), fun k hk => ⟨fun e => by have := Option.some.inj (show some g = some k from e); have := (hd.block k hk).1; omega, by have := (hd.block k hk).2; omega⟩⟩⟩
    · have ed : (ds.set j d)[i] = ds[i] := List.getElem_set_ne (fun h => e h.symm) _
      rw [ed]
      obtain ⟨a1, a2, a3⟩ := h3 i hi hid'
      exact ⟨a1, fun h => a2 (by omega), fun h => ⟨(a3 (by omega)).1.kept st.2 (fun k hk e => ((a3 (by omega)).2 k hk).1 (by rw [← e]; rfl)), fun k hk => ⟨((a3 (by omega)).2 k hk).1, by have := ((a3 (by omega)).2 k hk).2; omega⟩⟩⟩
  · have hi' : i < ds.length := by simpa using hi
    have hk' : k < ds.length := by simpa using hk
    have ei : (ds.set j d)[i] = ds[i] := List.getElem_set_ne (fun h => by omega) _
    rw [ei] at hb'
    by_cases e : k = j
    · subst e
      have ed : (ds.set k d)[k] = d := by simp
      rw [ed]
      intro e2
      have := ((h3 i (by omega) hi').2.2 hik).2 b' hb'
      have := (hd.block b' e2).1
      omega
    · have ek : (ds.set j d)[k] = ds[k] := List.getElem_set_ne (fun h => e h.symm) _
      rw [ek]
      exact h4 i k hi' hk' hik (by omega) b' hb'

set_option maxRecDepth 100000 in
set_option maxHeartbeats 2000000 in
/-- A copy is in memory of its own. -/
theorem fcopy_any (l : List It) (w : World) (v : Value) (hv : itE.Row w l v) (hl : l.length ≤ 900) (hs : ∀ x ∈ l, x.after.length ≤ 900) :
    Calls Tryd.prog 23 #[v] w fun e w' => ∃ v', e = .returned v' ∧ CopyF w.heap.size w' v' l ∧ Ext w w' := by
  have HV := Lib.hid hv
  have HSm := Lib.hid hs
  clear hv hs
  go_enter Tryd.func23, Tryd.ntmps23
  go_wp2_with fail
  refine (cloneI_any l w v HV.out hl).mono ?_
  rintro e w1 ⟨v1, rfl, hS, hE⟩
  obtain ⟨a, c, rfl, -⟩ := (hS.row hE).slice
  have HH : Hid (HalfF w w1 (.slice a l.length c) l 0 w1.heap.size) := Lib.hid (HalfF.start hS)
  have HE := Lib.hid hE
  clear hS hE
  go_wp2_with fail
  go_loopw [9] (fun i wr => ∃ j : Nat, j ≤ l.length ∧ i = .int .i64 j ∧ Hid (HalfF w wr (.slice a l.length c) l j wr.heap.size) ∧ Hid (Ext w wr)) (fun i _ => l.length - (intOf i).toNat)
  case atStart => exact ⟨0, by omega, rfl, HH, HE⟩
  case round =>
    clear HH HE
    obtain ⟨j, hj, rfl, HH, HE⟩ := hrel
    by_cases hlt : j < l.length
    case neg =>
      have hje : j = l.length := by omega
      have HP : Hid (CopyF w.heap.size wr (.slice a l.length c) l) := Lib.hid (by have := HH.out; rw [hje] at this; exact this.full)
      clear HH hje
      go_wp2
      go_ret
      exact ⟨_, rfl, HP.out, HE.out⟩
    obtain ⟨g, rfl⟩ : ∃ g, a = some ⟨g, 0, none⟩ := by
      obtain ⟨ds, h1, h2, h3, _⟩ := HH.out
      rcases h2.2 with ⟨h, h0⟩ | ⟨g, cap, cur, h, _⟩
      · omega
      · injection h with h; exact ⟨g, h⟩
    obtain ⟨d, hc, hf, hr, hg1, hg2⟩ := HH.out.at hlt
    have HR := Lib.hid (hr.ext HE.out)
    have hal := HSm.out l[j] (List.getElem_mem hlt)
    have hj0 : (0 : Int) ≤ (j : Int) := by omega
    have hj1 : (j : Int) < (l.length : Int) := by omega
    clear hr
    go_wp2_with fail
    refine (cloneS_any _ wr d HR.out hal).mono ?_
    rintro e w2 ⟨d', rfl, hO, hE2⟩
    obtain ⟨ad', cd', rfl, -⟩ := hO.row.slice
    have HO := Lib.hid hO
    have HE2 := Lib.hid (HE.out.trans hE2)
    have HH2 := Lib.hid (HH.out.ext hE2)
    have HSZ := Lib.hid hE2.size
    obtain ⟨d2, hc2, hf2, -, -, -⟩ := HH2.out.at hlt
    clear hO hE2 hc hf
    go_wp2_with fail
    go_roundw
    case rel =>
      obtain ⟨s1, s2⟩ := HH2.out.step hlt HO.out HE.out.size hg1 HSZ.out
      exact ⟨j + 1, by omega, by go_num, Lib.hid s1, Lib.hid (HE2.out.grown s2 (fun k hk => by injection hk with hk; omega))⟩
    case measure => simp [intOf]; omega
end Go.Proofs.YtgclfmdpapadnaaDoor

open Go.RowKit Go.Shelf
namespace Go.Proofs.YtgclfmdpapadnaaDoor
open Go Go.Proofs Fm

theorem row_parts {base : Nat} {w : World} {v : Value} {l : List It} {ds : List Value} (h1 : ds.length = l.length) (h2 : w.ownsRow base 27 6 v l.length (itsCells l ds))
    (h3 : ∀ i (hi : i < l.length) (hd : i < ds.length), strE.Row w l[i].after ds[i] ∧ itWf l[i]) : itE.Row w l v := by
  have hc := fun g => World.ownsRow.cells h2 (g := g)
  rcases h2.2 with ⟨rfl, h0⟩ | ⟨g, cap, cur, rfl, hb, hg, hl, hm, h5, h6⟩
  · have : l = [] := List.eq_nil_of_length_eq_zero h0
    subst this
    exact Elem.Row.void itE w none
  · refine Elem.Row.mk rfl hl hm (Array.getElem?_eq_some_iff.1 hg).1 (fun i hi => ?_)
    have hd : i < ds.length := by omega
    obtain ⟨a1, a2⟩ := h3 i hi hd
    refine ⟨fun j => (itCells l[i] ds[i]).getD j .nilFunc, ⟨rfl, rfl, a1, rfl, rfl, rfl, a2⟩, fun j hj => ?_⟩
    have hj6 : j < 6 := hj
    have := hc g rfl (i * 6 + j) ((itCells l[i] ds[i]).getD j .nilFunc) (by
      rw [itsCells_at l ds i j hi hd hj6, List.getD_eq_getElem?_getD, List.getElem?_eq_getElem (by simp [itCells]; omega)]
      rfl)
    rw [Addr.add_lit] at this
    exact this
theorem itsCells_put : ∀ (l : List It) (ds : List Value) (i f : Nat) (u : Value) (x' : It) (d' : Value) (_ : ds.length = l.length) (hi : i < l.length) (hd : i < ds.length) (_ : f < 6) (_ : itCells x' d' = (itCells l[i] ds[i]).set f u),
    itsCells (l.set i x') (ds.set i d') = (itsCells l ds).set (i * 6 + f) u
  | [], _, _, _, _, _, _, _, hi, _, _, _ => by simp at hi
  | _ :: _, [], _, _, _, _, _, _, _, hd, _, _ => by simp at hd
  | x :: l, e :: ds, 0, f, u, x', d', _, _, _, hf, hx => by
    unfold itsCells
    simp only [List.getElem_cons_zero] at hx
    rw [List.set_cons_zero, List.set_cons_zero, List.zipWith_cons_cons, List.zipWith_cons_cons, List.flatten_cons, List.flatten_cons, hx, Nat.zero_mul, Nat.zero_add, List.set_append_left _ _ (by simp [itCells]; omega)]
  | x :: l, e :: ds, i + 1, f, u, x', d', h, hi, hd, hf, hx => by
    have ih := itsCells_put l ds i f u x' d' (by simpa using h) (by simpa using hi) (by simpa using hd) hf (by simpa using hx)
    unfold itsCells at ih ⊢
    rw [List.set_cons_succ, List.set_cons_succ, List.zipWith_cons_cons, List.zipWith_cons_cons, List.flatten_cons, List.flatten_cons, ih]
    have e : (i + 1) * 6 + f = (itCells x e).length + (i * 6 + f) := by simp [itCells]; omega
    rw [e, List.set_append_right _ _ (by omega)]
    congr 2
    omega
theorem CopyF.put {base : Nat} {w : World} {g cap : Nat} {l : List It} {i : Nat} (h : CopyF base w (.slice (some ⟨g, 0, none⟩) l.length cap) l) (hi : i < l.length) (f : Nat) (hf : f < 6) (u : Value) (x' : It) (hx : ∀ d, itCells x' d = (itCells l[i] d).set f u) (ha : x'.after = l[i].after) (hw : itWf x') :
    itE.Row (w.setCell ⟨g, i * 6 + f, none⟩ u) (l.set i x') (.slice (some ⟨g, 0, none⟩) l.length cap) ∧ w.grownBy (w.setCell ⟨g, i * 6 + f, none⟩ u) (some g) := by
  obtain ⟨ds, h1, h2, h3, h4⟩ := h
  have st := h2.stored (i * 6 + f) u
  have hid : i < ds.length := by omega
  refine ⟨row_parts (ds := ds) (by simp [h1]) (by
    have e := itsCells_put l ds i f u x' ds[i] h1 hi hid hf (hx _)
    rw [List.set_getElem_self] at e
    rw [List.length_set, e]; exact st.1) (fun k hk hkd => ?_), st.2⟩
  have hk' : k < l.length := by simpa using hk
  obtain ⟨a1, a2, a3⟩ := h3 k hk' hkd
  have hrow := (a2.kept st.2 (fun b hb e => a3 b hb (by rw [← e]; rfl))).row
  by_cases e : i = k
  · subst e
    have ex : (l.set i x')[i] = x' := by simp
    rw [ex, ha]; exact ⟨hrow, hw⟩
  · have ex : (l.set i x')[k] = l[k] := List.getElem_set_ne e _
    rw [ex]; exact ⟨hrow, a1⟩
/-- What lies at an item, and what becomes of the copy when its texts turn. -/
theorem CopyF.at {base : Nat} {w : World} {g cap : Nat} {l : List It} {i : Nat} (h : CopyF base w (.slice (some ⟨g, 0, none⟩) l.length cap) l) (hi : i < l.length) :
    ∃ d, (∀ j u, (itCells l[i] d)[j]? = some u → w.cell? ⟨g, i * 6 + j, none⟩ = some u) ∧ (∀ j, w.frozen? ⟨g, j, none⟩ = false) ∧ base ≤ g ∧ g < w.heap.size ∧ itWf l[i] ∧ OwnS 9 base w d l[i].after ∧ (∀ b, d.ownBlock = some b → b ≠ g) ∧
      (∀ w' d' x', w.grownBy w' d.ownBlock → OwnS 9 base w' d' x'.after → (∀ b, d'.ownBlock = some b → b ≠ g) → itCells x' d' = (itCells l[i] d).set 2 d' → itWf x' →
        w'.cell? ⟨g, i * 6 + 2, none⟩ = some d ∧ w'.frozen? ⟨g, i * 6 + 2, none⟩ = false ∧ itE.Row (w'.setCell ⟨g, i * 6 + 2, none⟩ d') (l.set i x') (.slice (some ⟨g, 0, none⟩) l.length cap) ∧ w'.grownBy (w'.setCell ⟨g, i * 6 + 2, none⟩ d') (some g)) ∧
      (∀ w' x', w.grownBy w' d.ownBlock → OwnS 9 base w' d x'.after → itCells x' d = itCells l[i] d → itWf x' → itE.Row w' (l.set i x') (.slice (some ⟨g, 0, none⟩) l.length cap)) := by
  obtain ⟨ds, h1, h2, h3, h4⟩ := h
  have hid : i < ds.length := by omega
  obtain ⟨a1, a2, a3⟩ := h3 i hi hid
  have hcell : ∀ (w' : World) (_ : w'.ownsRow base 27 6 (.slice (some ⟨g, 0, none⟩) l.length cap) l.length (itsCells l ds)) j u, (itCells l[i] ds[i])[j]? = some u → w'.cell? ⟨g, i * 6 + j, none⟩ = some u := by
    intro w' h2' j u hu
    have hj : j < 6 := by have := (List.getElem?_eq_some_iff.1 hu).1; simpa [itCells] using this
    rw [h2'.cellAt _ (by omega), itsCells_at l ds i j hi hid hj]; exact hu
  have hkept : ∀ w', w.grownBy w' ds[i].ownBlock → w'.ownsRow base 27 6 (.slice (some ⟨g, 0, none⟩) l.length cap) l.length (itsCells l ds) := fun w' hg => h2.kept hg (.inr (fun e => a3 g e.symm rfl))
  refine ⟨ds[i], hcell w h2, fun j => h2.frozenAt j, (h2.lt g rfl).1, (h2.lt g rfl).2, a1, a2, fun b hb e => a3 b hb (by rw [e]; rfl), fun w' d' x' hg ho hb hx hw => ?_, fun w' x' hg ho hx hw => ?_⟩
  · have h2' := hkept w' hg
    have st := h2'.stored (i * 6 + 2) d'
    refine ⟨hcell w' h2' 2 _ (by simp [itCells]), h2'.frozenAt _, row_parts (ds := ds.set i d') (by simp [h1]) (by
      rw [List.length_set, itsCells_put l ds i 2 d' x' d' h1 hi hid (by omega) hx]; exact st.1) (fun k hk hkd => ?_), st.2⟩
    have hk' : k < l.length := by simpa using hk
    have hkd' : k < ds.length := by simpa using hkd
    by_cases e : i = k
    · subst e
      have ex : (l.set i x')[i] = x' := by simp
      have ed : (ds.set i d')[i] = d' := by simp
      rw [ex, ed]
      exact ⟨(ho.kept st.2 (fun b hb' e => by injection e with e; exact hb b hb' e.symm)).row, hw⟩
    · have ex : (l.set i x')[k] = l[k] := List.getElem_set_ne e _
      have ed : (ds.set i d')[k] = ds[k] := List.getElem_set_ne e _
      rw [ex, ed]
      obtain ⟨b1, b2, b3⟩ := h3 k hk' hkd'
      exact ⟨((b2.kept hg (fun b hb' e2 => h4 i k hid hkd' e b e2 hb')).kept st.2 (fun b hb' e2 => b3 b hb' (by rw [← e2]; rfl))).row, b1⟩
  · have h2' := hkept w' hg
    refine row_parts (ds := ds) (by simp [h1]) (by
      have e := itsCells_put l ds i 2 ds[i] x' ds[i] h1 hi hid (by omega) (by rw [hx]; simp [itCells])
      rw [List.set_getElem_self] at e
      have e2 : (itsCells l ds).set (i * 6 + 2) ds[i] = itsCells l ds := by
        refine List.ext_getElem? (fun p => ?_)
        rw [List.getElem?_set]
        split
        · rename_i hp
          subst hp
          have := itsCells_at l ds i 2 hi hid (by omega)
          rw [this]
          have hlt : i * 6 + 2 < (itsCells l ds).length := by rw [itsCells_len l ds h1]; omega
          rw [if_pos hlt]; simp [itCells]
        · rfl
      rw [List.length_set, e, e2]; exact h2') (fun k hk hkd => ?_)
    have hk' : k < l.length := by simpa using hk
    by_cases e : i = k
    · subst e
      have ex : (l.set i x')[i] = x' := by simp
      rw [ex]; exact ⟨ho.row, hw⟩
    · have ex : (l.set i x')[k] = l[k] := List.getElem_set_ne e _
      rw [ex]
      obtain ⟨b1, b2, b3⟩ := h3 k hk' hkd
      exact ⟨(b2.kept hg (fun b hb' e2 => h4 i k hid hkd e b e2 hb')).row, b1⟩
end Go.Proofs.YtgclfmdpapadnaaDoor

open Go.RowKit Go.Shelf
namespace Go.Proofs.YtgclfmdpapadnaaDoor
open Go Go.Proofs Fm

/-- A field of an item is written. -/
theorem CopyF.putC {base : Nat} {w : World} {g cap : Nat} {l : List It} {i : Nat} (h : CopyF base w (.slice (some ⟨g, 0, none⟩) l.length cap) l) (hi : i < l.length) (f : Nat) (hf : f < 6) (u : Value) (x' : It) (hx : ∀ d, itCells x' d = (itCells l[i] d).set f u) (ha : x'.after = l[i].after) (hw : itWf x') :
    CopyF base (w.setCell ⟨g, i * 6 + f, none⟩ u) (.slice (some ⟨g, 0, none⟩) l.length cap) (l.set i x') ∧ w.grownBy (w.setCell ⟨g, i * 6 + f, none⟩ u) (some g) := by
  obtain ⟨ds, h1, h2, h3, h4⟩ := h
  have st := h2.stored (i * 6 + f) u
  have hid : i < ds.length := by omega
  refine ⟨⟨ds, by simp [h1], by
    have e := itsCells_put l ds i f u x' ds[i] h1 hi hid hf (hx _)
    rw [List.set_getElem_self] at e
    rw [List.length_set, e]; exact st.1, fun k hk hkd => ?_, h4⟩, st.2⟩
  have hk' : k < l.length := by simpa using hk
  obtain ⟨a1, a2, a3⟩ := h3 k hk' hkd
  have a4 := a2.kept st.2 (fun b hb e => a3 b hb (by rw [← e]; rfl))
  by_cases e : i = k
  · subst e
    have ex : (l.set i x')[i] = x' := by simp
    rw [ex, ha]; exact ⟨hw, a4, a3⟩
  · have ex : (l.set i x')[k] = l[k] := List.getElem_set_ne e _
    rw [ex]; exact ⟨a1, a4, a3⟩
theorem CopyF.form {base : Nat} {w : World} {v : Value} {l : List It} (h : CopyF base w v l) (hl : 0 < l.length) : ∃ g c, v = .slice (some ⟨g, 0, none⟩) l.length c ∧ base ≤ g ∧ g < w.heap.size := by
  obtain ⟨ds, h1, h2, -⟩ := h
  exact World.ownsRow.form h2 hl
theorem CopyF.slice {base : Nat} {w : World} {v : Value} {l : List It} (h : CopyF base w v l) : ∃ a c, v = .slice a l.length c := by
  obtain ⟨ds, h1, h2, -⟩ := h
  exact (by rcases h2.2 with ⟨rfl, h0⟩ | ⟨g, cap, _, rfl, _⟩ <;> first | exact ⟨none, 0, by rw [h0]⟩ | exact ⟨_, _, rfl⟩)
theorem CopyF.row {base : Nat} {w : World} {v : Value} {l : List It} (h : CopyF base w v l) : itE.Row w l v := by
  obtain ⟨ds, h1, h2, h3, -⟩ := h
  exact row_parts h1 h2 (fun i hi hd => ⟨(h3 i hi hd).2.1.row, (h3 i hi hd).1⟩)
theorem CopyF.relen {base n m cap : Nat} {w : World} {a : Option Addr} {l : List It} (h : CopyF base w (.slice a n cap) l) (e : n = m) : CopyF base w (.slice a m cap) l := by subst e; exact h
/-- What lies at an item; its texts are written. -/
theorem CopyF.textC {base : Nat} {w : World} {g cap : Nat} {l : List It} {i : Nat} (h : CopyF base w (.slice (some ⟨g, 0, none⟩) l.length cap) l) (hi : i < l.length) :
    ∃ d, (∀ j u, (itCells l[i] d)[j]? = some u → w.cell? ⟨g, i * 6 + j, none⟩ = some u) ∧ (∀ j, w.frozen? ⟨g, j, none⟩ = false) ∧ base ≤ g ∧ g < w.heap.size ∧ itWf l[i] ∧ OwnS 9 base w d l[i].after ∧ (∀ b, d.ownBlock = some b → b ≠ g) ∧
      ∀ w' xs, w.grownBy w' d.ownBlock → OwnS 9 base w' d xs → CopyF base w' (.slice (some ⟨g, 0, none⟩) l.length cap) (l.set i { l[i] with after := xs }) ∧ w'.cell? ⟨g, i * 6 + 2, none⟩ = some d := by
  obtain ⟨ds, h1, h2, h3, h4⟩ := h
  have hid : i < ds.length := by omega
  obtain ⟨a1, a2, a3⟩ := h3 i hi hid
  have hcell : ∀ (w' : World) (_ : w'.ownsRow base 27 6 (.slice (some ⟨g, 0, none⟩) l.length cap) l.length (itsCells l ds)) j u, (itCells l[i] ds[i])[j]? = some u → w'.cell? ⟨g, i * 6 + j, none⟩ = some u := by
    intro w' h2' j u hu
    have hj : j < 6 := by have := (List.getElem?_eq_some_iff.1 hu).1; simpa [itCells] using this
    rw [h2'.cellAt _ (by omega), itsCells_at l ds i j hi hid hj]; exact hu
  refine ⟨ds[i], hcell w h2, fun j => h2.frozenAt j, (h2.lt g rfl).1, (h2.lt g rfl).2, a1, a2, fun b hb e => a3 b hb (by rw [e]; rfl), fun w' xs hg ho => ?_⟩
  have h2' : w'.ownsRow base 27 6 (.slice (some ⟨g, 0, none⟩) l.length cap) l.length (itsCells l ds) := h2.kept hg (.inr (fun e => a3 g e.symm rfl))
  refine ⟨⟨ds, by simp [h1], ?_, fun k hk hkd => ?_, h4⟩, hcell w' h2' 2 _ (by simp [itCells])⟩
  · have e := itsCells_put l ds i 2 ds[i] { l[i] with after := xs } ds[i] h1 hi hid (by omega) (by simp [itCells])
    rw [List.set_getElem_self] at e
    have e2 : (itsCells l ds).set (i * 6 + 2) ds[i] = itsCells l ds := by
      refine List.ext_getElem? (fun p => ?_)
      rw [List.getElem?_set]
      split
      · rename_i hp
        subst hp
        have := itsCells_at l ds i 2 hi hid (by omega)
        rw [this]
        have hlt : i * 6 + 2 < (itsCells l ds).length := by rw [itsCells_len l ds h1]; omega
        rw [if_pos hlt]; simp [itCells]
      · rfl
    rw [List.length_set, e, e2]; exact h2'
  · have hk' : k < l.length := by simpa using hk
    by_cases e : i = k
    · subst e
      have ex : (l.set i { l[i] with after := xs })[i] = { l[i] with after := xs } := by simp
      rw [ex]; exact ⟨a1, ho, a3⟩
    · have ex : (l.set i { l[i] with after := xs })[k] = l[k] := List.getElem_set_ne e _
      rw [ex]
      obtain ⟨b1, b2, b3⟩ := h3 k hk' hkd
      exact ⟨b1, b2.kept hg (fun b hb' e2 => h4 i k hid hkd e b e2 hb'), b3⟩
/-- A text is written. -/
theorem _root_.Fm.OwnS.set1 {e : TypeId} {base : Nat} {w : World} {g cap : Nat} {l : List (List UInt8)} (h : OwnS e base w (.slice (some ⟨g, 0, none⟩) l.length cap) l) (m : Nat) (hm : m < l.length) (s : List UInt8) (hs : s.length ≤ 9223372036854775807) :
    w.cell? ⟨g, m, none⟩ = some (.string (str l[m])) ∧ w.frozen? ⟨g, m, none⟩ = false ∧ OwnS e base (w.setCell ⟨g, m, none⟩ (.string (str s))) (.slice (some ⟨g, 0, none⟩) l.length cap) (l.set m s) ∧ w.grownBy (w.setCell ⟨g, m, none⟩ (.string (str s))) (some g) := by
  obtain ⟨h1, h2⟩ := h
  have hl : m < (l.map strV).length := by simpa using hm
  refine ⟨?_, h1.frozenAt m, ⟨?_, fun t ht => ?_⟩, (h1.stored m _).2⟩
  · rw [h1.cellAt m (by simpa using hm), List.getElem?_map, List.getElem?_eq_getElem hm]; rfl
  · have := (h1.stored m (.string (str s))).1
    rw [List.length_set, List.map_set]
    exact this
  · rcases List.mem_or_eq_of_mem_set ht with h | h
    · exact h2 t h
    · rw [h]; exact hs
end Go.Proofs.YtgclfmdpapadnaaDoor

open Go.RowKit Go.Shelf
namespace Go.Proofs.YtgclfmdpapadnaaDoor
open Go Go.Proofs Fm
attribute [local go_sem] Oper.semAt_some

theorem preNew_take (s : List UInt8) : preNew s = (s.take 4 == [110, 101, 119, 95]) := by
  unfold preNew
  match s with
  | [] | [_] | [_, _] | [_, _, _] => simp [List.isPrefixOf]
  | a :: b :: c :: d :: t => simp [List.isPrefixOf, Bool.beq_comm]
theorem extract4 (s : List UInt8) : ((str s).extract 0 4).toList = s.take 4 := by
  have e : (str s).extract 0 4 = str (s.take 4) := by
    unfold str
    rw [ByteArray.extract_mk]
    simp
  rw [e, str_toList]
theorem str_addH {P : Program} (a b : List UInt8) (h : a.length + b.length ≤ 9223372036854775807) (w : World) : (Op.stringOp .add (str a) (str b)).run P w = .ok (.string (str (a ++ b))) w := by
  have h' : ¬ (str a).size + (str b).size > 9223372036854775807 := by rw [str_size, str_size]; omega
  rw [run_string_add_if, if_neg h']
  unfold str; rw [ByteArray.mk_append_mk]
theorem anewA {i : Nat} (h : i < 30) : Utf8.encode (97 + (i : Int) % 26) = str [UInt8.ofNat (97 + i % 26)] ∧ Utf8.encode (97 + (i : Int) / 26) = str [UInt8.ofNat (97 + i / 26)] := by
  have : ∀ i : Fin 30, Utf8.encode (97 + ((i.val : Nat) : Int) % 26) = str [UInt8.ofNat (97 + i.val % 26)] ∧ Utf8.encode (97 + ((i.val : Nat) : Int) / 26) = str [UInt8.ofNat (97 + i.val / 26)] := by decide
  exact this ⟨i, h⟩
set_option maxRecDepth 100000 in
set_option maxHeartbeats 1000000 in
theorem anewed_any (i : Nat) (hi : i < 30) (w : World) : Calls Tryd.prog 24 #[.int .i64 i] w fun e w' => e = .returned (.string (str (newB i))) ∧ w = w' := by
  obtain ⟨hS, hT⟩ := anewA hi
  have h0 : (0 : Int) ≤ (i : Int) := by omega
  have h1 : (i : Int) < 30 := by omega
  obtain ⟨A, hA⟩ : ∃ A, A = (i : Int) % 26 := ⟨_, rfl⟩
  obtain ⟨B, hB⟩ : ∃ B, B = (i : Int) / 26 := ⟨_, rfl⟩
  obtain ⟨sa, hsa⟩ : ∃ sa, sa = [UInt8.ofNat (97 + i % 26)] := ⟨_, rfl⟩
  obtain ⟨sb, hsb⟩ : ∃ sb, sb = [UInt8.ofNat (97 + i / 26)] := ⟨_, rfl⟩
  obtain ⟨t1, ht1⟩ : ∃ t1, t1 = [110, 101, 119, 95] ++ sa := ⟨_, rfl⟩
  obtain ⟨t2, ht2⟩ : ∃ t2, t2 = t1 ++ sb := ⟨_, rfl⟩
  have la : sa.length = 1 := by rw [hsa]; rfl
  have lb : sb.length = 1 := by rw [hsb]; rfl
  have l1 : t1.length = 5 := by rw [ht1]; simp [la]
  have a1 : ∀ w', (Op.stringOp .add ⟨#[110, 101, 119, 95]⟩ (str sa)).run Tryd.prog w' = .ok (.string (str t1)) w' := fun w' => ht1 ▸ str_addH (P := Tryd.prog) [110, 101, 119, 95] sa (by simp [la]) w'
  have a2 : ∀ w', (Op.stringOp .add (str t1) (str sb)).run Tryd.prog w' = .ok (.string (str t2)) w' := fun w' => ht2 ▸ str_addH (P := Tryd.prog) t1 sb (by omega) w'
  have HN := Lib.hid (show newB i = t2 by rw [ht2, ht1, hsa, hsb]; rfl)
  rw [← hA, ← hsa] at hS
  rw [← hB, ← hsb] at hT
  have b1 : 0 ≤ A ∧ A < 26 := by omega
  have b2 : 0 ≤ B ∧ B ≤ 1 := by omega
  have e1 := hA.symm
  have e2 := hB.symm
  clear hA hB hsa hsb ht1 ht2 la lb l1
  go_enter Tryd.func24, Tryd.ntmps24
  go_wp2
  go_ret
  exact ⟨by rw [HN.out]; rfl, rfl⟩
set_option maxHeartbeats 1000000 in
theorem hasp_any (s : List UInt8) (hs : s.length ≤ 9223372036854775807) (w : World) : Calls Tryd.prog 44 #[.string (str s), .string { data := #[110, 101, 119, 95] }] w fun e w' => e = .returned (.bool (preNew s)) ∧ w = w' := by
  have hsz : (str s).size = s.length := str_size s
  have HX := Lib.hid (preNew_take s)
  by_cases h4 : 4 ≤ s.length
  · have HE := Lib.hid (show ((str s).extract 0 4).toList = s.take 4 from extract4 s)
    go_enter Tryd.func44, Tryd.ntmps44
    go_wp2
    go_ret
    exact ⟨by rw [HX.out, ← HE.out]; rfl, rfl⟩
  · have HY := Lib.hid (show preNew s = false by
      rw [HX.out, beq_eq_false_iff_ne]
      intro e
      have := congrArg List.length e
      rw [List.length_take] at this
      simp at this
      omega)
    go_enter Tryd.func44, Tryd.ntmps44
    go_wp2
    go_ret
    exact ⟨by rw [HY.out]; rfl, rfl⟩
set_option maxHeartbeats 1000000 in
theorem hasPrefix_any (s : List UInt8) (hs : s.length ≤ 9223372036854775807) (w : World) : Calls Tryd.prog 22 #[.string (str s), .string { data := #[110, 101, 119, 95] }] w fun e w' => e = .returned (.bool (preNew s)) ∧ w = w' := by
  have HC := Lib.hid (hasp_any s hs w)
  go_enter Tryd.func22, Tryd.ntmps22
  go_wp2_with fail
  refine HC.out.mono ?_
  rintro e w' ⟨rfl, rfl⟩
  go_wp2
  go_ret
  exact ⟨rfl, rfl⟩
end Go.Proofs.YtgclfmdpapadnaaDoor

open Go.RowKit Go.Shelf
namespace Fm
open Go Go.RowKit
/-- Which item has a name. -/
def anewF (l : List It) (s : List UInt8) : Option Int := (l.findIdx? (fun x => decide (x.name = s))).map (fun (i : Nat) => (i : Int))
/-- Items of which the first j are named anew. -/
def turnTo (I : List It) (j : Nat) : List It := I.mapIdx (fun i x => if i < j then turnI I x else x)
theorem turnTo_len (I : List It) (j : Nat) : (turnTo I j).length = I.length := List.length_mapIdx
theorem turnTo_zero (I : List It) : turnTo I 0 = I := by
  unfold turnTo
  refine List.ext_getElem (by simp) fun i h1 h2 => ?_
  simp
theorem turnTo_all (I : List It) : turnTo I I.length = I.map (turnI I) := by
  unfold turnTo
  refine List.ext_getElem (by simp) fun i h1 h2 => ?_
  simp only [List.getElem_mapIdx, List.getElem_map]
  rw [if_pos (by simpa using h2)]
theorem turnTo_at (I : List It) (j : Nat) (hj : j < (turnTo I j).length) (hl : j < I.length) : (turnTo I j)[j] = I[j] := (List.getElem_mapIdx (h := hj)).trans (if_neg (Nat.lt_irrefl _))
theorem turnTo_succ (I : List It) (j : Nat) (hl : j < I.length) : turnTo I (j + 1) = (turnTo I j).set j (turnI I I[j]) := by
  unfold turnTo
  refine List.ext_getElem (by simp) fun i h1 h2 => ?_
  rw [List.getElem_set]
  simp only [List.getElem_mapIdx]
  by_cases e : j = i
  · subst e; simp
  · rw [if_neg e]
    by_cases h : i < j
    · rw [if_pos h, if_pos (by omega)]
    · rw [if_neg h, if_neg (by omega)]
/-- Texts of which the first m are turned. -/
def turnA (I : List It) (a : List (List UInt8)) (m : Nat) : List (List UInt8) := a.mapIdx (fun i s => if i < m then turnN I s else s)
theorem turnA_len (I : List It) (a : List (List UInt8)) (m : Nat) : (turnA I a m).length = a.length := List.length_mapIdx
theorem turnA_zero (I : List It) (a : List (List UInt8)) : turnA I a 0 = a := by
  unfold turnA
  refine List.ext_getElem (by simp) fun i h1 h2 => ?_
  simp
theorem turnA_all (I : List It) (a : List (List UInt8)) : turnA I a a.length = a.map (turnN I) := by
  unfold turnA
  refine List.ext_getElem (by simp) fun i h1 h2 => ?_
  simp only [List.getElem_mapIdx, List.getElem_map]
  rw [if_pos (by simpa using h2)]
theorem turnA_at (I : List It) (a : List (List UInt8)) (m : Nat) (hm : m < (turnA I a m).length) (hl : m < a.length) : (turnA I a m)[m] = a[m] := (List.getElem_mapIdx (h := hm)).trans (if_neg (Nat.lt_irrefl _))
theorem turnA_succ (I : List It) (a : List (List UInt8)) (m : Nat) (hl : m < a.length) : turnA I a (m + 1) = (turnA I a m).set m (turnN I a[m]) := by
  unfold turnA
  refine List.ext_getElem (by simp) fun i h1 h2 => ?_
  rw [List.getElem_set]
  simp only [List.getElem_mapIdx]
  by_cases e : m = i
  · subst e; simp
  · rw [if_neg e]
    by_cases h : i < m
    · rw [if_pos h, if_pos (by omega)]
    · rw [if_neg h, if_neg (by omega)]
theorem anewF_some {I : List It} {s : List UInt8} {t : Nat} (h : I.findIdx? (fun x => decide (x.name = s)) = some t) : anewF I s = some (t : Int) ∧ turnN I s = newB t ∧ t < I.length := by
  refine ⟨by unfold anewF; rw [h]; rfl, by unfold turnN; rw [h], ?_⟩
  rw [List.findIdx?_eq_some_iff_getElem] at h
  exact h.1
theorem anewF_none {I : List It} {s : List UInt8} (h : I.findIdx? (fun x => decide (x.name = s)) = none) : anewF I s = none ∧ turnN I s = s := ⟨by unfold anewF; rw [h]; rfl, by unfold turnN; rw [h]⟩
theorem twice_of {I : List It} (h : ∀ (i : Nat) (hi : i < I.length), anewF (I.take i) I[i].name = none) : twiceF I = false := by
  rw [twiceF_iff]
  intro i j hi hj e
  have h1 := h i hi
  unfold anewF at h1
  rw [Option.map_eq_none_iff, List.findIdx?_eq_none_iff] at h1
  have h2 := h1 I[j] (by rw [List.mem_take_iff_getElem]; exact ⟨j, by omega, rfl⟩)
  simp [e] at h2
theorem newB_len (i : Nat) : (newB i).length = 6 := rfl
theorem preNew_in {I : List It} {s : List UInt8} (hn : ∀ x, x ∈ I → preNew x.name = false) {t : Nat} (h : I.findIdx? (fun x => decide (x.name = s)) = some t) : preNew s = false := by
  rw [List.findIdx?_eq_some_iff_getElem] at h
  obtain ⟨ht, h1, -⟩ := h
  rw [decide_eq_true_eq] at h1
  rw [← h1]
  exact hn _ (List.getElem_mem ht)
end Fm
namespace Go.Proofs.YtgclfmdpapadnaaDoor
open Go Go.Proofs Fm
attribute [local go_sem] Oper.semAt_some

theorem anewF_put {I : List It} {j : Nat} (hj : j < I.length) (h : anewF (I.take j) I[j].name = none) : supd (anewF (I.take j)) I[j].name (j : Int) = anewF (I.take (j + 1)) := by
  funext s
  unfold supd
  have e : anewF (I.take (j + 1)) s = (anewF (I.take j) s).or (if I[j].name = s then some (j : Int) else none) := by
    unfold anewF
    rw [List.take_succ_eq_append_getElem hj, List.findIdx?_append, Option.map_or]
    congr 1
    have hm : min j I.length = j := by omega
    by_cases hs : I[j].name = s
    · rw [if_pos hs]; simp [hs, hm]
    · rw [if_neg hs]; simp [hs]
  rw [e]
  by_cases hs : s = I[j].name
  · rw [if_pos hs, hs, h, if_pos rfl]; rfl
  · rw [if_neg hs, if_neg (fun h => hs h.symm)]
    cases anewF (I.take j) s <;> rfl
theorem SMap.cast {w : World} {b n : Nat} {f g : List UInt8 → Option Int} {sz : Nat} (h : SMap w b n f sz) (e : f = g) : SMap w b n g sz := by rw [← e]; exact h
set_option maxRecDepth 100000 in
set_option maxHeartbeats 4000000 in
theorem checkAnew_any (w : World) (c : Cfg) (cv : Value) (hcv : CfgV w c cv) (l : List Int) (lv : Value) (hlv : intE.Row w l lv) (at' : Int) (_hat : isI64 at') (q : Int) (_hq : isI64 q) (items : List It) (iv : Value) (hiv : itE.Row w items iv) :
    Calls Tryd.prog 7 #[cv, lv, .int .i64 at', .int .i64 q, iv] w fun e w' => e = .returned (.bool true) ∧ Ext w w' := by
  obtain ⟨rfl, -⟩ := hcv
  obtain ⟨k0, k1, k2, k3, k4⟩ := c
  obtain ⟨al, cl, rfl, hl1, hl2⟩ := hlv.slice
  obtain ⟨ai, ci, rfl, hi1, hi2⟩ := hiv.slice
  obtain ⟨IN, hIN⟩ : ∃ IN, IN = min items.length 30 := ⟨_, rfl⟩
  have hmin : min (items.length : Int) 30 = (IN : Int) := by omega
  have hs := slice_it_upto ai items.length ci IN (by omega)
  obtain ⟨I, hI⟩ : ∃ I, I = items.take IN := ⟨_, rfl⟩
  have HI := Lib.hid (show itE.Row w I (.slice ai IN ci) by rw [hI]; exact hiv.take (by omega))
  have HIn := Lib.hid (show I.length = IN by rw [hI, List.length_take]; omega)
  have hi30 : IN ≤ 30 := by omega
  have HR := Lib.hid hlv
  have hE1 := (Ext.refl w).alloc (.cells #[.int .i64 k0, .int .i64 k1, .int .i64 k2, .int .i64 k3, .int .i64 k4] 32)
  have hB1 := BoxL.new w [.int .i64 k0, .int .i64 k1, .int .i64 k2, .int .i64 k3, .int .i64 k4] 32
  have HE1 := Lib.hid hE1
  have HB1 := Lib.hid hB1
  clear hI hIN hlv hiv hl1 hi1 hE1 hB1
  simp only
  go_enter Tryd.func7, Tryd.ntmps7
  go_upto_region 1 with (fail)
  generalize w.alloc (.cells #[.int .i64 k0, .int .i64 k1, .int .i64 k2, .int .i64 k3, .int .i64 k4] 32) = W1 at *
  generalize w.heap.size = CB at *
  go_wp2_with fail
  refine (owned_any l at' W1 _ (HR.out.ext HE1.out)).mono ?_
  rintro e w2 ⟨v2, rfl, hN2, hE2⟩
  obtain ⟨A2, C2, rfl⟩ := hN2.slice
  obtain ⟨L, hL⟩ : ∃ L, L = ownedF l := ⟨_, rfl⟩
  have hO : RightO L := by rw [hL]; exact ownedF_right l
  have hLl : L.length ≤ 60 := by rw [hL, ownedF_len]; omega
  obtain ⟨OW, hOW⟩ : ∃ OW, OW = ownerF l at' := ⟨_, rfl⟩
  rw [← hL] at hN2
  rw [← hL, ← hOW]
  have HO := Lib.hid hO
  have HLl := Lib.hid hLl
  have HN2 := Lib.hid hN2.row
  have HE2 := Lib.hid (HE1.out.trans hE2)
  have HB2 := Lib.hid (HB1.out.ext hE2)
  clear hL hOW hO hLl hN2 hE2 HR HB1 HE1
  go_upto_region 3 with (fail)
  clear hmin hs
  go_wp2_with fail
  refine (fright_any I w2 _ (HI.out.ext HE2.out)).mono ?_
  cases hfw : fragB I with
  | false =>
    rintro e w3 ⟨rfl, hE3⟩
    have HE3 := Lib.hid (HE2.out.trans hE3)
    clear hfw hE3
    go_wp2_with fail
    refine (awake20_any w3).mono ?_
    rintro e w4 ⟨rfl, hE4⟩
    have HE4 := Lib.hid (HE3.out.trans hE4)
    clear hE4
    go_wp2
    go_ret
    exact ⟨rfl, HE4.out⟩
  | true =>
  rintro e w3 ⟨rfl, hE3⟩
  have HFr := Lib.hid hfw
  have HE3 := Lib.hid (HE2.out.trans hE3)
  have HB3 := Lib.hid (HB2.out.ext hE3)
  have HN3 := Lib.hid (HN2.out.ext hE3)
  clear hfw hE3 HB2 HN2 HE2
  have hmm := @run_makeMap Tryd.prog
  go_upto_region 6 with (fail)
  clear hmm
  have hE5 := (Ext.refl w3).alloc (.map #[] 0)
  have HM5 := Lib.hid ((SMap.new w3).cast (show (fun _ => none) = anewF (I.take 0) by funext s; unfold anewF; simp))
  have HE5 := Lib.hid hE5
  clear hE5
  generalize w3.alloc (.map #[] 0) = w5 at *
  obtain ⟨MB, hMB⟩ : ∃ MB, MB = w3.heap.size := ⟨_, rfl⟩
  rw [← hMB] at HM5 ⊢
  have HMB := Lib.hid hMB
  clear hMB
  go_wp2_with fail
  go_loopw [45] (fun i wr => ∃ (j sz : Nat), j ≤ IN ∧ i = .int .i64 j ∧ Hid (Ext w3 wr) ∧ Hid (SMap wr MB j (anewF (I.take j)) sz) ∧ Hid (∀ (i : Nat) (hi : i < I.length), i < j → anewF (I.take i) I[i].name = none ∧ preNew I[i].name = false)) (fun i _ => IN - (intOf i).toNat)
  case atStart => exact ⟨0, 0, by omega, rfl, HE5, HM5, Lib.hid (fun i hi h => absurd h (Nat.not_lt_zero _))⟩
  case round =>
    clear HE5 HM5
    obtain ⟨j, sz, hj, rfl, HE, HM, HU⟩ := hrel
    by_cases hlt : j < IN
    case neg =>
      have HM := Lib.hid (show SMap wr MB j (anewF I) sz by have := HM.out; rwa [show I.take j = I by rw [show j = I.length by rw [HIn.out]; omega, List.take_length]] at this)
      have HT := Lib.hid (show twiceF I = false from twice_of fun i hi => (HU.out i hi (by rw [HIn.out] at hi; omega)).1)
      have HP := Lib.hid (show ∀ x, x ∈ I → preNew x.name = false from fun x hx => by
        obtain ⟨i, hi, rfl⟩ := List.getElem_of_mem hx
        exact (HU.out i hi (by rw [HIn.out] at hi; omega)).2)
      clear HU
      go_wp2_with fail
      refine (fcopy_any I wr _ (HI.out.ext (HE3.out.trans HE.out)) (by rw [HIn.out]; omega) (fun x hx => ?_)).mono ?_
      · have := HFr.out
        unfold fragB at this
        rw [Bool.and_eq_true, List.all_eq_true] at this
        have h1 := this.1 x hx
        rw [itB_iff] at h1
        have := h1.2.1
        omega
      rintro e w4 ⟨v4, rfl, hC4, hE4⟩
      obtain ⟨A4, C4, rfl⟩ := hC4.slice
      rw [HIn.out] at hC4 ⊢
      obtain ⟨wq, rfl⟩ : ∃ wq : World, wq = wr := ⟨_, rfl⟩
      have HEq := Lib.hid (HE3.out.trans HE.out)
      have HBq := Lib.hid (HB3.out.ext HE.out)
      have HNq := Lib.hid (HN3.out.ext HE.out)
      have HC4 := Lib.hid (show CopyF wq.heap.size w4 (.slice A4 IN C4) (turnTo I 0) by rw [turnTo_zero]; exact hC4)
      have HE4 := Lib.hid hE4
      clear hC4 hE4 HE3 HE HB3 HN3
      go_wp2_with fail
      go_loopw [73] (fun i wz => ∃ j : Nat, j ≤ IN ∧ i = .int .i64 j ∧ Hid (Ext wq wz) ∧ Hid (CopyF wq.heap.size wz (.slice A4 IN C4) (turnTo I j)) ∧ Hid (∀ (i : Nat) (hi : i < I.length), i < j → (∀ s, s ∈ I[i].after → preNew s = false) ∧ preNew I[i].over = false)) (fun i _ => IN - (intOf i).toNat)
      case atStart => exact ⟨0, by omega, rfl, HE4, HC4, Lib.hid (fun i hi h => absurd h (Nat.not_lt_zero _))⟩
      case round =>
        clear HE4 HC4
        obtain ⟨j, hj, rfl, HE, HC, HU⟩ := hrel
        by_cases hlt : j < IN
        case neg =>
          have HC := Lib.hid (show itE.Row wr (I.map (turnI I)) (.slice A4 IN C4) by have := HC.out; rw [show j = I.length by rw [HIn.out]; omega, turnTo_all] at this; exact this.row)
          have HEw := Lib.hid (HEq.out.trans HE.out)
          have HBr := Lib.hid (HBq.out.ext HE.out)
          have HNr := Lib.hid (HNq.out.ext HE.out)
          have HK := Lib.hid (show checkF k1 k2 L OW q (I.map (turnI I)) = checkF k1 k2 L OW q I from turn_check HFr.out (by rw [HIn.out]; exact hi30) HT.out (fun x hx => by
            obtain ⟨i, hi, rfl⟩ := List.getElem_of_mem hx
            exact HU.out i hi (by rw [HIn.out] at hi; omega)))
          have HTo := Lib.hid (turn_total I I)
          have HFa := Lib.hid (fair_of HFr.out)
          have HFb := Lib.hid (show ∀ y, y ∈ I.map (turnI I) → Fair y from fun y hy => by
            obtain ⟨x, hx, rfl⟩ := List.mem_map.1 hy
            exact HFa.out x hx)
          obtain ⟨X, hX⟩ : ∃ X, X = checkF k1 k2 L OW q I := ⟨_, rfl⟩
          obtain ⟨T, hT⟩ : ∃ T, T = totalF I := ⟨_, rfl⟩
          have HF1 := Lib.hid (fun Y (hY : Ext wr Y) => (show Calls Tryd.prog 14 #[.agg #[.int .i64 k0, .int .i64 k1, .int .i64 k2, .int .i64 k3, .int .i64 k4], .slice A2 L.length C2, .int .i64 OW, .int .i64 q, .slice ai IN ci] Y fun e w' => e = .returned (.int .i64 X) ∧ Ext Y w' by
            rw [hX]
            exact cFrag_any L I HO.out (by have := HLl.out; omega) (by rw [HIn.out]; omega) k0 k1 k2 k3 k4 OW q Y _ _ (HNr.out.ext hY) (HI.out.ext (HEw.out.trans hY))))
          have HF2 := Lib.hid (fun Y (hY : Ext wr Y) => (show Calls Tryd.prog 14 #[.agg #[.int .i64 k0, .int .i64 k1, .int .i64 k2, .int .i64 k3, .int .i64 k4], .slice A2 L.length C2, .int .i64 OW, .int .i64 q, .slice A4 IN C4] Y fun e w' => e = .returned (.int .i64 X) ∧ Ext Y w' by
            rw [hX, ← HK.out]
            exact cFrag_any L (I.map (turnI I)) HO.out (by have := HLl.out; omega) (by rw [List.length_map, HIn.out]; omega) k0 k1 k2 k3 k4 OW q Y _ _ (HNr.out.ext hY) (HC.out.ext hY)))
          have HT1 := Lib.hid (fun Y (hY : Ext wr Y) => (show Calls Tryd.prog 11 #[.slice ai IN ci] Y fun e w' => e = .returned (.int .i64 T) ∧ Ext Y w' by
            rw [hT]
            exact ctotal_any I HFa.out (by rw [HIn.out]; omega) Y _ (HI.out.ext (HEw.out.trans hY))))
          have HT2 := Lib.hid (fun Y (hY : Ext wr Y) => (show Calls Tryd.prog 11 #[.slice A4 IN C4] Y fun e w' => e = .returned (.int .i64 T) ∧ Ext Y w' by
            rw [hT, ← HTo.out]
            exact ctotal_any (I.map (turnI I)) HFb.out (by rw [List.length_map, HIn.out]; omega) Y _ (HC.out.ext hY)))
          have hxx : (X == X) = true := by simp
          have htt : (T == T) = true := by simp
          have HS : Hid (∀ w', Ext wr w' → w'.cell? ⟨CB, 0, none⟩ = some (.int .i64 k0) ∧ w'.cell? ⟨CB, 1, none⟩ = some (.int .i64 k1) ∧ w'.cell? ⟨CB, 2, none⟩ = some (.int .i64 k2) ∧ w'.cell? ⟨CB, 3, none⟩ = some (.int .i64 k3) ∧ w'.cell? ⟨CB, 4, none⟩ = some (.int .i64 k4)) := Lib.hid (fun w' hE =>
            ⟨(HBr.out.ext hE).cell 0 _ rfl, (HBr.out.ext hE).cell 1 _ rfl, (HBr.out.ext hE).cell 2 _ rfl, (HBr.out.ext hE).cell 3 _ rfl, (HBr.out.ext hE).cell 4 _ rfl⟩)
          have HD0 := Lib.hid (Ext.refl wr).drew
          have HEf := Lib.hid (fun Y (hY : Ext wr Y) => HEw.out.trans hY)
          clear hX hT HK HTo HC HE HU HBr HNr
          go_upto_region 35 with (fail)
          go_region_held3 (fun w' => w'.cell? ⟨CB, 0, none⟩ = some (.int .i64 k0) ∧ w'.cell? ⟨CB, 1, none⟩ = some (.int .i64 k1) ∧ w'.cell? ⟨CB, 2, none⟩ = some (.int .i64 k2) ∧ w'.cell? ⟨CB, 3, none⟩ = some (.int .i64 k3) ∧ w'.cell? ⟨CB, 4, none⟩ = some (.int .i64 k4))
            (first | exact HS.out _ (Ext.refl _) | exact HS.out _ HD0.out | exact HS.out _ E1.out | exact HS.out _ E2.out | exact HS.out _ E3.out | exact HS.out _ E4.out | exact HS.out _ E5.out)
            (first
              | (go_at_call_of 14 (#[.agg #[.int .i64 k0, .int .i64 k1, .int .i64 k2, .int .i64 k3, .int .i64 k4], .slice A2 L.length C2, .int .i64 OW, .int .i64 q, .slice ai IN ci] : Array Value)
                 refine (HF1.out _ HD0.out).mono ?_
                 rintro e y1 ⟨rfl, hE1⟩
                 have E1 := Lib.hid (HD0.out.trans hE1)
                 clear hE1)
              | (go_at_call_of 14 (#[.agg #[.int .i64 k0, .int .i64 k1, .int .i64 k2, .int .i64 k3, .int .i64 k4], .slice A2 L.length C2, .int .i64 OW, .int .i64 q, .slice A4 IN C4] : Array Value)
                 refine (HF2.out _ E1.out).mono ?_
                 rintro e y2 ⟨rfl, hE2⟩
                 have E2 := Lib.hid (E1.out.trans hE2)
                 clear hE2)
              | (go_at_call_of 11 (#[.slice ai IN ci] : Array Value)
                 refine (HT1.out _ E2.out).mono ?_
                 rintro e y3 ⟨rfl, hE3⟩
                 have E3 := Lib.hid (E2.out.trans hE3)
                 clear hE3)
              | (go_at_call_of 11 (#[.slice A4 IN C4] : Array Value)
                 refine (HT2.out _ E3.out).mono ?_
                 rintro e y4 ⟨rfl, hE4⟩
                 have E4 := Lib.hid (E3.out.trans hE4)
                 clear hE4)
              | (go_at_call 9
                 refine (awake20_any _).mono ?_
                 rintro e y5 ⟨rfl, hE5⟩
                 have E5 := Lib.hid (E4.out.trans hE5)
                 clear hE5))
          all_goals go_wp2_with fail
          all_goals go_ret
          all_goals exact ⟨rfl, HEf.out _ E5.out⟩
        have hjI : j < I.length := by rw [HIn.out]; exact hlt
        have hlen : (turnTo I j).length = IN := by rw [turnTo_len, HIn.out]
        obtain ⟨g, cap, hA, hg1, hg2⟩ := HC.out.form (by omega)
        rw [hlen] at hA
        injection hA with hA1 hA2 hA3
        subst hA1 hA3
        have hjc : j < (turnTo I j).length := by omega
        have hC := HC.out.relen hlen.symm
        obtain ⟨d, hcell, hfr, -, -, hwf, hoS, hdg, hmore⟩ := hC.textC hjc
        rw [turnTo_at I j hjc hjI] at hcell hwf hoS
        have hj0 : (0 : Int) ≤ (j : Int) := by omega
        have hj1 : (j : Int) < (IN : Int) := by omega
        obtain ⟨x, hx⟩ : ∃ x, x = I[j] := ⟨_, rfl⟩
        rw [← hx] at hcell hwf hoS
        have HX := Lib.hid hx
        have HWf := Lib.hid hwf
        have y0 := hcell 0 _ rfl
        have z0 := hfr (j * 6)
        rw [Nat.add_zero] at y0
        have HSq := Lib.hid (HM.out.ext HE.out)
        have hlook := HSq.out.look (s := x.name) hwf.1
        have hidx := idx_own HT.out hjI
        rw [← hx] at hidx
        rw [(anewF_some hidx).1] at hlook
        simp only [Option.getD_some] at hlook
        have HTn := Lib.hid (anewF_some hidx).2.1
        -- the name
        obtain ⟨x1, hx1⟩ : ∃ x1 : It, x1 = { x with name := newB j } := ⟨_, rfl⟩
        have hwf1 : itWf x1 := by rw [hx1]; exact ⟨by rw [newB_len]; omega, hwf.2⟩
        have hP := hC.putC hjc 0 (by omega) (.string (str (newB j))) x1 (fun d => by rw [turnTo_at I j hjc hjI, ← hx, hx1]; rfl) (by rw [turnTo_at I j hjc hjI, ← hx, hx1]) hwf1
        rw [Nat.add_zero] at hP
        have HC1 := Lib.hid hP.1
        have HG1 := Lib.hid hP.2
        have HE1 := Lib.hid (HE.out.grown hP.2 (fun k e => by injection e with e; omega))
        have HWf1 := Lib.hid hwf1
        have HX1 := Lib.hid hx1
        clear hC hcell hfr hwf hoS hdg hmore hx hidx hx1 hwf1 hP
        go_wp2_with fail
        refine (anewed_any j (by omega) wr).mono ?_
        rintro e w5 ⟨rfl, rfl⟩
        go_upto_region 20 with (fail)
        clear y0 z0 hlook
        generalize wr.setCell ⟨g, j * 6, none⟩ (.string (str (newB j))) = w5 at *
        have hj1c : j < ((turnTo I j).set j x1).length := by rw [List.length_set]; exact hjc
        have hC1 := HC1.out.relen (hlen.trans (by rw [List.length_set, hlen] : IN = ((turnTo I j).set j x1).length))
        obtain ⟨d, hcell, hfr, -, -, -, hoS, -, -⟩ := hC1.textC hj1c
        rw [List.getElem_set_self] at hcell hoS
        obtain ⟨Ad, Cd, rfl⟩ := ownsRow_sl hoS.1
        have ea : x1.after = x.after := by rw [HX1.out]
        obtain ⟨AN, hAN⟩ : ∃ AN, AN = x.after.length := ⟨_, rfl⟩
        rw [ea, ← hAN] at hcell
        have hAl : AN ≤ 20 := by
          have := HFr.out
          unfold fragB at this
          rw [Bool.and_eq_true, List.all_eq_true] at this
          have h1 := this.1 x (by rw [HX.out]; exact List.getElem_mem hjI)
          rw [itB_iff] at h1
          rw [hAN]
          exact h1.2.1
        have HAN := Lib.hid hAN
        have c2 := hcell 2 _ rfl
        have HD := Lib.hid c2
        have HC6 := Lib.hid (show CopyF wq.heap.size w5 (.slice (some ⟨g, 0, none⟩) IN C4) ((turnTo I j).set j { x1 with after := turnA I x.after 0 }) by
          rw [turnA_zero, ← ea]
          exact HC1.out.relen hlen)
        have HAs := Lib.hid hoS.2
        rw [ea] at HAs
        clear hcell hfr hoS hC1 hAN HC HC1 HG1
        go_wp2_with fail
        clear c2
        obtain ⟨wo, rfl⟩ : ∃ wo : World, wo = wr := ⟨_, rfl⟩
        go_loopw [94] (fun i wz => ∃ m : Nat, m ≤ AN ∧ i = .int .i64 m ∧ Hid (Ext wq wz) ∧ Hid (CopyF wq.heap.size wz (.slice (some ⟨g, 0, none⟩) IN C4) ((turnTo I j).set j { x1 with after := turnA I x.after m })) ∧ Hid (wz.cell? ⟨g, j * 6 + 2, none⟩ = some (.slice Ad AN Cd)) ∧ Hid (∀ (i : Nat) (hi : i < x.after.length), i < m → preNew x.after[i] = false)) (fun i _ => AN - (intOf i).toNat)
        case atStart => exact ⟨0, by omega, rfl, HE1, HC6, HD, Lib.hid (fun i hi h => absurd h (Nat.not_lt_zero _))⟩
        case round =>
          clear HE1 HC6 HD HE
          obtain ⟨m, hm, rfl, HE, HC, HD, HV⟩ := hrel
          by_cases hml : m < AN
          case neg =>
            obtain ⟨x2, hx2⟩ : ∃ x2 : It, x2 = { x1 with after := x.after.map (turnN I) } := ⟨_, rfl⟩
            have HC2 := Lib.hid (show CopyF wq.heap.size wr (.slice (some ⟨g, 0, none⟩) IN C4) ((turnTo I j).set j x2) by
              have := HC.out
              rw [show m = x.after.length by rw [← HAN.out]; omega, turnA_all, ← hx2] at this
              exact this)
            have hjs : j < ((turnTo I j).set j x2).length := by rw [List.length_set]; exact hjc
            have hls : ((turnTo I j).set j x2).length = IN := by rw [List.length_set, hlen]
            have hC2 := HC2.out.relen hls.symm
            obtain ⟨d, hcell, hfr, -, -, hwf2, -⟩ := hC2.textC hjs
            rw [List.getElem_set_self] at hcell hwf2
            have eov : x2.over = x.over := by rw [hx2, HX1.out]
            have c3 := hcell 3 _ rfl
            rw [eov] at c3
            have z3 := hfr (j * 6 + 3)
            have HOl := Lib.hid (show x.over.length ≤ 9223372036854775807 by rw [← eov]; exact hwf2.2.1)
            have hlook := (HM.out.ext HE.out).look2 HOl.out
            have HV2 := Lib.hid (show ∀ s, s ∈ x.after → preNew s = false from fun s hs => by
              obtain ⟨i, hi, rfl⟩ := List.getElem_of_mem hs
              exact HV.out i hi (by rw [← HAN.out] at hi; omega))
            have HX2 := Lib.hid hx2
            have HWf2 := Lib.hid hwf2
            have HCs := Lib.hid hC2
            clear hcell hfr hwf2 hC2 hx2 eov HV
            cases hf : I.findIdx? (fun y => decide (y.name = x.over)) with
            | some t =>
              obtain ⟨e1, e2, e3⟩ := anewF_some hf
              rw [e1] at hlook
              simp only [Option.getD_some, Option.isSome_some] at hlook
              rw [HIn.out] at e3
              have HPo := Lib.hid (preNew_in HP.out hf)
              have hP := HCs.out.putC hjs 3 (by omega) (.string (str (newB t))) { x2 with over := newB t } (fun d => by rw [List.getElem_set_self]; rfl) (by rw [List.getElem_set_self]) ⟨HWf2.out.1, by show (newB t).length ≤ _; rw [newB_len]; omega, HWf2.out.2.2⟩
              have HE7 := Lib.hid (HE.out.grown hP.2 (fun k e => by injection e with e; omega))
              have HC7 := Lib.hid (show CopyF wq.heap.size (wr.setCell ⟨g, j * 6 + 3, none⟩ (.string (str (newB t)))) (.slice (some ⟨g, 0, none⟩) IN C4) (turnTo I (j + 1)) by
                have h := hP.1.relen hls
                rw [List.set_set] at h
                rw [turnTo_succ I j hjI, ← HX.out]
                have e : turnI I x = { x2 with over := newB t } := by
                  unfold turnI
                  rw [HX2.out, HX1.out, e2, HTn.out]
                rw [e]
                exact h)
              have HU7 := Lib.hid (show ∀ (i : Nat) (hi : i < I.length), i < j + 1 → (∀ s, s ∈ I[i].after → preNew s = false) ∧ preNew I[i].over = false from fun i hi hij => by
                by_cases e : i = j
                · subst e; rw [← HX.out]; exact ⟨HV2.out, HPo.out⟩
                · exact HU.out i hi (by omega))
              clear hP hf e1 e2
              go_wp2_with fail
              refine (anewed_any t (by omega) wr).mono ?_
              rintro e w8 ⟨rfl, rfl⟩
              go_wp2_with fail
              go_roundw
              case rel => exact ⟨j + 1, by omega, by go_num, HE7, HC7, HU7⟩
              case measure => simp [intOf]; omega
            | none =>
              obtain ⟨e1, e2⟩ := anewF_none hf
              rw [e1] at hlook
              simp only [Option.getD_none, Option.isSome_none] at hlook
              have HC7 := Lib.hid (show CopyF wq.heap.size wr (.slice (some ⟨g, 0, none⟩) IN C4) (turnTo I (j + 1)) by
                rw [turnTo_succ I j hjI, ← HX.out]
                have e : turnI I x = x2 := by
                  unfold turnI
                  rw [HX2.out, HX1.out, e2, HTn.out]
                rw [e]
                exact HC2.out)
              clear hf e1 e2
              go_wp2_with fail
              refine (hasPrefix_any x.over HOl.out wr).mono ?_
              cases hp : preNew x.over with
              | true =>
                rintro e w7 ⟨rfl, rfl⟩
                clear hp
                have HEx := Lib.hid (HEq.out.trans HE.out)
                go_wp2_with fail
                refine (awake20_any _).mono ?_
                rintro e wx ⟨rfl, hEx⟩
                have HEx := Lib.hid (HEx.out.trans hEx)
                clear hEx
                go_wp2
                go_ret
                exact ⟨rfl, HEx.out⟩
              | false =>
                rintro e w7 ⟨rfl, rfl⟩
                have HU7 := Lib.hid (show ∀ (i : Nat) (hi : i < I.length), i < j + 1 → (∀ s, s ∈ I[i].after → preNew s = false) ∧ preNew I[i].over = false from fun i hi hij => by
                  by_cases e : i = j
                  · subst e; rw [← HX.out]; exact ⟨HV2.out, hp⟩
                  · exact HU.out i hi (by omega))
                clear hp
                go_wp2_with fail
                go_roundw
                case rel => exact ⟨j + 1, by omega, by go_num, HE, HC7, HU7⟩
                case measure => simp [intOf]; omega
          have hmA : m < x.after.length := by rw [← HAN.out]; exact hml
          have hC := HC.out.relen (by rw [List.length_set, hlen] : IN = ((turnTo I j).set j { x1 with after := turnA I x.after m }).length)
          obtain ⟨d, hcell, hfr, -, -, hwf, hoS, hdg, hmore⟩ := hC.textC (i := j) (by rw [List.length_set]; exact hjc)
          rw [List.getElem_set_self] at hcell hwf hoS hmore
          have hd := (hcell 2 _ rfl).symm.trans HD.out
          injection hd with hd
          subst hd
          have hoS' : OwnS 9 wq.heap.size wr (.slice Ad (turnA I x.after m).length Cd) (turnA I x.after m) := by rw [turnA_len, ← HAN.out]; exact hoS
          obtain ⟨b, cb, hb1, hb2, hb3⟩ := World.ownsRow.form hoS'.1 (by rw [turnA_len]; omega)
          injection hb1 with hb1 hb4 hb5
          subst hb1 hb5
          have hmT : m < (turnA I x.after m).length := by rw [turnA_len]; exact hmA
          obtain ⟨s, hs⟩ : ∃ s, s = x.after[m] := ⟨_, rfl⟩
          have hS0 := hoS'.set1 m hmT s (by rw [hs]; exact HAs.out _ (List.getElem_mem hmA))
          rw [turnA_at I x.after m hmT hmA, ← hs] at hS0
          have c1 := hS0.1
          have c2 := hS0.2.1
          have HS := Lib.hid hs
          have HSl := Lib.hid (show s.length ≤ 9223372036854775807 by rw [hs]; exact HAs.out _ (List.getElem_mem hmA))
          have hlook := (HM.out.ext HE.out).look2 HSl.out
          have hm0 : (0 : Int) ≤ (m : Int) := by omega
          have hm1 : (m : Int) < (AN : Int) := by omega
          have HoS := Lib.hid hoS'
          have HMo := Lib.hid hmore
          have HWf2 := Lib.hid hwf
          have q2 := HD.out
          clear hcell hfr hwf hoS hoS' hdg hmore hb4 hS0 hs hC
          go_wp2_with fail
          refine (hasPrefix_any s HSl.out wr).mono ?_
          cases hp : preNew s with
          | true =>
            rintro e w7 ⟨rfl, rfl⟩
            clear hp
            have HEx := Lib.hid (HEq.out.trans HE.out)
            go_wp2_with fail
            refine (awake20_any _).mono ?_
            rintro e wx ⟨rfl, hEx⟩
            have HEx := Lib.hid (HEx.out.trans hEx)
            clear hEx
            go_wp2
            go_ret
            exact ⟨rfl, HEx.out⟩
          | false =>
          rintro e w7 ⟨rfl, rfl⟩
          have HV1 := Lib.hid (show ∀ (i : Nat) (hi : i < x.after.length), i < m + 1 → preNew x.after[i] = false from fun i hi him => by
            by_cases e : i = m
            · subst e; rw [← HS.out]; exact hp
            · exact HV.out i hi (by omega))
          clear hp HV
          cases hf : I.findIdx? (fun x => decide (x.name = s)) with
          | none =>
            obtain ⟨e1, e2⟩ := anewF_none hf
            rw [e1] at hlook
            simp only [Option.getD_none, Option.isSome_none] at hlook
            have HC7 := Lib.hid (show CopyF wq.heap.size wr (.slice (some ⟨g, 0, none⟩) IN C4) ((turnTo I j).set j { x1 with after := turnA I x.after (m + 1) }) by
              rw [turnA_succ _ _ _ hmA, ← HS.out, e2]
              have e3 : (turnA I x.after m).set m s = turnA I x.after m := by
                rw [HS.out, ← turnA_at I x.after m hmT hmA]
                exact List.set_getElem_self _
              rw [e3]
              exact HC.out)
            clear hf e1 e2
            go_wp2_with fail
            go_roundw
            case rel => exact ⟨m + 1, by omega, by go_num, HE, HC7, HD, HV1⟩
            case measure => simp [intOf]; omega
          | some t =>
            obtain ⟨e1, e2, e3⟩ := anewF_some hf
            rw [e1] at hlook
            simp only [Option.getD_some, Option.isSome_some] at hlook
            rw [HIn.out] at e3
            have HE2 := Lib.hid e2
            clear hf e1 e2
            obtain ⟨-, -, hS3, hS4⟩ := HoS.out.set1 m hmT (newB t) (by rw [newB_len]; omega)
            have hS3 := hS3.ext (Ext.refl _).drew
            have hS4 : wr.grownBy (wr.setCell ⟨b, m, none⟩ (.string (str (newB t)))).drew (some b) := grown_trans hS4 (grown_ext (Ext.refl _).drew _)
            have hS5 : OwnS 9 wq.heap.size (wr.setCell ⟨b, m, none⟩ (.string (str (newB t)))).drew (.slice (some ⟨b, 0, none⟩) AN Cd) (turnA I x.after (m + 1)) := by
              rw [turnA_succ _ _ _ hmA, ← HS.out, HE2.out]
              rw [turnA_len, ← HAN.out] at hS3
              exact hS3
            obtain ⟨hM1, hM2⟩ := HMo.out _ _ hS4 hS5
            have HC7 := Lib.hid (show CopyF wq.heap.size (wr.setCell ⟨b, m, none⟩ (.string (str (newB t)))).drew (.slice (some ⟨g, 0, none⟩) IN C4) ((turnTo I j).set j { x1 with after := turnA I x.after (m + 1) }) by
              have h := hM1.relen (show ((turnTo I j).set j { x1 with after := turnA I x.after m }).length = IN by rw [List.length_set, hlen])
              rw [List.set_set] at h
              exact h)
            have HD7 := Lib.hid hM2
            have HE7 := Lib.hid (HE.out.grown hS4 (fun k e => by injection e with e; omega))
            clear hS3 hS4 hS5 hM1 hM2
            go_upto_region 27 with (fail)
            go_region_with (go_at_call 24; refine (anewed_any t (by omega) _).mono ?_; rintro e w8 ⟨rfl, rfl⟩)
            all_goals
              go_wp2_with fail
              go_roundw
              case rel => exact ⟨m + 1, by omega, by go_num, HE7, HC7, HD7, HV1⟩
              case measure => simp [intOf]; omega
    have hjI : j < I.length := by rw [HIn.out]; exact hlt
    obtain ⟨b, off, rfl, hb, aa, ma, ca, x0, x1, x2, x3, x4, x5, hit⟩ := it_at HI.out (HE3.out.trans HE.out) j hjI
    have hj0 : (0 : Int) ≤ (j : Int) := by omega
    have hj1 : (j : Int) < (IN : Int) := by omega
    obtain ⟨-, -, -, -, -, hnl, hol, -⟩ := id hit
    have HNl := Lib.hid hnl
    obtain ⟨nm, hnm⟩ : ∃ nm, nm = I[j].name := ⟨_, rfl⟩
    obtain ⟨ov, hov⟩ : ∃ ov, ov = I[j].over := ⟨_, rfl⟩
    obtain ⟨wd, hwd⟩ : ∃ wd, wd = I[j].width := ⟨_, rfl⟩
    obtain ⟨qu, hqu⟩ : ∃ qu, qu = I[j].quota := ⟨_, rfl⟩
    obtain ⟨kd, hkd⟩ : ∃ kd, kd = (I[j].kind.toNat : Int) := ⟨_, rfl⟩
    rw [← hnm] at x0 HNl
    rw [← hov] at x3
    rw [← hwd] at x4
    rw [← hqu] at x5
    rw [← hkd] at x1
    have HNm := Lib.hid hnm
    clear hnm hov hwd hqu hkd hit hnl hol
    have hE6 := (Ext.refl wr).alloc (.cells #[.string (str nm), .int .u8 kd, .slice aa ma ca, .string (str ov), .int .i64 wd, .int .i64 qu] 27)
    have hB6 := BoxL.new wr [.string (str nm), .int .u8 kd, .slice aa ma ca, .string (str ov), .int .i64 wd, .int .i64 qu] 27
    go_upto_region 9 with (fail)
    have HE6 := Lib.hid (HE.out.trans hE6)
    have HM6 := Lib.hid (HM.out.ext hE6)
    clear x0 x1 x2 x3 x4 x5 hE6 HM HE
    generalize wr.alloc (.cells #[.string (str nm), .int .u8 kd, .slice aa ma ca, .string (str ov), .int .i64 wd, .int .i64 qu] 27) = w6 at *
    generalize wr.heap.size = XB at *
    have y0 := hB6.cell 0 _ rfl
    clear hB6
    have hlook := HM6.out.look2 HNl.out
    cases ha : anewF (I.take j) nm with
    | some z =>
      rw [ha] at hlook
      simp only [Option.getD_some, Option.isSome_some] at hlook
      clear ha
      go_wp2_with fail
      refine (awake20_any w6).mono ?_
      rintro e w7 ⟨rfl, hE7⟩
      have HE7 := Lib.hid ((HE3.out.trans HE6.out).trans hE7)
      clear hE7
      go_wp2
      go_ret
      exact ⟨rfl, HE7.out⟩
    | none =>
      rw [ha] at hlook
      simp only [Option.getD_none, Option.isSome_none] at hlook
      have HA := Lib.hid ha
      clear ha
      go_wp2_with fail
      refine (hasPrefix_any nm HNl.out w6).mono ?_
      cases hp : preNew nm with
      | true =>
        rintro e w7 ⟨rfl, rfl⟩
        clear hp
        go_wp2_with fail
        refine (awake20_any w6).mono ?_
        rintro e w7 ⟨rfl, hE7⟩
        have HE7 := Lib.hid ((HE3.out.trans HE6.out).trans hE7)
        clear hE7
        go_wp2
        go_ret
        exact ⟨rfl, HE7.out⟩
      | false =>
        rintro e w7 ⟨rfl, rfl⟩
        have HP := Lib.hid hp
        clear hp hlook
        go_wp2_with (refine wpList_sput rfl _ _ _ rfl rfl HM6.out (by omega) nm rfl HNl.out j rfl (by unfold isI64; omega) ?_; intro w8 hM8 hg8)
        have HM8 := Lib.hid (hM8.cast (show supd (anewF (I.take j)) nm (j : Int) = anewF (I.take (j + 1)) by rw [HNm.out]; exact anewF_put hjI (by rw [← HNm.out]; exact HA.out)))
        have HE8 := Lib.hid (HE6.out.grown hg8 (fun k e => by injection e with e; have := HMB.out; omega))
        have HU8 := Lib.hid (show ∀ (i : Nat) (hi : i < I.length), i < j + 1 → anewF (I.take i) I[i].name = none ∧ preNew I[i].name = false from fun i hi hij => by
          by_cases e : i = j
          · subst e
            exact ⟨by rw [← HNm.out]; exact HA.out, by rw [← HNm.out]; exact HP.out⟩
          · exact HU.out i hi (by omega))
        clear hM8 hg8 y0 HU
        go_wp2_with fail
        go_roundw
        case rel => exact ⟨j + 1, _, by omega, by go_num, HE8, HM8, HU8⟩
        case measure => simp [intOf]; omega
end Go.Proofs.YtgclfmdpapadnaaDoor

namespace Go.Proofs.YtgclfmdpapadnaaDoor
open Go Go.Proofs Fm Go.RowKit Go.ChangeShapes Go.WideShapes Go.ChangeAt

set_option maxRecDepth 100000 in
theorem fields6 : Tryd.prog.underlying 27 = some (.struct #[⟨"Name", 9, 0, false, "", "", 0⟩, ⟨"Kind", 5, 1, false, "", "", 16⟩, ⟨"After", 25, 2, false, "", "", 24⟩, ⟨"Over", 9, 3, false, "", "", 48⟩, ⟨"Width", 3, 4, false, "", "", 64⟩, ⟨"Quota", 3, 5, false, "", "", 72⟩]) := by kernel_rfl
theorem cells_item : Tryd.prog.cellsOf 27 = 6 := by kernel_rfl
theorem cells_str : Tryd.prog.cellsOf 9 = 1 := by kernel_rfl
theorem cells_u8 : Tryd.prog.cellsOf 5 = 1 := by kernel_rfl
theorem cells_int : Tryd.prog.cellsOf 3 = 1 := by kernel_rfl
theorem cells_strs : Tryd.prog.cellsOf 25 = 1 := by kernel_rfl
theorem reads_strs : (rowE strE).Reads Tryd.prog 25 := reads_slice Tryd.underlying25 cells_str (reads_str Tryd.underlying9) (by decide)

set_option maxRecDepth 100000 in
theorem reads_it : itE.Reads Tryd.prog 27 := by
  intro H enc W base spare held fuel cs x h
  obtain ⟨xs, n, hfuel, hx, hlen, hxs, hf⟩ := DataW.trod_struct fields6 h
  rw [cells_item] at hlen
  match cs, hlen with
  | [v0, v1, v2, v3, v4, v5], _ =>
  have g0 : DataW.trod enc Tryd.prog W base spare held n 9 (([v0, v1, v2, v3, v4, v5].drop 0).take (Tryd.prog.cellsOf 9)) = xs[0]? := hf 0 _ rfl
  have g1 : DataW.trod enc Tryd.prog W base spare held n 5 (([v0, v1, v2, v3, v4, v5].drop 1).take (Tryd.prog.cellsOf 5)) = xs[1]? := hf 1 _ rfl
  have g2 : DataW.trod enc Tryd.prog W base spare held n 25 (([v0, v1, v2, v3, v4, v5].drop 2).take (Tryd.prog.cellsOf 25)) = xs[2]? := hf 2 _ rfl
  have g3 : DataW.trod enc Tryd.prog W base spare held n 9 (([v0, v1, v2, v3, v4, v5].drop 3).take (Tryd.prog.cellsOf 9)) = xs[3]? := hf 3 _ rfl
  have g4 : DataW.trod enc Tryd.prog W base spare held n 3 (([v0, v1, v2, v3, v4, v5].drop 4).take (Tryd.prog.cellsOf 3)) = xs[4]? := hf 4 _ rfl
  have g5 : DataW.trod enc Tryd.prog W base spare held n 3 (([v0, v1, v2, v3, v4, v5].drop 5).take (Tryd.prog.cellsOf 3)) = xs[5]? := hf 5 _ rfl
  rw [cells_str] at g0 g3
  rw [cells_u8] at g1
  rw [cells_strs] at g2
  rw [cells_int] at g4 g5
  match xs, hxs with
  | [y0, y1, y2, y3, y4, y5], _ =>
  obtain ⟨a0, r0, l0⟩ := reads_str Tryd.underlying9 enc W base spare held n [v0] y0 g0
  obtain ⟨a1, r1⟩ := reads_u8 Tryd.underlying5 enc W base spare held n [v1] y1 g1
  obtain ⟨a2, r2⟩ := reads_strs enc W base spare held n [v2] y2 g2
  obtain ⟨a3, r3, l3⟩ := reads_str Tryd.underlying9 enc W base spare held n [v3] y3 g3
  obtain ⟨a4, r4, l4⟩ := reads_int Tryd.underlying3 enc W base spare held n [v4] y4 g4
  obtain ⟨a5, r5, l5⟩ := reads_int Tryd.underlying3 enc W base spare held n [v5] y5 g5
  exact ⟨⟨a0, a1, a2, a3, a4, a5⟩, r0, r1, r2, r3, r4, r5, l0, l3, l4, l5⟩
theorem reads_items : (rowE itE).Reads Tryd.prog 22 := reads_slice Tryd.underlying22 cells_item reads_it (by decide)
end Go.Proofs.YtgclfmdpapadnaaDoor

namespace Fm
open Go Go.RowKit
end Fm
namespace Go.Proofs.YtgclfmdpapadnaaDoor
open Go Go.Proofs Fm Go.RowKit Go.ChangeShapes Go.WideShapes Go.ChangeAt
theorem cells_intN : Tryd.prog.cellsOf 3 = 1 := by kernel_rfl
theorem reads_intsN : (rowE intE).Reads Tryd.prog 33 := reads_slice Tryd.underlying33 cells_intN (reads_int Tryd.underlying3) (by decide)
end Go.Proofs.YtgclfmdpapadnaaDoor
