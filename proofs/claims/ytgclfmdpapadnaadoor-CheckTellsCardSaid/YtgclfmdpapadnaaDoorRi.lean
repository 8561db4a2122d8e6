/- Walks of the reference of chapter 20: wide, twice, deep. -/
import Derived.Test.YtgclfmdpapadnaaDoorPlQ
import Derived.Test.YtgclfmdpapadnaaDoorFragV
import Derived.Test.YtgclfmdpapadnaaDoorCc
import Derived.Test.YtgclfmdpapadnaaDoorVaA
import Derived.ProofKit
import Derived.OpenShut
import Derived.ShutString
import Derived.ChangeOld
import Derived.Test.YtgclfmdpapadnaaDoorProg
import Derived.Maps.OwnSet
import Derived.Maps.OwnOps
import Derived.Maps.Views
import Derived.Deep.RegionLaw
import Derived.Deep.RegionHeld3
import Derived.BigQuiet
open Go.RowKit Go.Shelf
namespace Fm
open Go Go.RowKit
def ckA : It := ⟨[97], 0, [], [], 0, 0⟩
def ckB : It := ⟨[98], 0, [[97]], [], 0, 0⟩
def ckM : It := ⟨[109], 1, [], [97], 2, 1⟩
def ckWide : It := ⟨[109], 1, [], [97], 5, 1⟩
def ckLost : It := ⟨[98], 0, [[99]], [], 0, 0⟩
def ckDeep : List Nd := [ndFl 0 (-1), ndFl 0 0, ndFl 0 1]
theorem ck_wf : itWf ckA ∧ itWf ckB ∧ itWf ckM ∧ itWf ckWide ∧ itWf ckLost := by
  refine ⟨?_, ?_, ?_, ?_, ?_⟩ <;> exact ⟨by decide, by decide, by unfold isI64 ; decide, by unfold isI64; decide⟩
theorem ck1 : checkF 3 4 [] (-1) 5 [ckA, ckB] = 0 := by decide +kernel
theorem ck3 : checkF 3 4 [] (-1) 5 [ckA, ckLost] = 21 := by decide +kernel
theorem ck5 : checkF 3 4 [] (-1) 5 [ckA, ckM] = 22 := by decide +kernel
theorem ck6 : checkF 3 4 [] (-1) 5 [ckA, ckA] = 20 := by decide +kernel
theorem ck7 : checkF 3 4 [] (-1) 5 [ckA, ckWide] = 24 := by decide +kernel
theorem ck8 : checkF 3 4 ckDeep 2 5 [ckA] = 23 := by decide +kernel
theorem rightO_nil : RightO [] := fun i hi => by cases hi
theorem ckDeep_right : RightO ckDeep := by
  have h1 : RightO [ndFl 0 (-1)] := @rightO_snoc [] (ndFl 0 (-1)) rightO_nil (by decide) (by decide) (fun j hj _ => by have : (-1 : Int) = (j : Int) := hj; omega)
  have h2 : RightO [ndFl 0 (-1), ndFl 0 0] := @rightO_snoc [ndFl 0 (-1)] (ndFl 0 0) h1 (by decide) (by decide) (fun j hj hl => by
    have : (0 : Int) = (j : Int) := hj
    obtain rfl : j = 0 := by omega
    rfl)
  exact @rightO_snoc [ndFl 0 (-1), ndFl 0 0] (ndFl 0 1) h2 (by decide) (by decide) (fun j hj hl => by
    have : (1 : Int) = (j : Int) := hj
    obtain rfl : j = 1 := by omega
    rfl)
theorem row_two_it (w : World) {x y : It} {d d' : Value} {b : Nat} {e : TypeId} {fr : Nat × Nat} (hb : w.heap[b]? = some (.cells (itCells x d ++ itCells y d').toArray e fr)) (hd : strE.Row w x.after d) (hd' : strE.Row w y.after d') (hw : itWf x) (hw' : itWf y) : itE.Row w [x, y] (.slice (some ⟨b, 0, none⟩) 2 2) := by
  refine Elem.Row.mk rfl (by simp) (by simp [maxLen]) (Array.getElem?_eq_some_iff.1 hb).1 (fun i hi => ⟨fun j => (itCells x d ++ itCells y d').getD (i * 6 + j) .nilFunc, ?_, fun j hj => ?_⟩)
  · have hi : i < 2 := hi
    rcases (by omega : i = 0 ∨ i = 1) with rfl | rfl
    · exact ⟨rfl, rfl, hd, rfl, rfl, rfl, hw⟩
    · exact ⟨rfl, rfl, hd', rfl, rfl, rfl, hw'⟩
  · have hi : i < 2 := hi
    have hj6 : j < 6 := hj
    simp only [World.cell?, hb]
    rw [show 0 + (i * itE.sz + j) = i * 6 + j by show 0 + (i * 6 + j) = _; omega, List.getElem?_toArray, List.getD_eq_getElem?_getD, List.getElem?_eq_getElem (by simp [itCells]; omega)]
    rfl
end Fm
namespace Go.Proofs.YtgclfmdpapadnaaDoor
open Go Go.Proofs Fm
attribute [local go_sem] Oper.semAt_some

theorem frag20 (l : List Nd) (items : List It) (hO : RightO l) (hl : l.length ≤ 1000000) (hi : items.length ≤ 1000) (ow k : Int) (hk : checkF 3 4 l ow 5 items = k) (X : World) (nv iv : Value) (hN : ndE.Row X l nv) (hI : itE.Row X items iv) :
    Calls Tryd.prog 14 #[.agg #[.int .i64 0, .int .i64 3, .int .i64 4, .int .i64 0, .int .i64 0], nv, .int .i64 ow, .int .i64 5, iv] X fun e w' => e = .returned (.int .i64 k) ∧ Ext X w' := by
  rw [← hk]
  exact cFrag_any l items hO hl hi 0 3 4 0 0 ow 5 X nv iv hN hI
theorem total20 (X : World) (iv : Value) (hI : itE.Row X [ckA, ckB] iv) : Calls Tryd.prog 11 #[iv] X fun e w' => e = .returned (.int .i64 2) ∧ Ext X w' :=
  ctotal_any [ckA, ckB] (fun x hx => by
    simp only [List.mem_cons, List.not_mem_nil, or_false] at hx
    rcases hx with rfl | rfl <;> exact ⟨⟨by decide, by decide⟩, by decide, by decide⟩) (by decide) X iv hI
theorem cost20 (X : World) (v : Value) (h : ItV X ckM v) : Calls Tryd.prog 10 #[v] X fun e w' => e = .returned (.int .i64 5) ∧ Ext X w' :=
  ccost_any ckM ⟨⟨by decide, by decide⟩, by decide, by decide⟩ X v h
theorem deepRow (W : World) : ndE.Row (W.alloc (.cells (flC 0 (-1) ++ flC 0 0 ++ flC 0 1).toArray 50)) ckDeep (.slice (some ⟨W.heap.size, 0, none⟩) 3 3) := by
  have z : ∀ k : Int, -1 ≤ k → k ≤ 1 → isI64 k := fun k h1 h2 => by unfold isI64; omega
  have ho := World.ownsRow_lit W (flC 0 (-1) ++ flC 0 0 ++ flC 0 1).toArray 3 (base := W.heap.size) (e := 50) (size := 16) (Nat.le_refl _) (by unfold maxLen; omega) rfl
  refine ndRow_parts (cs := [flC 0 (-1), flC 0 0, flC 0 1]) rfl (by simpa [ckDeep] using ho) (fun i hi hc => ?_)
  have hi : i < 3 := hi
  rcases (by omega : i = 0 ∨ i = 1 ∨ i = 2) with rfl | rfl | rfl
  · exact ⟨rfl, ndFl_v (z 0 (by omega) (by omega)) (z (-1) (by omega) (by omega)) _⟩
  · exact ⟨rfl, ndFl_v (z 0 (by omega) (by omega)) (z 0 (by omega) (by omega)) _⟩
  · exact ⟨rfl, ndFl_v (z 0 (by omega) (by omega)) (z 1 (by omega) (by omega)) _⟩

set_option maxRecDepth 100000 in
set_option maxHeartbeats 8000000 in
theorem awake20_any (w : World) : Calls Tryd.prog 9 #[] w fun e w' => e = .returned (.bool true) ∧ Ext w w' := by
  go_enter Tryd.func9, Tryd.ntmps9
  go_upto_region 2 with (fail)
  have bC := BoxL.new w [.int .i64 0, .int .i64 3, .int .i64 4, .int .i64 0, .int .i64 0] 32
  have e1 := (Ext.refl w).alloc (.cells #[.int .i64 0, .int .i64 3, .int .i64 4, .int .i64 0, .int .i64 0] 32)
  have z1 : w.heap.size < (w.alloc (.cells #[.int .i64 0, .int .i64 3, .int .i64 4, .int .i64 0, .int .i64 0] 32)).heap.size := by simp
  generalize w.alloc (.cells #[.int .i64 0, .int .i64 3, .int .i64 4, .int .i64 0, .int .i64 0] 32) = W1 at *
  go_upto_region 3 with (fail)
  obtain ⟨SB, hSB⟩ : ∃ SB, SB = W1.heap.size := ⟨_, rfl⟩
  rw [← hSB]
  have hS := heap_alloc_new W1 (.cells #[.string { data := #[97] }] 9)
  have e2 := (Ext.refl W1).alloc (.cells #[.string { data := #[97] }] 9)
  have z2 : (W1.alloc (.cells #[.string { data := #[97] }] 9)).heap.size = W1.heap.size + 1 := by simp
  rw [← hSB] at hS z2
  generalize W1.alloc (.cells #[.string { data := #[97] }] 9) = W2 at *
  have hSr : strE.Row W2 [[97]] (.slice (some ⟨SB, 0, none⟩) 1 1) := row_one_str W2 hS (by decide)
  have bA := BoxL.new W2 [.string { data := #[97] }, .int .u8 0, .slice none 0 0, .string { data := #[] }, .int .i64 0, .int .i64 0] 27
  have e3 := (Ext.refl W2).alloc (.cells #[.string { data := #[97] }, .int .u8 0, .slice none 0 0, .string { data := #[] }, .int .i64 0, .int .i64 0] 27)
  have z3 : (W2.alloc (.cells #[.string { data := #[97] }, .int .u8 0, .slice none 0 0, .string { data := #[] }, .int .i64 0, .int .i64 0] 27)).heap.size = SB + 1 + 1 := by simp [z2]
  rw [z2] at bA
  generalize W2.alloc (.cells #[.string { data := #[97] }, .int .u8 0, .slice none 0 0, .string { data := #[] }, .int .i64 0, .int .i64 0] 27) = W3 at *
  have bB := BoxL.new W3 [.string { data := #[98] }, .int .u8 0, .slice (some ⟨SB, 0, none⟩) 1 1, .string { data := #[] }, .int .i64 0, .int .i64 0] 27
  have e4 := (Ext.refl W3).alloc (.cells #[.string { data := #[98] }, .int .u8 0, .slice (some ⟨SB, 0, none⟩) 1 1, .string { data := #[] }, .int .i64 0, .int .i64 0] 27)
  rw [z3] at bB
  generalize W3.alloc (.cells #[.string { data := #[98] }, .int .u8 0, .slice (some ⟨SB, 0, none⟩) 1 1, .string { data := #[] }, .int .i64 0, .int .i64 0] 27) = W4 at *
  clear hSB z2 z3 hS z1
  have HS := Lib.hid ((hSr.ext e3).ext e4)
  have HC := Lib.hid (((bC.ext e2).ext e3).ext e4)
  have HA := Lib.hid (bA.ext e4)
  have HB := Lib.hid bB
  have HE4 := Lib.hid (((e1.trans e2).trans e3).trans e4)
  clear bA bB bC e1 e2 e3 e4 hSr
  go_upto_region 4 with (fail)
  have bM := BoxL.new W4 [.string { data := #[109] }, .int .u8 1, .slice none 0 0, .string { data := #[97] }, .int .i64 2, .int .i64 1] 27
  have e5 := (Ext.refl W4).alloc (.cells #[.string { data := #[109] }, .int .u8 1, .slice none 0 0, .string { data := #[97] }, .int .i64 2, .int .i64 1] 27)
  generalize W4.alloc (.cells #[.string { data := #[109] }, .int .u8 1, .slice none 0 0, .string { data := #[97] }, .int .i64 2, .int .i64 1] 27) = W5 at *
  have z5 : W4.heap.size < W5.heap.size := bM.1
  generalize W4.heap.size = BM at *
  have ⟨m0, m1, m2, m3, m4, m5⟩ := bM.six
  go_upto_region 5 with (fail)
  have bW := BoxL.new W5 [.string { data := #[109] }, .int .u8 1, .slice none 0 0, .string { data := #[97] }, .int .i64 2, .int .i64 1] 27
  have e6 := (Ext.refl W5).alloc (.cells #[.string { data := #[109] }, .int .u8 1, .slice none 0 0, .string { data := #[97] }, .int .i64 2, .int .i64 1] 27)
  have HM := Lib.hid (bM.ext e6)
  clear m0 m1 m2 m3 m4 m5 bM
  generalize W5.alloc (.cells #[.string { data := #[109] }, .int .u8 1, .slice none 0 0, .string { data := #[97] }, .int .i64 2, .int .i64 1] 27) = W6 at *
  generalize hBW : W5.heap.size = BW at *
  have w4 := bW.cell 4 _ rfl
  have w4' := bW.free 4
  go_upto_region 6 with (fail)
  have HW := Lib.hid (bW.set 4 (by simp) (.int .i64 5))
  have e7 : Ext W5 (W6.setCell ⟨BW, 4, none⟩ (.int .i64 5)) := e6.setCell (p := ⟨BW, 4, none⟩) (by show W5.heap.size ≤ BW; omega) _
  have HM := Lib.hid (HM.out.kept (setOne_grown W6 BW 4 (.int .i64 5)) (fun e => by injection e with e; omega))
  clear w4 w4' bW e6
  generalize W6.setCell ⟨BW, 4, none⟩ (.int .i64 5) = W7 at *
  have HB7 := Lib.hid (HB.out.ext (e5.trans e7))
  have ⟨x0, x1, x2, x3, x4, x5⟩ := HB7.out.six
  go_upto_region 7 with (fail)
  have bL := BoxL.new W7 [.string { data := #[98] }, .int .u8 0, .slice (some ⟨SB, 0, none⟩) 1 1, .string { data := #[] }, .int .i64 0, .int .i64 0] 27
  have e8 := (Ext.refl W7).alloc (.cells #[.string { data := #[98] }, .int .u8 0, .slice (some ⟨SB, 0, none⟩) 1 1, .string { data := #[] }, .int .i64 0, .int .i64 0] 27)
  clear x0 x1 x2 x3 x4 x5
  generalize W7.alloc (.cells #[.string { data := #[98] }, .int .u8 0, .slice (some ⟨SB, 0, none⟩) 1 1, .string { data := #[] }, .int .i64 0, .int .i64 0] 27) = W8 at *
  generalize hBL : W7.heap.size = BL at *
  have e9 := (Ext.refl W8).alloc (.cells #[.string { data := #[99] }] 9)
  have l2 := (bL.ext e9).cell 2 _ rfl
  have l2' := (bL.ext e9).free 2
  have lz : BL < W8.heap.size := bL.1
  go_upto_region 8 with (fail)
  have hL9 : BoxL ((W8.setCell ⟨BL, 2, none⟩ (.slice (some ⟨W8.heap.size, 0, none⟩) 1 1)).alloc (.cells #[.string { data := #[99] }] 9)) BL [.string { data := #[98] }, .int .u8 0, .slice (some ⟨W8.heap.size, 0, none⟩) 1 1, .string { data := #[] }, .int .i64 0, .int .i64 0] := (bL.set 2 (by simp) (.slice (some ⟨W8.heap.size, 0, none⟩) 1 1)).ext ((Ext.refl _).alloc _)
  have hE9 : Ext W7 ((W8.setCell ⟨BL, 2, none⟩ (.slice (some ⟨W8.heap.size, 0, none⟩) 1 1)).alloc (.cells #[.string { data := #[99] }] 9)) := (e8.setCell (p := ⟨BL, 2, none⟩) (by show W7.heap.size ≤ BL; omega) _).alloc _
  have hT9 := heap_alloc_new (W8.setCell ⟨BL, 2, none⟩ (.slice (some ⟨W8.heap.size, 0, none⟩) 1 1)) (.cells #[.string { data := #[99] }] 9)
  rw [World.size_setCell] at hT9
  clear e9 l2 l2' lz bL e8
  generalize (W8.setCell ⟨BL, 2, none⟩ (.slice (some ⟨W8.heap.size, 0, none⟩) 1 1)).alloc (.cells #[.string { data := #[99] }] 9) = W9 at *
  generalize W8.heap.size = SC at *
  have HL := Lib.hid hL9
  have HT := Lib.hid (row_one_str W9 (s := [99]) hT9 (by decide))
  have HE9 := Lib.hid ((e5.trans e7).trans hE9)
  have HM := Lib.hid (HM.out.ext hE9)
  have HW := Lib.hid (HW.out.ext hE9)
  clear hL9 hE9 hT9 e5 e7 z5 HB7
  have hD := deepRow W9
  have hE10 := (Ext.refl W9).alloc (.cells (flC 0 (-1) ++ flC 0 0 ++ flC 0 1).toArray 50)
  simp only [flC, List.cons_append, List.nil_append] at hD hE10
  go_upto_region 9 with (fail)
  generalize W9.alloc (.cells #[.string { data := #[] }, .string { data := #[] }, .int .u8 0, .int .i64 0, .int .i64 (-1), .int .i64 0, .slice none 0 0, .int .i64 0, .int .i64 0, .int .u8 0, .int .i64 0, .int .i64 0, .int .u8 0, .int .i64 0, .string { data := #[] }, .slice none 0 0, .string { data := #[] }, .string { data := #[] }, .int .u8 0, .int .i64 0, .int .i64 0, .int .i64 0, .slice none 0 0, .int .i64 0, .int .i64 0, .int .u8 0, .int .i64 0, .int .i64 0, .int .u8 0, .int .i64 0, .string { data := #[] }, .slice none 0 0, .string { data := #[] }, .string { data := #[] }, .int .u8 0, .int .i64 0, .int .i64 1, .int .i64 0, .slice none 0 0, .int .i64 0, .int .i64 0, .int .u8 0, .int .i64 0, .int .i64 0, .int .u8 0, .int .i64 0, .string { data := #[] }, .slice none 0 0] 50) = WA at *
  generalize W9.heap.size = DB at *
  have HD := Lib.hid hD
  have HS := Lib.hid ((HS.out.ext HE9.out).ext hE10)
  have HT := Lib.hid (HT.out.ext hE10)
  have HC := Lib.hid ((HC.out.ext HE9.out).ext hE10)
  have HA := Lib.hid ((HA.out.ext HE9.out).ext hE10)
  have HB := Lib.hid ((HB.out.ext HE9.out).ext hE10)
  have HM := Lib.hid (HM.out.ext hE10)
  have HW := Lib.hid (HW.out.ext hE10)
  have HL := Lib.hid (HL.out.ext hE10)
  have HEw := Lib.hid ((HE4.out.trans HE9.out).trans hE10)
  have HK0 := Lib.hid (Ext.refl WA)
  clear hD hE10 HE4 HE9
  have c0 := (HC.out.ext HK0.out).cell 0 _ rfl
  have c1 := (HC.out.ext HK0.out).cell 1 _ rfl
  have c2 := (HC.out.ext HK0.out).cell 2 _ rfl
  have c3 := (HC.out.ext HK0.out).cell 3 _ rfl
  have c4 := (HC.out.ext HK0.out).cell 4 _ rfl
  have ⟨x00, x01, x02, x03, x04, x05⟩ := (HA.out.ext HK0.out).six
  have ⟨x10, x11, x12, x13, x14, x15⟩ := (HB.out.ext HK0.out).six
  go_wp2_with fail
  have hb0 := heap_alloc_new WA (.cells #[.string { data := #[97] }, .int .u8 0, .slice none 0 0, .string { data := #[] }, .int .i64 0, .int .i64 0, .string { data := #[98] }, .int .u8 0, .slice (some ⟨SB, 0, none⟩) 1 1, .string { data := #[] }, .int .i64 0, .int .i64 0] 27)
  have hE0 := (Ext.refl WA).alloc (.cells #[.string { data := #[97] }, .int .u8 0, .slice none 0 0, .string { data := #[] }, .int .i64 0, .int .i64 0, .string { data := #[98] }, .int .u8 0, .slice (some ⟨SB, 0, none⟩) 1 1, .string { data := #[] }, .int .i64 0, .int .i64 0] 27)
  clear c0 c1 c2 c3 c4 x00 x01 x02 x03 x04 x05 x10 x11 x12 x13 x14 x15
  generalize WA.alloc (.cells #[.string { data := #[97] }, .int .u8 0, .slice none 0 0, .string { data := #[] }, .int .i64 0, .int .i64 0, .string { data := #[98] }, .int .u8 0, .slice (some ⟨SB, 0, none⟩) 1 1, .string { data := #[] }, .int .i64 0, .int .i64 0] 27) = X0 at *
  refine (frag20 [] [ckA, ckB] rightO_nil (by decide) (by decide) (-1) _ ck1 X0 _ _ (Elem.Row.void _ _ _) (row_two_it X0 (x := ckA) (y := ckB) (d := .slice none 0 0) (d' := .slice (some ⟨SB, 0, none⟩) 1 1) hb0 (Elem.Row.void _ _ _) (HS.out.ext (HK0.out.trans hE0)) ck_wf.1 ck_wf.2.1)).mono ?_
  rintro e Y0 ⟨rfl, hF0⟩
  have HK1 := Lib.hid ((HK0.out.trans hE0).trans hF0)
  clear hF0 HK0 hb0 hE0
  have ⟨x00, x01, x02, x03, x04, x05⟩ := (HA.out.ext HK1.out).six
  have ⟨x10, x11, x12, x13, x14, x15⟩ := (HB.out.ext HK1.out).six
  go_wp2_with fail
  have hb1 := heap_alloc_new Y0 (.cells #[.string { data := #[97] }, .int .u8 0, .slice none 0 0, .string { data := #[] }, .int .i64 0, .int .i64 0, .string { data := #[98] }, .int .u8 0, .slice (some ⟨SB, 0, none⟩) 1 1, .string { data := #[] }, .int .i64 0, .int .i64 0] 27)
  have hE1 := (Ext.refl Y0).alloc (.cells #[.string { data := #[97] }, .int .u8 0, .slice none 0 0, .string { data := #[] }, .int .i64 0, .int .i64 0, .string { data := #[98] }, .int .u8 0, .slice (some ⟨SB, 0, none⟩) 1 1, .string { data := #[] }, .int .i64 0, .int .i64 0] 27)
  clear x00 x01 x02 x03 x04 x05 x10 x11 x12 x13 x14 x15
  generalize Y0.alloc (.cells #[.string { data := #[97] }, .int .u8 0, .slice none 0 0, .string { data := #[] }, .int .i64 0, .int .i64 0, .string { data := #[98] }, .int .u8 0, .slice (some ⟨SB, 0, none⟩) 1 1, .string { data := #[] }, .int .i64 0, .int .i64 0] 27) = X1 at *
  refine (total20 X1 _ (row_two_it X1 (x := ckA) (y := ckB) (d := .slice none 0 0) (d' := .slice (some ⟨SB, 0, none⟩) 1 1) hb1 (Elem.Row.void _ _ _) (HS.out.ext (HK1.out.trans hE1)) ck_wf.1 ck_wf.2.1)).mono ?_
  rintro e Y1 ⟨rfl, hF1⟩
  have HK2 := Lib.hid ((HK1.out.trans hE1).trans hF1)
  clear hF1 HK1 hb1 hE1
  have c0 := (HC.out.ext HK2.out).cell 0 _ rfl
  have c1 := (HC.out.ext HK2.out).cell 1 _ rfl
  have c2 := (HC.out.ext HK2.out).cell 2 _ rfl
  have c3 := (HC.out.ext HK2.out).cell 3 _ rfl
  have c4 := (HC.out.ext HK2.out).cell 4 _ rfl
  have ⟨x00, x01, x02, x03, x04, x05⟩ := (HA.out.ext HK2.out).six
  have ⟨x10, x11, x12, x13, x14, x15⟩ := (HL.out.ext HK2.out).six
  go_wp2_with fail
  have hb2 := heap_alloc_new Y1 (.cells #[.string { data := #[97] }, .int .u8 0, .slice none 0 0, .string { data := #[] }, .int .i64 0, .int .i64 0, .string { data := #[98] }, .int .u8 0, .slice (some ⟨SC, 0, none⟩) 1 1, .string { data := #[] }, .int .i64 0, .int .i64 0] 27)
  have hE2 := (Ext.refl Y1).alloc (.cells #[.string { data := #[97] }, .int .u8 0, .slice none 0 0, .string { data := #[] }, .int .i64 0, .int .i64 0, .string { data := #[98] }, .int .u8 0, .slice (some ⟨SC, 0, none⟩) 1 1, .string { data := #[] }, .int .i64 0, .int .i64 0] 27)
  clear c0 c1 c2 c3 c4 x00 x01 x02 x03 x04 x05 x10 x11 x12 x13 x14 x15
  generalize Y1.alloc (.cells #[.string { data := #[97] }, .int .u8 0, .slice none 0 0, .string { data := #[] }, .int .i64 0, .int .i64 0, .string { data := #[98] }, .int .u8 0, .slice (some ⟨SC, 0, none⟩) 1 1, .string { data := #[] }, .int .i64 0, .int .i64 0] 27) = X2 at *
  refine (frag20 [] [ckA, ckLost] rightO_nil (by decide) (by decide) (-1) _ ck3 X2 _ _ (Elem.Row.void _ _ _) (row_two_it X2 (x := ckA) (y := ckLost) (d := .slice none 0 0) (d' := .slice (some ⟨SC, 0, none⟩) 1 1) hb2 (Elem.Row.void _ _ _) (HT.out.ext (HK2.out.trans hE2)) ck_wf.1 ck_wf.2.2.2.2)).mono ?_
  rintro e Y2 ⟨rfl, hF2⟩
  have HK3 := Lib.hid ((HK2.out.trans hE2).trans hF2)
  clear hF2 HK2 hb2 hE2
  have ⟨x00, x01, x02, x03, x04, x05⟩ := (HM.out.ext HK3.out).six
  go_wp2_with fail
  clear x00 x01 x02 x03 x04 x05
  refine (cost20 Y2 _ ⟨none, 0, 0, rfl, Elem.Row.void _ _ _, ck_wf.2.2.1⟩).mono ?_
  rintro e Y3 ⟨rfl, hF3⟩
  have HK4 := Lib.hid (HK3.out.trans hF3)
  clear hF3 HK3
  have c0 := (HC.out.ext HK4.out).cell 0 _ rfl
  have c1 := (HC.out.ext HK4.out).cell 1 _ rfl
  have c2 := (HC.out.ext HK4.out).cell 2 _ rfl
  have c3 := (HC.out.ext HK4.out).cell 3 _ rfl
  have c4 := (HC.out.ext HK4.out).cell 4 _ rfl
  have ⟨x00, x01, x02, x03, x04, x05⟩ := (HA.out.ext HK4.out).six
  have ⟨x10, x11, x12, x13, x14, x15⟩ := (HM.out.ext HK4.out).six
  go_wp2_with fail
  have hb4 := heap_alloc_new Y3 (.cells #[.string { data := #[97] }, .int .u8 0, .slice none 0 0, .string { data := #[] }, .int .i64 0, .int .i64 0, .string { data := #[109] }, .int .u8 1, .slice none 0 0, .string { data := #[97] }, .int .i64 2, .int .i64 1] 27)
  have hE4 := (Ext.refl Y3).alloc (.cells #[.string { data := #[97] }, .int .u8 0, .slice none 0 0, .string { data := #[] }, .int .i64 0, .int .i64 0, .string { data := #[109] }, .int .u8 1, .slice none 0 0, .string { data := #[97] }, .int .i64 2, .int .i64 1] 27)
  clear c0 c1 c2 c3 c4 x00 x01 x02 x03 x04 x05 x10 x11 x12 x13 x14 x15
  generalize Y3.alloc (.cells #[.string { data := #[97] }, .int .u8 0, .slice none 0 0, .string { data := #[] }, .int .i64 0, .int .i64 0, .string { data := #[109] }, .int .u8 1, .slice none 0 0, .string { data := #[97] }, .int .i64 2, .int .i64 1] 27) = X4 at *
  refine (frag20 [] [ckA, ckM] rightO_nil (by decide) (by decide) (-1) _ ck5 X4 _ _ (Elem.Row.void _ _ _) (row_two_it X4 (x := ckA) (y := ckM) (d := .slice none 0 0) (d' := .slice none 0 0) hb4 (Elem.Row.void _ _ _) (Elem.Row.void _ _ _) ck_wf.1 ck_wf.2.2.1)).mono ?_
  rintro e Y4 ⟨rfl, hF4⟩
  have HK5 := Lib.hid ((HK4.out.trans hE4).trans hF4)
  clear hF4 HK4 hb4 hE4
  have c0 := (HC.out.ext HK5.out).cell 0 _ rfl
  have c1 := (HC.out.ext HK5.out).cell 1 _ rfl
  have c2 := (HC.out.ext HK5.out).cell 2 _ rfl
  have c3 := (HC.out.ext HK5.out).cell 3 _ rfl
  have c4 := (HC.out.ext HK5.out).cell 4 _ rfl
  have ⟨x00, x01, x02, x03, x04, x05⟩ := (HA.out.ext HK5.out).six
  go_wp2_with fail
  have hb5 := heap_alloc_new Y4 (.cells #[.string { data := #[97] }, .int .u8 0, .slice none 0 0, .string { data := #[] }, .int .i64 0, .int .i64 0, .string { data := #[97] }, .int .u8 0, .slice none 0 0, .string { data := #[] }, .int .i64 0, .int .i64 0] 27)
  have hE5 := (Ext.refl Y4).alloc (.cells #[.string { data := #[97] }, .int .u8 0, .slice none 0 0, .string { data := #[] }, .int .i64 0, .int .i64 0, .string { data := #[97] }, .int .u8 0, .slice none 0 0, .string { data := #[] }, .int .i64 0, .int .i64 0] 27)
  clear c0 c1 c2 c3 c4 x00 x01 x02 x03 x04 x05
  generalize Y4.alloc (.cells #[.string { data := #[97] }, .int .u8 0, .slice none 0 0, .string { data := #[] }, .int .i64 0, .int .i64 0, .string { data := #[97] }, .int .u8 0, .slice none 0 0, .string { data := #[] }, .int .i64 0, .int .i64 0] 27) = X5 at *
  refine (frag20 [] [ckA, ckA] rightO_nil (by decide) (by decide) (-1) _ ck6 X5 _ _ (Elem.Row.void _ _ _) (row_two_it X5 (x := ckA) (y := ckA) (d := .slice none 0 0) (d' := .slice none 0 0) hb5 (Elem.Row.void _ _ _) (Elem.Row.void _ _ _) ck_wf.1 ck_wf.1)).mono ?_
  rintro e Y5 ⟨rfl, hF5⟩
  have HK6 := Lib.hid ((HK5.out.trans hE5).trans hF5)
  clear hF5 HK5 hb5 hE5
  have c0 := (HC.out.ext HK6.out).cell 0 _ rfl
  have c1 := (HC.out.ext HK6.out).cell 1 _ rfl
  have c2 := (HC.out.ext HK6.out).cell 2 _ rfl
  have c3 := (HC.out.ext HK6.out).cell 3 _ rfl
  have c4 := (HC.out.ext HK6.out).cell 4 _ rfl
  have ⟨x00, x01, x02, x03, x04, x05⟩ := (HA.out.ext HK6.out).six
  have ⟨x10, x11, x12, x13, x14, x15⟩ := (HW.out.ext HK6.out).six
  go_wp2_with fail
  have hb6 := heap_alloc_new Y5 (.cells #[.string { data := #[97] }, .int .u8 0, .slice none 0 0, .string { data := #[] }, .int .i64 0, .int .i64 0, .string { data := #[109] }, .int .u8 1, .slice none 0 0, .string { data := #[97] }, .int .i64 5, .int .i64 1] 27)
  have hE6 := (Ext.refl Y5).alloc (.cells #[.string { data := #[97] }, .int .u8 0, .slice none 0 0, .string { data := #[] }, .int .i64 0, .int .i64 0, .string { data := #[109] }, .int .u8 1, .slice none 0 0, .string { data := #[97] }, .int .i64 5, .int .i64 1] 27)
  clear c0 c1 c2 c3 c4 x00 x01 x02 x03 x04 x05 x10 x11 x12 x13 x14 x15
  generalize Y5.alloc (.cells #[.string { data := #[97] }, .int .u8 0, .slice none 0 0, .string { data := #[] }, .int .i64 0, .int .i64 0, .string { data := #[109] }, .int .u8 1, .slice none 0 0, .string { data := #[97] }, .int .i64 5, .int .i64 1] 27) = X6 at *
  refine (frag20 [] [ckA, ckWide] rightO_nil (by decide) (by decide) (-1) _ ck7 X6 _ _ (Elem.Row.void _ _ _) (row_two_it X6 (x := ckA) (y := ckWide) (d := .slice none 0 0) (d' := .slice none 0 0) hb6 (Elem.Row.void _ _ _) (Elem.Row.void _ _ _) ck_wf.1 ck_wf.2.2.2.1)).mono ?_
  rintro e Y6 ⟨rfl, hF6⟩
  have HK7 := Lib.hid ((HK6.out.trans hE6).trans hF6)
  clear hF6 HK6 hb6 hE6
  have c0 := (HC.out.ext HK7.out).cell 0 _ rfl
  have c1 := (HC.out.ext HK7.out).cell 1 _ rfl
  have c2 := (HC.out.ext HK7.out).cell 2 _ rfl
  have c3 := (HC.out.ext HK7.out).cell 3 _ rfl
  have c4 := (HC.out.ext HK7.out).cell 4 _ rfl
  have ⟨x00, x01, x02, x03, x04, x05⟩ := (HA.out.ext HK7.out).six
  go_wp2_with fail
  have hb7 := heap_alloc_new Y6 (.cells #[.string { data := #[97] }, .int .u8 0, .slice none 0 0, .string { data := #[] }, .int .i64 0, .int .i64 0] 27)
  have hE7 := (Ext.refl Y6).alloc (.cells #[.string { data := #[97] }, .int .u8 0, .slice none 0 0, .string { data := #[] }, .int .i64 0, .int .i64 0] 27)
  clear c0 c1 c2 c3 c4 x00 x01 x02 x03 x04 x05
  generalize Y6.alloc (.cells #[.string { data := #[97] }, .int .u8 0, .slice none 0 0, .string { data := #[] }, .int .i64 0, .int .i64 0] 27) = X7 at *
  refine (frag20 ckDeep [ckA] ckDeep_right (by decide) (by decide) 2 _ ck8 X7 _ _ (HD.out.ext (HK7.out.trans hE7)) (row_one_it X7 (x := ckA) (d := .slice none 0 0) hb7 (Elem.Row.void _ _ _) ck_wf.1)).mono ?_
  rintro e Y7 ⟨rfl, hF7⟩
  have HK8 := Lib.hid ((HK7.out.trans hE7).trans hF7)
  clear hF7 HK7 hb7 hE7
  go_wp2
  go_ret
  exact ⟨rfl, HEw.out.trans HK8.out⟩
end Go.Proofs.YtgclfmdpapadnaaDoor

open Go.RowKit Go.Shelf
namespace Go.Proofs.YtgclfmdpapadnaaDoor
open Go Go.Proofs Fm

set_option maxRecDepth 100000 in
set_option maxHeartbeats 8000000 in
theorem few09_any (l : List It) (w : World) (v : Value) (hv : itE.Row w l v) :
    Calls Tryd.prog 13 #[v] w fun e w' => e = .returned (.bool (fewF l)) ∧ Ext w w' := by
  obtain ⟨a, cap, rfl, h1, h2⟩ := hv.slice
  have HR := Lib.hid hv
  have hll : l.length ≤ 9223372036854775807 := by omega
  clear hv h1 h2
  go_enter Tryd.func13, Tryd.ntmps13
  go_wp2_with fail
  go_loopw [9] (fun i wr => ∃ j : Nat, j ≤ l.length ∧ i = .int .i64 j ∧ Hid ((l.take j).all lightI = true) ∧ Ext w wr) (fun i _ => l.length - (intOf i).toNat)
  case atStart => exact ⟨0, by omega, rfl, Lib.hid (by simp), Ext.refl _⟩
  case round =>
    obtain ⟨j, hj, rfl, HA, hE⟩ := hrel
    by_cases hlt : j < l.length
    case neg =>
      have hj' : j = l.length := by omega
      have HX : Hid (fewF l = decide ((l.length : Int) ≤ 60)) := Lib.hid (by
        have := HA.out; rw [hj', List.take_length] at this
        unfold fewF; rw [this, Bool.true_and, decide_eq_decide]; omega)
      clear hj' HA
      go_wp2
      go_ret
      exact ⟨by rw [HX.out]; rfl, hE⟩
    obtain ⟨b, off, rfl, hb, aa, m, cc, c0, c1, c2, c3, c4, c5, hs⟩ := it_at HR.out hE j hlt
    obtain ⟨x, hx⟩ : ∃ x, x = l[j] := ⟨_, rfl⟩
    rw [← hx] at c0 c1 c3 c4 c5 hs
    have HS := Lib.hid (hs.ext hE)
    have hml : m ≤ 9223372036854775807 := by have := HS.out.row.length_le; rw [← HS.out.len] at this; exact this
    have HXj := Lib.hid hx
    have HX0 : Hid (lightI x = false → fewF l = false) := Lib.hid (fun h => fewF_not hlt (by rw [← HXj.out]; exact h))
    have hsn := str_size x.name
    have hso := str_size x.over
    have HM := Lib.hid HS.out.len
    have hln : x.name.length ≤ 9223372036854775807 := by obtain ⟨_, _, _, _, _, h, _⟩ := HS.out; exact h
    have hlo : x.over.length ≤ 9223372036854775807 := by obtain ⟨_, _, _, _, _, _, h, _⟩ := HS.out; exact h
    clear hs hx hb
    generalize (x.kind.toNat : Int) = K at *
    have HE1 := Lib.hid (hE.alloc (.cells #[.string (str x.name), .int .u8 K, .slice aa m cc, .string (str x.over), .int .i64 x.width, .int .i64 x.quota] 27))
    have HB1 : Hid (BoxL (wr.alloc (.cells #[.string (str x.name), .int .u8 K, .slice aa m cc, .string (str x.over), .int .i64 x.width, .int .i64 x.quota] 27)) wr.heap.size [.string (str x.name), .int .u8 K, .slice aa m cc, .string (str x.over), .int .i64 x.width, .int .i64 x.quota]) := Lib.hid (BoxL.new wr _ _)
    have HE01 := Lib.hid ((Ext.refl wr).alloc (.cells #[.string (str x.name), .int .u8 K, .slice aa m cc, .string (str x.over), .int .i64 x.width, .int .i64 x.quota] 27))
    by_cases h40 : 40 < m
    case pos =>
      have HX := Lib.hid (HX0.out (lightI_after (by have := HM.out; omega)))
      have h40' : (40 : Int) < (m : Int) := by omega
      clear HA HX0
      go_wp2
      go_ret
      exact ⟨by rw [HX.out]; rfl, HE1.out⟩
    have h40' : ¬ (40 : Int) < (m : Int) := by omega
    by_cases hn : 100 < x.name.length
    case pos =>
      have HX := Lib.hid (HX0.out (lightI_name hn))
      have hn' : (100 : Int) < (x.name.length : Int) := by omega
      clear HA HX0
      go_wp2
      go_ret
      exact ⟨by rw [HX.out]; rfl, HE1.out⟩
    have hn' : ¬ (100 : Int) < (x.name.length : Int) := by omega
    by_cases ho : 100 < x.over.length
    case pos =>
      have HX := Lib.hid (HX0.out (lightI_over ho))
      have ho' : (100 : Int) < (x.over.length : Int) := by omega
      clear HA HX0
      go_wp2
      go_ret
      exact ⟨by rw [HX.out]; rfl, HE1.out⟩
    have ho' : ¬ (100 : Int) < (x.over.length : Int) := by omega
    have HL : Hid (x.after.all (fun s => decide (s.length ≤ 100)) = true → lightI x = true) := Lib.hid (fun h => lightI_mk (by have := HM.out; omega) (by omega) (by omega) h)
    have HRx := Lib.hid (HS.out.row.ext HE01.out)
    clear h40 hn ho
    go_wp2_with fail
    have hwz : wr.heap.size < (wr.alloc (.cells #[.string (str x.name), .int .u8 K, .slice aa m cc, .string (str x.over), .int .i64 x.width, .int .i64 x.quota] 27)).heap.size := by simp
    generalize wr.alloc (.cells #[.string (str x.name), .int .u8 K, .slice aa m cc, .string (str x.over), .int .i64 x.width, .int .i64 x.quota] 27) = W1 at *
    clear c0 c1 c2 c3 c4 c5
    go_loopw [32] (fun i wr2 => ∃ k : Nat, k ≤ m ∧ i = .int .i64 k ∧ Hid ((x.after.take k).all (fun s => decide (s.length ≤ 100)) = true) ∧ Ext W1 wr2) (fun i _ => m - (intOf i).toNat)
    case atStart => exact ⟨0, by omega, rfl, Lib.hid (by simp), Ext.refl _⟩
    case round =>
      obtain ⟨k, hk, rfl, HA2, hE2⟩ := hrel
      by_cases hkm : k < m
      · have hkx : k < x.after.length := by have := HM.out; omega
        obtain ⟨sb, so, rfl, hsb, hsc, hsl⟩ := str_at HRx.out hE2 k hkx
        have hss := str_size x.after[k]
        by_cases h100 : 100 < x.after[k].length
        case pos =>
          have HX := Lib.hid (HX0.out (lightI_text hkx h100))
          have h100' : (100 : Int) < (x.after[k].length : Int) := by omega
          clear h100
          go_wp2
          go_ret
          exact ⟨by rw [HX.out]; rfl, HE1.out.trans hE2⟩
        case neg =>
          have HA3 : Hid ((x.after.take (k + 1)).all (fun s => decide (s.length ≤ 100)) = true) := Lib.hid (by
            rw [List.take_add_one, List.getElem?_eq_getElem hkx, List.all_append, HA2.out]; simp; omega)
          have h100' : ¬ (100 : Int) < (x.after[k].length : Int) := by omega
          clear h100
          go_wp2
          go_roundw
          case rel => exact ⟨k + 1, by omega, by go_num, HA3, hE2⟩
          case measure => simp [intOf]; omega
      · have hkk : k = m := by omega
        have HXY : Hid ((l.take (j + 1)).all lightI = true) := Lib.hid (by
          rw [List.take_add_one, List.getElem?_eq_getElem hlt, List.all_append, HA.out]
          have := HA2.out
          rw [hkk, show m = x.after.length from HM.out, List.take_length] at this
          have := HL.out this
          rw [HXj.out] at this
          simpa using this)
        have HEr := Lib.hid (HE1.out.trans hE2)
        clear hkk
        go_wp2
        go_roundw
        case rel => exact ⟨j + 1, by omega, by go_num, HXY, HEr.out⟩
        case measure => simp [intOf]; omega
end Go.Proofs.YtgclfmdpapadnaaDoor

open Go.RowKit Go.Shelf
namespace Go.Proofs.YtgclfmdpapadnaaDoor
open Go Go.Proofs Fm

/-- Items in a row of one's own; their texts lie where they lay. -/
def ShF (w0 w : World) (v : Value) (l : List It) : Prop :=
  ∃ ds : List Value, ds.length = l.length ∧ w.ownsRow w0.heap.size 27 6 v l.length (itsCells l ds) ∧ ∀ i (hi : i < l.length) (hd : i < ds.length), strE.Row w0 l[i].after ds[i] ∧ itWf l[i]
theorem ShF.ext {w0 w w' : World} {v : Value} {l : List It} (h : ShF w0 w v l) (hE : Ext w w') : ShF w0 w' v l := by
  obtain ⟨ds, h1, h2, h3⟩ := h
  exact ⟨ds, h1, hE.own h2, h3⟩
theorem ShF.lt {w0 w : World} {v : Value} {l : List It} (h : ShF w0 w v l) : ∀ b, v.ownBlock = some b → w0.heap.size ≤ b ∧ b < w.heap.size := by
  obtain ⟨ds, h1, h2, h3⟩ := h
  exact h2.lt
theorem ShF.row {w0 w : World} {v : Value} {l : List It} (h : ShF w0 w v l) (hE : Ext w0 w) : itE.Row w l v := by
  obtain ⟨ds, h1, h2, h3⟩ := h
  have hc := fun g => World.ownsRow.cells h2 (g := g)
  rcases h2.2 with ⟨rfl, h0⟩ | ⟨g, cap, cur, rfl, hb, hg, hl, hm, h5, h6⟩
  · have : l = [] := List.eq_nil_of_length_eq_zero h0
    subst this
    exact Elem.Row.void itE w none
  · refine Elem.Row.mk rfl hl hm (Array.getElem?_eq_some_iff.1 hg).1 (fun i hi => ?_)
    have hd : i < ds.length := by omega
    obtain ⟨a1, a2⟩ := h3 i hi hd
    refine ⟨fun j => (itCells l[i] ds[i]).getD j .nilFunc, ⟨rfl, rfl, a1.ext hE, rfl, rfl, rfl, a2⟩, fun j hj => ?_⟩
    have hj6 : j < 6 := hj
    have := hc g rfl (i * 6 + j) ((itCells l[i] ds[i]).getD j .nilFunc) (by
      rw [itsCells_at l ds i j hi hd hj6, List.getD_eq_getElem?_getD, List.getElem?_eq_getElem (by simp [itCells]; omega)]
      rfl)
    rw [Addr.add_lit] at this
    exact this
theorem sizeof_item : ∀ w, (sizeOf (Tryd.prog.elem 22)).run Tryd.prog w = .ok 6 w := fun _ => by kernel_rfl
theorem slice_it_upto (a : Option Addr) (len cap k : Nat) (h1 : k ≤ cap) (w : World) :
    (Instr.slice 22 (.slice a len cap) none (some (.int .i64 (k : Int))) none).run Tryd.prog w = .ok (.slice a k cap) w := by
  rw [run_slice_h (ht := by kernel_rfl) (h0 := by omega) (h2 := by omega), sizeof_item]
  cases a <;> simp [Result.andThen, sliced, Addr.add]
end Go.Proofs.YtgclfmdpapadnaaDoor

namespace Fm
open Go Go.RowKit Go.ChangeShapes Go.WideShapes Go.ChangeAt

/-- What the reading of a slice of integers says: as the guide's skeleton has it. -/
def IsRow (k : IntKind) (w : World) (a : Option Addr) (len cap : Nat) (zs : List Int) : Prop :=
  (a = none ∧ len = 0 ∧ cap = 0 ∧ zs = []) ∨
  ∃ x, a = some x ∧ len ≤ cap ∧ cap ≤ maxLen ∧ zs.length = cap ∧ (∀ i, i < zs.length → w.cell? (x.add i) = some (.int k (zs.getD i 0))) ∧ ∀ n ∈ zs, (Lit.int k n).wf = true

theorem u8_of_wf {n : Int} (h : (Lit.int .u8 n).wf = true) : ((UInt8.ofNat n.toNat).toNat : Int) = n := by
  have : 0 ≤ n ∧ n ≤ 255 := by
    simp [Lit.wf, IntKind.min, IntKind.max, IntKind.signed, IntKind.bits] at h
    omega
  rw [toNat_ofNat_lt (by omega)]; omega

theorem i64_of_wf {n : Int} (h : (Lit.int .i64 n).wf = true) : isI64 n := by
  simp [Lit.wf, IntKind.min, IntKind.max, IntKind.signed, IntKind.bits] at h
  unfold isI64; omega

theorem IsRow.bytes {w : World} {a : Option Addr} {len cap : Nat} {zs : List Int} (h : IsRow .u8 w a len cap zs) :
    ∃ xs : List UInt8, xs.length = len ∧ Bytes w (.slice a len cap) xs := by
  rcases h with ⟨rfl, rfl, rfl, rfl⟩ | ⟨x, rfl, hl, hm, hz, hc, hw⟩
  · exact ⟨[], rfl, Bytes.nil w⟩
  · refine ⟨(zs.take len).map fun n => UInt8.ofNat n.toNat, by simp; omega, ?_⟩
    have hlen : ((zs.take len).map fun n => UInt8.ofNat n.toNat).length = len := by simp; omega
    refine ⟨some x, cap, by rw [hlen], by omega, hm, (fun h => by cases h), fun ad had h0 => ?_⟩
    cases had
    have h00 := hc 0 (by omega)
    have e0 : x.add 0 = x := by unfold Addr.add; rw [if_pos rfl]
    rw [e0] at h00
    have hs : x.spot = none := by
      cases hsp : x.spot with
      | none => rfl
      | some s =>
        unfold World.cell? at h00
        cases hb : w.heap[x.block]? with
        | none => rw [hb] at h00; cases h00
        | some o => rw [hb] at h00; cases o <;> simp [hsp] at h00
    refine ⟨hs, World.block_lt_of_cell? w x h00, fun j hj => ?_⟩
    have hj' : j < zs.length := by omega
    have hjl : j < len := by omega
    have hcj := hc j hj'
    have ea : x.add j = ⟨x.block, x.off + j, none⟩ := by
      unfold Addr.add; split
      · obtain ⟨b, o, s⟩ := x; simp at hs ⊢; exact ⟨by omega, hs⟩
      · rw [← hs]
    rw [ea] at hcj
    rw [hcj]
    have hg : zs.getD j 0 = zs[j] := by simp [List.getD, hj']
    have hwf := hw zs[j] (List.getElem_mem hj')
    rw [hg]
    simp [bv, hjl, hj']
    have := u8_of_wf hwf
    simp at this
    exact this.symm
end Fm

namespace Fm
open Go Go.RowKit Go.ChangeShapes Go.WideShapes Go.ChangeAt

/-- What reads as data of that type lies so. -/
def Elem.Reads {α : Type} (E : Elem α) (P : Program) (T : TypeId) : Prop :=
  ∀ {H : Type} (enc : TypeId × Value → H) (W : World) (base : Nat) (spare : Nat → Bool) (held : Bool) (fuel : Nat) (cs : List Value) (x : DataW H × List MemPlace),
    DataW.trod enc P W base spare held fuel T cs = some x → ∃ a : α, E.R W a (fun j => cs.getD j .nilFunc)
theorem reads_str {P : Program} {T : TypeId} (hT : P.underlying T = some .string) : strE.Reads P T := by
  intro H enc W base spare held fuel cs x h
  obtain ⟨s, rfl, -, hw⟩ := DataW.trod_string hT h
  refine ⟨s.data.toList, ?_, ?_⟩
  · show Value.string s = _
    rw [str_eta]
  · have e : s.data.toList.length = s.size := by rw [Array.length_toList]; rfl
    unfold maxLen at hw; omega
theorem reads_int {P : Program} {T : TypeId} (hT : P.underlying T = some (.int .i64)) : intE.Reads P T := by
  intro H enc W base spare held fuel cs x h
  obtain ⟨n, rfl, -, hw⟩ := DataW.trod_int hT h
  exact ⟨n, rfl, i64_of_wf hw⟩
theorem reads_u8 {P : Program} {T : TypeId} (hT : P.underlying T = some (.int .u8)) : u8E.Reads P T := by
  intro H enc W base spare held fuel cs x h
  obtain ⟨n, rfl, -, hw⟩ := DataW.trod_int hT h
  exact ⟨UInt8.ofNat n.toNat, by show Value.int _ _ = _; rw [u8_of_wf hw]⟩
theorem reads_slice {α : Type} {E : Elem α} {P : Program} {T e : TypeId} (hT : P.underlying T = some (.slice e)) (hsz : P.cellsOf e = E.sz) (hE : E.Reads P e) (hp : 0 < E.sz) : (rowE E).Reads P T := by
  intro H enc W base spare held fuel cs x h
  rcases DataW.trod_slice hT h with ⟨rfl, -⟩ | ⟨a, len, cap, elems, rest, m, hm, rfl, -, hba, hlc, hcm, hel, hat, -, -⟩
  · exact ⟨[], Elem.Row.void E W none⟩
  · have key : ∀ k, k ≤ len → ∃ l : List α, l.length = k ∧ ∀ i (hi : i < l.length), ∃ c : Nat → Value, E.R W l[i] c ∧ ∀ j, j < E.sz → W.cell? ((a.add (i * E.sz)).add j) = some (c j) := by
      intro k
      induction k with
      | zero => exact fun _ => ⟨[], rfl, fun i hi => by simp at hi⟩
      | succ k ih =>
        intro hk
        obtain ⟨l, hl, hr⟩ := ih (by omega)
        have h1 := hat k (by omega)
        rw [hsz, List.getElem?_eq_getElem (by omega)] at h1
        obtain ⟨cs', hc', ht'⟩ := Option.bind_eq_some_iff.1 h1
        obtain ⟨t, ht⟩ := hE enc W base spare held m cs' _ ht'
        obtain ⟨_, hl4, hcell⟩ := World.cells?_some hc'
        refine ⟨l ++ [t], by simp [hl], fun i hi => ?_⟩
        by_cases hik : i < l.length
        · rw [List.getElem_append_left hik]; exact hr i hik
        · have e : i = l.length := by simp at hi; omega
          subst e
          rw [List.getElem_append_right (by omega)]
          simp only [Nat.sub_self, List.getElem_cons_zero]
          refine ⟨_, ht, fun j hj => ?_⟩
          rw [hl, hcell j hj, List.getD_eq_getElem?_getD, List.getElem?_eq_getElem (by omega)]
          rfl
    obtain ⟨l, hl, hr⟩ := key len (Nat.le_refl _)
    refine ⟨l, ?_⟩
    show E.Row W l (.slice (some a) len cap)
    by_cases h0 : len = 0
    · have : l = [] := List.eq_nil_of_length_eq_zero (by omega)
      subst this h0
      exact ⟨some a, cap, rfl, by simp, hcm, (fun h => by cases h), fun _ _ => .nilFunc, fun h => by simp at h, fun i hi => by simp at hi⟩
    · obtain ⟨c, _, h00⟩ := hr 0 (by omega)
      have h00 := h00 0 hp
      rw [Nat.zero_mul] at h00
      have ea : (a.add 0).add 0 = a := by unfold Addr.add; rw [if_pos rfl, if_pos rfl]
      rw [ea] at h00
      have hs0 : a.spot = none := by
        cases hsp : a.spot with
        | none => rfl
        | some s =>
          unfold World.cell? at h00
          cases hb : W.heap[a.block]? with
          | none => rw [hb] at h00; cases h00
          | some o => rw [hb] at h00; cases o <;> simp [hsp] at h00
      obtain ⟨b, off, spot⟩ := a
      simp only at hs0
      subst hs0
      refine Elem.Row.mk hl.symm (by omega) hcm (World.block_lt_of_cell? W _ h00) (fun i hi => ?_)
      obtain ⟨c, h1, h2⟩ := hr i hi
      refine ⟨c, h1, fun j hj => ?_⟩
      have := h2 j hj
      rw [Addr.add_lit, Addr.add_lit, Nat.add_assoc] at this
      exact this
/-- A slice that is handed in. -/
theorem row_of_val {α : Type} {E : Elem α} {P : Program} {T e : TypeId} (hT : P.underlying T = some (.slice e)) (hR : (rowE E).Reads P T)
    {H : Type} {enc : TypeId × Value → H} {W : World} {r : Reach} {b0 base : Nat} {spare : Nat → Bool} {held : Bool} {v : Value} {d : DataW H} {p : List MemPlace} (hv : Value.okWide P W r b0 T v)
    (h : DataW.Trod enc P W base spare held T v d p) : ∃ l, E.Row W l v := by
  obtain ⟨b, n, c, rfl⟩ := okWide_slice hT hv
  obtain ⟨fuel, hf⟩ := h
  obtain ⟨l, hl⟩ := hR enc W base spare held fuel _ _ hf
  exact ⟨l, hl⟩
end Fm

namespace Fm
open Go Go.RowKit

def stpE : Elem Stp where
  sz := 2
  R _ x c := c 0 = .string (str x.name) ∧ c 1 = .int .i64 x.place ∧ x.name.length ≤ 9223372036854775807 ∧ isI64 x.place
  ext _ h := h
  loc hc h := ⟨(hc 0 (by omega)).symm.trans h.1, (hc 1 (by omega)).symm.trans h.2.1, h.2.2⟩
def stpCells (x : Stp) : List Value := [.string (str x.name), .int .i64 x.place]
def stpsCells (l : List Stp) : List Value := (l.map stpCells).flatten
def stpWf (x : Stp) : Prop := x.name.length ≤ 9223372036854775807 ∧ isI64 x.place
theorem stpsCells_at : ∀ (l : List Stp) (i j : Nat) (hi : i < l.length), j < 2 → (stpsCells l)[i * 2 + j]? = (stpCells l[i])[j]?
  | [], i, j, hi, _ => by simp at hi
  | x :: l, 0, j, _, hj => by
    unfold stpsCells
    rw [List.map_cons, List.flatten_cons, List.getElem?_append_left (by simp [stpCells]; omega)]
    simp
  | x :: l, i + 1, j, hi, hj => by
    have ih := stpsCells_at l i j (by simpa using hi) hj
    unfold stpsCells at ih ⊢
    rw [List.map_cons, List.flatten_cons, List.getElem?_append_right (by simp [stpCells]; omega)]
    have e : (i + 1) * 2 + j - (stpCells x).length = i * 2 + j := by simp [stpCells]; omega
    rw [e, ih]
    simp
/-- A path that is handed in. -/
def PthV (w : World) (p : Pth) (v : Value) : Prop :=
  ∃ (a : Option Addr) (m c : Nat), v = .agg #[.int .i64 p.flow, .slice a m c] ∧ stpE.Row w p.steps (.slice a m c) ∧ isI64 p.flow
theorem PthV.ext {w w' : World} {p : Pth} {v : Value} (h : PthV w p v) (hE : Ext w w') : PthV w' p v := by
  obtain ⟨a, m, c, h1, h2, h3⟩ := h
  exact ⟨a, m, c, h1, h2.ext hE, h3⟩
/-- Steps in memory of one's own. -/
def OwnSt (e : TypeId) (base : Nat) (w : World) (v : Value) (l : List Stp) : Prop := w.ownsRow base e 2 v l.length (stpsCells l) ∧ ∀ x, x ∈ l → stpWf x
theorem OwnSt.nil (e : TypeId) (base : Nat) (w : World) : OwnSt e base w (.slice none 0 0) [] := ⟨World.ownsRow_nil w base e 2, fun x h => by cases h⟩
theorem OwnSt.ext {e : TypeId} {base : Nat} {w w' : World} {v : Value} {l : List Stp} (h : OwnSt e base w v l) (hE : Ext w w') : OwnSt e base w' v l := ⟨hE.own h.1, h.2⟩
theorem OwnSt.mono {e : TypeId} {base base' : Nat} {w : World} {v : Value} {l : List Stp} (h : OwnSt e base w v l) (hb : base' ≤ base) : OwnSt e base' w v l := ⟨ownsRow_base h.1 hb, h.2⟩
theorem OwnSt.lt {e : TypeId} {base : Nat} {w : World} {v : Value} {l : List Stp} (h : OwnSt e base w v l) (b : Nat) (hb : v.ownBlock = some b) : base ≤ b ∧ b < w.heap.size := World.ownsRow.lt h.1 b hb
theorem OwnSt.kept {e : TypeId} {base : Nat} {w w' : World} {v : Value} {l : List Stp} {row : Option Nat} (h : OwnSt e base w v l) (hg : w.grownBy w' row) (hr : ∀ b, row = some b → b < base) : OwnSt e base w' v l := by
  refine ⟨World.ownsRow.kept h.1 hg ?_, h.2⟩
  cases hv : v.ownBlock with
  | none => exact .inl rfl
  | some b => right; intro e; have := hr b e.symm; have := (World.ownsRow.lt h.1 b hv).1; omega
theorem OwnSt.slice {e : TypeId} {base : Nat} {w : World} {v : Value} {l : List Stp} (h : OwnSt e base w v l) : ∃ a c, v = .slice a l.length c := by
  rcases h.1.2 with ⟨rfl, h0⟩ | ⟨g, cap, cur, rfl, _⟩
  · exact ⟨none, 0, by rw [h0]⟩
  · exact ⟨_, _, rfl⟩
theorem OwnSt.row {e : TypeId} {base : Nat} {w : World} {v : Value} {l : List Stp} (h : OwnSt e base w v l) : stpE.Row w l v := by
  have hc := fun g => World.ownsRow.cells h.1 (g := g)
  rcases h.1.2 with ⟨rfl, h0⟩ | ⟨g, cap, cur, rfl, hb, hg, h1, h2, h5, h6⟩
  · have : l = [] := List.eq_nil_of_length_eq_zero h0
    subst this
    exact Elem.Row.void stpE w none
  · refine Elem.Row.mk rfl h1 h2 (Array.getElem?_eq_some_iff.1 hg).1 (fun i hi => ?_)
    have hwf := h.2 _ (List.getElem_mem hi)
    refine ⟨fun j => (stpCells l[i]).getD j .nilFunc, ⟨rfl, rfl, hwf⟩, fun j hj => ?_⟩
    have hj2 : j < 2 := hj
    have := hc g rfl (i * 2 + j) ((stpCells l[i]).getD j .nilFunc) (by
      rw [stpsCells_at l i j hi hj2, List.getD_eq_getElem?_getD, List.getElem?_eq_getElem (by simp [stpCells]; omega)]; rfl)
    rw [Addr.add_lit] at this
    exact this
/-- A path in memory of one's own. -/
def PthOwn (e : TypeId) (base : Nat) (w : World) (p : Pth) (v : Value) : Prop :=
  ∃ (a : Option Addr) (m c : Nat), v = .agg #[.int .i64 p.flow, .slice a m c] ∧ OwnSt e base w (.slice a m c) p.steps ∧ isI64 p.flow
theorem PthOwn.v {e : TypeId} {base : Nat} {w : World} {p : Pth} {v : Value} (h : PthOwn e base w p v) : PthV w p v := by
  obtain ⟨a, m, c, h1, h2, h3⟩ := h
  exact ⟨a, m, c, h1, h2.row, h3⟩
theorem PthOwn.ext {e : TypeId} {base : Nat} {w w' : World} {p : Pth} {v : Value} (h : PthOwn e base w p v) (hE : Ext w w') : PthOwn e base w' p v := by
  obtain ⟨a, m, c, h1, h2, h3⟩ := h
  exact ⟨a, m, c, h1, h2.ext hE, h3⟩
end Fm

namespace Fm
open Go Go.RowKit
/-- A configuration. -/
structure Cfg where
  k0 : Int
  k1 : Int
  k2 : Int
  k3 : Int
  k4 : Int
def CfgV (_ : World) (c : Cfg) (v : Value) : Prop := v = .agg #[.int .i64 c.k0, .int .i64 c.k1, .int .i64 c.k2, .int .i64 c.k3, .int .i64 c.k4] ∧ isI64 c.k0 ∧ isI64 c.k1 ∧ isI64 c.k2 ∧ isI64 c.k3 ∧ isI64 c.k4
end Fm
namespace Go.Proofs.YtgclfmdpapadnaaDoor
open Go Go.Proofs Fm Go.RowKit Go.ChangeShapes Go.WideShapes Go.ChangeAt

set_option maxRecDepth 100000 in
theorem fieldsCfg : Tryd.prog.underlying 32 = some (.struct #[⟨"Quota", 3, 0, false, "", "", 0⟩, ⟨"Depth", 3, 1, false, "", "", 8⟩, ⟨"Width", 3, 2, false, "", "", 16⟩, ⟨"Retry", 3, 3, false, "", "", 24⟩, ⟨"Flows", 3, 4, false, "", "", 32⟩]) := by kernel_rfl
theorem cellsC_cfg : Tryd.prog.cellsOf 32 = 5 := by kernel_rfl
theorem cellsC_int : Tryd.prog.cellsOf 3 = 1 := by kernel_rfl
set_option maxRecDepth 100000 in
/-- A configuration that is handed in by value. -/
theorem cfgv_of_val {H : Type} {enc : TypeId × Value → H} {W : World} {r : Reach} {b0 base : Nat} {spare : Nat → Bool} {held : Bool} {v : Value} {d : DataW H} {p : List MemPlace} (hv : Value.okWide Tryd.prog W r b0 32 v)
    (h : DataW.Trod enc Tryd.prog W base spare held 32 v d p) : ∃ x, CfgV W x v := by
  obtain ⟨cs, rfl, hsz⟩ := okWide_struct fieldsCfg hv
  obtain ⟨fuel, hf⟩ := h
  obtain ⟨xs, n, hfuel, hx, hlen, hxs, hf'⟩ := DataW.trod_struct fieldsCfg (show DataW.trod enc Tryd.prog W base spare held fuel 32 cs.toList = some (d, p) by simpa [Value.cells] using hf)
  rw [cellsC_cfg] at hlen
  match hcs : cs.toList, hlen with
  | [v0, v1, v2, v3, v4], _ =>
  rw [hcs] at hf'
  have g0 : DataW.trod enc Tryd.prog W base spare held n 3 (([v0, v1, v2, v3, v4].drop 0).take (Tryd.prog.cellsOf 3)) = xs[0]? := hf' 0 _ rfl
  have g1 : DataW.trod enc Tryd.prog W base spare held n 3 (([v0, v1, v2, v3, v4].drop 1).take (Tryd.prog.cellsOf 3)) = xs[1]? := hf' 1 _ rfl
  have g2 : DataW.trod enc Tryd.prog W base spare held n 3 (([v0, v1, v2, v3, v4].drop 2).take (Tryd.prog.cellsOf 3)) = xs[2]? := hf' 2 _ rfl
  have g3 : DataW.trod enc Tryd.prog W base spare held n 3 (([v0, v1, v2, v3, v4].drop 3).take (Tryd.prog.cellsOf 3)) = xs[3]? := hf' 3 _ rfl
  have g4 : DataW.trod enc Tryd.prog W base spare held n 3 (([v0, v1, v2, v3, v4].drop 4).take (Tryd.prog.cellsOf 3)) = xs[4]? := hf' 4 _ rfl
  rw [cellsC_int] at g0 g1 g2 g3 g4
  match xs, hxs with
  | [y0, y1, y2, y3, y4], _ =>
  obtain ⟨a0, r0, l0⟩ := reads_int Tryd.underlying3 enc W base spare held n [v0] y0 g0
  obtain ⟨a1, r1, l1⟩ := reads_int Tryd.underlying3 enc W base spare held n [v1] y1 g1
  obtain ⟨a2, r2, l2⟩ := reads_int Tryd.underlying3 enc W base spare held n [v2] y2 g2
  obtain ⟨a3, r3, l3⟩ := reads_int Tryd.underlying3 enc W base spare held n [v3] y3 g3
  obtain ⟨a4, r4, l4⟩ := reads_int Tryd.underlying3 enc W base spare held n [v4] y4 g4
  have ecs : cs = #[v0, v1, v2, v3, v4] := by rw [← hcs]
  have e0 : v0 = .int .i64 a0 := r0
  have e1 : v1 = .int .i64 a1 := r1
  have e2 : v2 = .int .i64 a2 := r2
  have e3 : v3 = .int .i64 a3 := r3
  have e4 : v4 = .int .i64 a4 := r4
  refine ⟨⟨a0, a1, a2, a3, a4⟩, ?_, l0, l1, l2, l3, l4⟩
  rw [ecs, e0, e1, e2, e3, e4]
end Go.Proofs.YtgclfmdpapadnaaDoor

namespace Go.Proofs.YtgclfmdpapadnaaDoor
open Go Go.Proofs Fm Go.RowKit

/-- Block b is a map of numbers to numbers: what stands where, and how many there are (at most n). -/
def IMap (w : World) (b n : Nat) (f : Int → Option Int) (sz : Nat) : Prop :=
  ∃ D : DataW Unit, w.ownsMap Tryd.prog 3 (plainElem Tryd.prog 3) b n D ∧ Maps.size D = sz ∧ (∀ s, Maps.has D (.int .i64 s) = (f s).isSome) ∧ ∀ s, D.atKey (.int .i64 s) (.lit (.int .i64 0)) = .lit (.int .i64 ((f s).getD 0))
theorem zero_int6 (w : World) : (zeroValue 3).run Tryd.prog w = .ok (.int .i64 0) w := Tryd.zeroValue3 w
theorem key_int6 {s : Int} (hs : isI64 s) : keyOf Tryd.prog 3 (.int .i64 s) = some (.int .i64 s) := by
  refine Maps.keyOf_int_mk Tryd.underlying3 ?_
  unfold isI64 at hs
  simp [Lit.wf, IntKind.min, IntKind.max, IntKind.signed, IntKind.bits]
  omega
theorem IMap.new (w : World) : IMap (w.alloc (.map #[] 0)) w.heap.size 0 (fun _ => none) 0 :=
  ⟨.map [], World.ownsMap_made w _ _ _, rfl, fun _ => rfl, fun _ => rfl⟩
theorem IMap.kept {w w' : World} {b n : Nat} {f : Int → Option Int} {sz : Nat} {row : Option Nat} (h : IMap w b n f sz) (hg : w.grownBy w' row) (hne : row ≠ some b) : IMap w' b n f sz := by
  obtain ⟨D, h1, h2⟩ := h
  exact ⟨D, h1.kept hg (fun e => hne e.symm), h2⟩
theorem IMap.ext {w w' : World} {b n : Nat} {f : Int → Option Int} {sz : Nat} (h : IMap w b n f sz) (hE : Ext w w') : IMap w' b n f sz := h.kept hE.grownBy (by simp)
theorem IMap.lt {w : World} {b n : Nat} {f : Int → Option Int} {sz : Nat} (h : IMap w b n f sz) : b < w.heap.size := by
  obtain ⟨D, h1, _⟩ := h
  exact h1.lt
theorem IMap.look {w : World} {b n : Nat} {f : Int → Option Int} {sz : Nat} (h : IMap w b n f sz) {s : Int} (hs : isI64 s) :
    (Instr.lookup 52 (.map (some b)) (.int .i64 s) false).run Tryd.prog w = .ok (.int .i64 ((f s).getD 0)) w := by
  obtain ⟨D, h1, h2, h3, h4⟩ := h
  obtain ⟨c, hrun, hat, _⟩ := h1.lookup_int (Maps.int_keyed Tryd.underlying3) Tryd.underlying52 Tryd.underlying3 (zero_int6 w) (key_int6 hs)
  rw [h4 s] at hat
  have hc : (f s).getD 0 = c := by
    simp only [DataW.lit.injEq, Lit.int.injEq] at hat
    exact hat.2
  rw [hrun, hc]
theorem IMap.len {w : World} {b n : Nat} {f : Int → Option Int} {sz : Nat} (h : IMap w b n f sz) (ty : TypeId) : (Builtin.len_ #[52] ty #[.map (some b)]).run Tryd.prog w = .ok (.int .i64 sz) w := by
  obtain ⟨D, h1, h2, _⟩ := h
  rw [h1.len Tryd.underlying52 ty, h2]
end Go.Proofs.YtgclfmdpapadnaaDoor

open Go.RowKit Go.Shelf
namespace Fm
open Go Go.RowKit
end Fm
namespace Go.Proofs.YtgclfmdpapadnaaDoor
open Go Go.Proofs Fm
attribute [local go_sem] Oper.semAt_some

/-- Numbers of one's own as what is appended. -/
theorem src_ints {w : World} {base : Nat} {v : Value} {l : List Int} (h : OwnN 3 base w v l) : Src Tryd.prog 1 33 v l.length (l.map (.int .i64)) w := by
  have hone : ∀ u, u ∈ l.map (Value.int .i64) → u.oneCell' = true := fun u hu => by
    obtain ⟨x, _, rfl⟩ := List.mem_map.1 hu
    rfl
  have hc := fun g => World.ownsRow.cells h (g := g)
  have hl := h.1
  rcases h.2 with ⟨rfl, h0⟩ | ⟨g, cap, cur, rfl, -⟩
  · have : l.map (Value.int .i64) = [] := List.eq_nil_of_length_eq_zero (by omega)
    rw [this, h0]
    exact Src.ofNil w Tryd.underlying33 0
  · exact Src.ofSlice w Tryd.underlying33 _ _ _ _ hl (fun j u hu => hc g rfl j u hu) hone
end Go.Proofs.YtgclfmdpapadnaaDoor

open Go.RowKit Go.Shelf
namespace Go.Proofs.YtgclfmdpapadnaaDoor
open Go Go.Proofs Fm
attribute [local go_sem] Oper.semAt_some

set_option maxRecDepth 100000 in
set_option maxHeartbeats 4000000 in
theorem rown_any (l : List Nd) (hl : l.length ≤ 1000000) (fl ow : Int) (w : World) (v : Value) (h : ndE.Row w l v) :
    Calls Tryd.prog 83 #[v, .int .i64 fl, .int .i64 ow] w fun e w' => ∃ v', e = .returned v' ∧ OwnN 3 w.heap.size w' v' (natsI (ownIx l fl ow)) ∧ Ext w w' := by
  obtain ⟨i0, hi, hz0, hz1, hz2⟩ := info_parts info_intE
  have HR := Lib.hid h
  obtain ⟨a, c, rfl, hc1, hc2⟩ := h.slice
  clear h
  go_enter Tryd.func83, Tryd.ntmps83
  go_wp2_with fail
  generalize hLN : l.length = LN at *
  have HLN := Lib.hid hLN
  clear hLN
  go_loopw [7, 8] (fun o i wr => ∃ (j : Nat) (A : Option Addr) (C : Nat), j ≤ LN ∧ i = .int .i64 j ∧ o = .slice A (natsI (ownTo l fl ow j)).length C ∧ Hid (Ext w wr) ∧ Hid (OwnN 3 w.heap.size wr (.slice A (natsI (ownTo l fl ow j)).length C) (natsI (ownTo l fl ow j)))) (fun _ i _ => LN - (intOf i).toNat)
  case atStart => exact ⟨0, none, 0, by omega, rfl, rfl, Lib.hid (Ext.refl w), Lib.hid (OwnN.nil _ _ _)⟩
  case round =>
    obtain ⟨j, A, C, hj, rfl, rfl, HE, HO⟩ := hrel
    obtain ⟨S, hS⟩ : ∃ S, S = natsI (ownTo l fl ow j) := ⟨_, rfl⟩
    rw [← hS] at HO ⊢
    have hSl : S.length ≤ j := by rw [hS, natsI_len]; exact ownTo_len _ _ _ _
    have HS := Lib.hid hS
    clear hS
    by_cases hlt : j < LN
    case neg =>
      have HX := Lib.hid (show S = natsI (ownIx l fl ow) by rw [HS.out]; unfold ownIx; rw [HLN.out, show j = LN by omega])
      go_wp2
      go_ret
      exact ⟨_, rfl, by rw [← HX.out]; exact HO.out, HE.out⟩
    have hi' : j < l.length := by have := HLN.out; omega
    obtain ⟨g, off, rfl, hb, aa, ma, ca, k0, n0, s0, d0, ⟨x0, x1, x2, x3, x4, x5, x6, x7, x8, x9, x10, x11, x12, x13, x14, x15⟩, hnv⟩ := nd_at16 HR.out HE.out j hi'
    have hj0 : (0 : Int) ≤ (j : Int) := by omega
    have hj1 : (j : Int) < (LN : Int) := by omega
    have HT := Lib.hid (ownTo_succ l fl ow j)
    have HQ := Lib.hid (show ownB l fl ow j = (decide (l[j].flow = fl) && decide (l[j].owner = ow)) by unfold ownB; rw [nthF_at hi'])
    obtain ⟨nf, hnf⟩ : ∃ nf, nf = l[j].flow := ⟨_, rfl⟩
    obtain ⟨no, hno⟩ : ∃ no, no = l[j].owner := ⟨_, rfl⟩
    rw [← hnf] at x3 HQ
    rw [← hno] at x4 HQ
    clear hnf hno x0 x1 x2 x5 x6 x7 x8 x9 x10 x11 x12 x13 x14 x15 hnv
    have hz := HE.out.size
    by_cases h1 : nf = fl
    · have t1 : (nf == fl) = true := by simp [h1]
      by_cases h2 : no = ow
      · have t2 : (no == ow) = true := by simp [h2]
        have HX := Lib.hid (show natsI (ownTo l fl ow (j + 1)) = S ++ [(j : Int)] by rw [HT.out, HQ.out, h1, h2, HS.out]; simp [natsI])
        clear HT HQ h1 h2
        go_wp2_with (at_builtin; refine wpList_append_own _ rfl _ _ 33 rfl w.heap.size 3 i0 (.int .i64 0) 1 8 Tryd.underlying33 hi hz0 hz1 hz2 rfl (by decide) _ _ _ rfl (World.ownsRow.alloc HO.out _) ⟨wr.heap.size, 0, none⟩ 1 1 [.int .i64 j] rfl rfl (cell_one_new _ _ _) (by simp [Value.oneCell']) (by unfold maxLen; omega) (by omega) (by simp; omega) ?_; intro v' w5 hown' hgrow _)
        obtain ⟨g', cap', rfl⟩ := ownsRow_succ hown'
        have HE5 := Lib.hid ((HE.out.alloc (.cells #[.int .i64 (j : Int)] 3)).grown hgrow (fun k e => (World.ownsRow.lt HO.out k e).1))
        have HO5 := Lib.hid (show OwnN 3 w.heap.size w5 (.slice (some ⟨g', 0, none⟩) (natsI (ownTo l fl ow (j + 1))).length cap') (natsI (ownTo l fl ow (j + 1))) by rw [HX.out]; unfold OwnN; simpa using hown')
        have HLX := Lib.hid (show S.length + 1 = (natsI (ownTo l fl ow (j + 1))).length by rw [HX.out]; simp)
        clear hown' hgrow x3 x4 t1 t2
        go_wp2
        go_roundw
        case rel => exact ⟨j + 1, _, _, by omega, by go_num, by rw [HLX.out], HE5, HO5⟩
        case measure => simp [intOf]; omega
      · have t2 : (no == ow) = false := by simp [h2]
        have HX := Lib.hid (show natsI (ownTo l fl ow (j + 1)) = S by rw [HT.out, HQ.out, HS.out]; simp [h2])
        have HO5 := Lib.hid (show OwnN 3 w.heap.size wr (.slice A (natsI (ownTo l fl ow (j + 1))).length C) (natsI (ownTo l fl ow (j + 1))) by rw [HX.out]; exact HO.out)
        clear HT HQ h1 h2
        go_wp2
        go_roundw
        case rel => exact ⟨j + 1, _, _, by omega, by go_num, by rw [HX.out], HE, HO5⟩
        case measure => simp [intOf]; omega
    · have t1 : (nf == fl) = false := by simp [h1]
      have HX := Lib.hid (show natsI (ownTo l fl ow (j + 1)) = S by rw [HT.out, HQ.out, HS.out]; simp [h1])
      have HO5 := Lib.hid (show OwnN 3 w.heap.size wr (.slice A (natsI (ownTo l fl ow (j + 1))).length C) (natsI (ownTo l fl ow (j + 1))) by rw [HX.out]; exact HO.out)
      clear HT HQ h1
      go_wp2
      go_roundw
      case rel => exact ⟨j + 1, _, _, by omega, by go_num, by rw [HX.out], HE, HO5⟩
      case measure => simp [intOf]; omega
set_option maxRecDepth 100000 in
set_option maxHeartbeats 4000000 in
/-- A place's owners, from the reference. -/
theorem rchain16_at (l : List Nd) (hO : RightO l) (hl : l.length ≤ 1000000) (w0 : World) (v : Value) (h : ndE.Row w0 l v) : ∀ (p : Nat) (_ : p < l.length) (w : World) (_ : Ext w0 w),
    Calls Tryd.prog 80 #[v, .int .i64 p] w fun e w' => ∃ v', e = .returned v' ∧ OwnN 3 w.heap.size w' v' (natsI (chainO l p)) ∧ Ext w w' := by
  intro p
  induction p using Nat.strongRecOn with
  | ind p ih =>
    intro hp w hE
    have h1 := hO p hp
    obtain ⟨a, c, rfl, hc1, hc2⟩ := h.slice
    obtain ⟨g, off, rfl, hb, aa, ma, ca, k0, n0, s0, d0, ⟨x0, x1, x2, x3, x4, x5, x6, x7, x8, x9, x10, x11, x12, x13, x14, x15⟩, hnv⟩ := nd_at16 h hE p hp
    have hp0 : (0 : Int) ≤ (p : Int) := by omega
    have hp1 : (p : Int) < (l.length : Int) := by omega
    obtain ⟨no, hno⟩ : ∃ no, no = l[p].owner := ⟨_, rfl⟩
    rw [← hno] at x4
    by_cases h0 : 0 ≤ l[p].owner
    · obtain ⟨o, ho⟩ : ∃ o : Nat, l[p].owner = (o : Int) := ⟨l[p].owner.toNat, by omega⟩
      have IH := Lib.hid (fun X (hX : Ext w X) => ih o (by omega) (by omega) X (hE.trans hX))
      have HC := Lib.hid (show natsI (chainO l p) = (o : Int) :: natsI (chainO l o) by rw [chainO_some hO hp ho]; rfl)
      have hcl : (natsI (chainO l o)).length ≤ 1000000 := by rw [natsI_len]; have := chainO_len hO o (by omega); omega
      rw [hno, ho] at x4
      have ho0 : (0 : Int) ≤ (o : Int) := by omega
      have HD := Lib.hid (Ext.refl w).drew
      have hgw : g < w.heap.size := Nat.lt_of_lt_of_le hb hE.size
      have HS : Hid (∀ w', Ext w w' → w'.cell? ⟨g, off + p * 16 + 4, none⟩ = some (.int .i64 o)) := Lib.hid (fun w' hw => (hw.cell (p := ⟨g, off + p * 16 + 4, none⟩) (Nat.lt_of_lt_of_le hb hE.size)).trans x4)
      have HLt : Hid (∀ Y X, Ext w Y → Ext (Y.alloc (.cells #[.int .i64 (o : Int)] 3)) X → X.ownsRow w.heap.size 3 1 (.slice (some ⟨Y.heap.size, 0, none⟩) 1 1) 1 [.int .i64 o]) := Lib.hid (fun Y X hY hX => hX.own (World.ownsRow_lit Y #[.int .i64 (o : Int)] 1 hY.size (by unfold maxLen; omega) rfl))
      clear x0 x1 x2 x3 x5 x6 x7 x8 x9 x10 x11 x12 x13 x14 x15 hnv hno h0 ho h1 h hE ih
      go_enter Tryd.func80, Tryd.ntmps80
      go_upto_region 3 with (fail)
      go_region_law (first
        | (refine step_appendS rfl _ _ 33 (by rfl) elemint_F w.heap.size _ 1 _ (by rfl) (by first | exact HLt.out _ _ (Ext.refl _) HE4.out | exact HLt.out _ _ (Ext.refl _) ((Ext.refl _).drew.trans HE4.out) | exact HLt.out _ _ HD.out HE4.out | exact HLt.out _ _ HF4.out (Ext.refl _) | exact HLt.out _ _ HF4.out (Ext.refl _).drew) _ _ _ (by rfl) (by first | exact src_ints HC4.out | exact src_ints (HC4.out.ext ((Ext.refl _).alloc _)) | exact src_ints (HC4.out.ext ((Ext.refl _).alloc _).drew)) (by unfold maxLen; omega) (by omega) (by first | exact HF4.out.size | exact ((HF4.out.alloc _).size)) ?_
           intro A5 C5 w5 hown5 hgrow5 _)
        | (go_simp
           go_at_call 80
           refine (IH.out _ ?_).mono ?_
           · first | exact Ext.refl _ | exact (Ext.refl _).drew | exact (Ext.refl _).alloc _ | exact (Ext.refl _).drew.alloc _ | exact ((Ext.refl _).alloc _).drew
           rintro e w4 ⟨v4, rfl, hC4, hE4⟩
           have HC4 := Lib.hid hC4
           have HE4 := Lib.hid hE4
           have HF4 : Hid (Ext w w4) := Lib.hid (Ext.trans (by first | exact Ext.refl _ | exact (Ext.refl _).drew | exact (Ext.refl _).alloc _ | exact (Ext.refl _).drew.alloc _ | exact ((Ext.refl _).alloc _).drew) hE4)
           obtain ⟨A4, C4, rfl⟩ := ownsRow_sl hC4
           have x5 := HS.out _ HF4.out
           clear hC4 hE4))
      all_goals
        have hsz := HF4.out.size
        have HE5 := Lib.hid (show Ext w w5 by first | exact HF4.out.grown hgrow5 (fun k e => by cases e; first | exact Nat.le_refl _ | exact hsz | (simp; omega)) | exact (HF4.out.alloc _).grown hgrow5 (fun k e => by cases e; first | exact Nat.le_refl _ | exact hsz | (simp; omega)))
        have HO5 := Lib.hid (show OwnN 3 w.heap.size w5 (.slice A5 (1 + (natsI (chainO l o)).length) C5) (natsI (chainO l p)) by
          rw [HC.out]
          unfold OwnN
          rw [List.length_cons, Nat.add_comm, List.map_cons]
          rw [Nat.add_comm] at hown5
          exact hown5)
        clear hown5 hgrow5 HC4 HE4 HF4
        go_wp2
        go_ret
        exact ⟨_, rfl, HO5.out, HE5.out⟩
    · have HC := Lib.hid (show natsI (chainO l p) = [] by rw [chainO_none hp (Int.not_le.1 h0)]; rfl)
      have h2 : no < 0 := by rw [hno]; omega
      clear x0 x1 x2 x3 x5 x6 x7 x8 x9 x10 x11 x12 x13 x14 x15 hnv hno h0 h1 h hE ih
      go_enter Tryd.func80, Tryd.ntmps80
      go_wp2
      go_ret
      exact ⟨_, rfl, by rw [HC.out]; exact OwnN.nil _ _ _, Ext.refl w⟩
theorem rchain16_any (l : List Nd) (hO : RightO l) (hl : l.length ≤ 1000000) (i : Int) (hi : placeF l i = true) (w : World) (v : Value) (h : ndE.Row w l v) :
    Calls Tryd.prog 80 #[v, .int .i64 i] w fun e w' => ∃ v', e = .returned v' ∧ OwnN 3 w.heap.size w' v' (natsI (chainO l i.toNat)) ∧ Ext w w' := by
  obtain ⟨h0, h1⟩ : 0 ≤ i ∧ i < l.length := by unfold placeF at hi; simpa using hi
  obtain ⟨p, rfl⟩ : ∃ p : Nat, i = (p : Int) := ⟨i.toNat, by omega⟩
  exact rchain16_at l hO hl w v h p (by omega) w (Ext.refl w)
set_option maxRecDepth 100000 in
set_option maxHeartbeats 4000000 in
theorem rdeep16_any (l : List Nd) (hO : RightO l) (hl : l.length ≤ 1000000) (i : Int) (w : World) (v : Value) (h : ndE.Row w l v) :
    Calls Tryd.prog 62 #[v, .int .i64 i] w fun e w' => e = .returned (.int .i64 (deepF l i)) ∧ Ext w w' := by
  by_cases hp : placeF l i = true
  · have HC := Lib.hid (rchain16_any l hO hl i hp w v h)
    have HX := Lib.hid (show deepF l i = ((chainO l i.toNat).length : Int) + 1 by unfold deepF; rw [if_pos hp])
    obtain ⟨h0, h1⟩ : 0 ≤ i ∧ i < l.length := by unfold placeF at hp; simpa using hp
    have hcl := chainO_len hO i.toNat (by omega)
    obtain ⟨a, c, rfl, hc1, hc2⟩ := h.slice
    clear h hp
    go_enter Tryd.func62, Tryd.ntmps62
    go_wp2_with fail
    refine HC.out.mono ?_
    rintro e w' ⟨v', rfl, hn, hE⟩
    obtain ⟨A, C, rfl⟩ := ownsRow_sl hn
    have HE := Lib.hid hE
    clear HC hn hE
    rw [natsI_len]
    generalize (chainO l i.toNat).length = CN at *
    go_wp2
    go_ret
    exact ⟨by rw [HX.out]; rfl, HE.out⟩
  · have HX := Lib.hid (show deepF l i = 0 by unfold deepF; rw [if_neg hp])
    obtain ⟨a, c, rfl, hc1, hc2⟩ := h.slice
    have hd : i < 0 ∨ (0 ≤ i ∧ (l.length : Int) ≤ i) := by
      unfold placeF at hp
      simp at hp
      omega
    clear h hp
    rcases hd with hd | ⟨hd0, hd⟩
    all_goals
      go_enter Tryd.func62, Tryd.ntmps62
      go_wp2
      go_ret
      exact ⟨by rw [HX.out]; rfl, Ext.refl w⟩
set_option maxRecDepth 100000 in
set_option maxHeartbeats 4000000 in
theorem rscope17_any (l : List Nd) (hl : l.length ≤ 1000000) (i : Int) (w : World) (v : Value) (h : ndE.Row w l v) :
    Calls Tryd.prog 67 #[v, .int .i64 i] w fun e w' => ∃ v', e = .returned v' ∧ OwnN 3 w.heap.size w' v' (natsI (scopeF l i)) ∧ Ext w w' := by
  have HR := Lib.hid h
  have HX := Lib.hid (show scopeF l i = if placeF l i then ownIx l (nthF l i).flow (nthF l i).owner else [] from rfl)
  have HW := Lib.hid (fun X (hE : Ext w X) => rown_any l hl (nthF l i).flow (nthF l i).owner X v (h.ext hE))
  obtain ⟨a, c, rfl, hc1, hc2⟩ := h.slice
  clear h
  by_cases hpl : placeF l i = true
  · obtain ⟨hm0, hm1⟩ : 0 ≤ i ∧ i < l.length := by unfold placeF at hpl; simpa using hpl
    obtain ⟨p, rfl⟩ : ∃ p : Nat, i = (p : Int) := ⟨i.toNat, by omega⟩
    have hp : p < l.length := by omega
    have HY := Lib.hid (show scopeF l p = ownIx l l[p].flow l[p].owner by rw [HX.out, hpl, if_pos rfl, nthF_at hp])
    rw [nthF_at hp] at HW
    clear hpl HX
    obtain ⟨g, off, rfl, hg, aa, ma, ca, k0, n0, s0, d0, ⟨x0, x1, x2, x3, x4, x5, x6, x7, x8, x9, x10, x11, x12, x13, x14, x15⟩, hnv⟩ := nd_at16 HR.out (Ext.refl w) p hp
    obtain ⟨nf, hnf⟩ : ∃ nf, nf = l[p].flow := ⟨_, rfl⟩
    obtain ⟨no, hno⟩ : ∃ no, no = l[p].owner := ⟨_, rfl⟩
    rw [← hnf] at x3 HW HY
    rw [← hno] at x4 HW HY
    have HS : Hid (∀ w', Ext w w' → w'.cell? ⟨g, off + p * 16 + 3, none⟩ = some (.int .i64 nf) ∧ w'.cell? ⟨g, off + p * 16 + 4, none⟩ = some (.int .i64 no)) := Lib.hid (fun w' hE => ⟨(hE.cell (p := ⟨g, off + p * 16 + 3, none⟩) hg).trans x3, (hE.cell (p := ⟨g, off + p * 16 + 4, none⟩) hg).trans x4⟩)
    have HD0 := Lib.hid (Ext.refl w)
    clear x0 x1 x2 x3 x4 x5 x6 x7 x8 x9 x10 x11 x12 x13 x14 x15 hnv HR hnf hno
    go_enter Tryd.func67, Tryd.ntmps67
    go_upto_region 3 with (fail)
    go_region_held3 (fun w' => w'.cell? ⟨g, off + p * 16 + 3, none⟩ = some (.int .i64 nf) ∧ w'.cell? ⟨g, off + p * 16 + 4, none⟩ = some (.int .i64 no))
      (first | exact HS.out _ (Ext.drew HD0.out) | exact HS.out _ HD0.out | exact HS.out _ E1.out)
      (first | (go_at_call 83; refine (HW.out _ (Ext.drew HD0.out)).mono ?_; rintro e z1 ⟨v', rfl, hN, hE⟩; have E1 := Lib.hid ((Ext.drew HD0.out).trans hE); obtain ⟨A', C', rfl⟩ := ownsRow_sl hN; have N1 := Lib.hid (OwnN.mono hN (Ext.drew HD0.out).size); clear hE hN))
    all_goals go_wp2
    all_goals go_ret
    all_goals exact ⟨_, rfl, by rw [HY.out]; exact N1.out, E1.out⟩
  · have HY := Lib.hid (show scopeF l i = [] by rw [HX.out, if_neg hpl])
    have hd : i < 0 ∨ (0 ≤ i ∧ (l.length : Int) ≤ i) := by
      unfold placeF at hpl
      simp at hpl
      omega
    clear hpl HX HW HR
    rcases hd with hd | ⟨hd0, hd⟩
    all_goals
      go_enter Tryd.func67, Tryd.ntmps67
      go_wp2
      go_ret
      exact ⟨_, rfl, by rw [HY.out]; exact OwnN.nil _ _ _, Ext.refl w⟩
end Go.Proofs.YtgclfmdpapadnaaDoor

namespace Fm
open Go Go.RowKit

/-- The first of some places that has a name. -/
def firstIn (l : List Nd) (ps : List Nat) (s : List UInt8) : Option Nat := if s = [] then none else ps.find? (fun i => decide ((nthF l (i : Int)).name = s))
def ownBp (l : List Nd) (f o : Int) (i : Nat) : Bool := decide ((nthF l (i : Int)).flow = f) && decide ((nthF l (i : Int)).owner = o)
theorem dec_and2 (a b : Bool) : decide (a = true ∧ b = true) = (a && b) := by cases a <;> cases b <;> rfl
theorem firstIn_own (l : List Nd) (f o : Int) (s : List UInt8) : firstIn l ((List.range l.length).filter (ownBp l f o)) s = firstK l f o s := by
  unfold firstIn firstK
  by_cases hs : s = []
  · rw [if_pos hs, if_pos hs]
  rw [if_neg hs, if_neg hs, List.find?_filter]
  have hk : ∀ (i : Nat) (hi : i < l.length), (ownBp l f o i && decide ((nthF l (i : Int)).name = s)) = isK f o s l[i] := by
    intro i hi
    unfold ownBp isK
    rw [nthF_at hi, Bool.and_assoc]
  cases h : l.findIdx? (isK f o s) with
  | some i =>
    rw [List.findIdx?_eq_some_iff_getElem] at h
    obtain ⟨hi, h1, h2⟩ := h
    rw [List.find?_range_eq_some]
    refine ⟨by rw [dec_and2, hk i hi]; exact h1, List.mem_range.2 hi, fun j hj => ?_⟩
    rw [dec_and2, hk j (by omega)]
    have := h2 j hj
    simpa using this
  | none =>
    rw [List.findIdx?_eq_none_iff] at h
    rw [List.find?_eq_none]
    intro i hi
    have hi := List.mem_range.1 hi
    rw [dec_and2, hk i hi]
    have := h l[i] (List.getElem_mem hi)
    simpa using this
theorem seenF_step {l : List Nd} (hO : RightO l) {p : Nat} (hp : p < l.length) (s : List UInt8) : seenF l p s = match firstK l l[p].flow l[p].owner s with
    | some k => some k
    | none => if l[p].owner < 0 then none else seenF l l[p].owner s := by
  have h1 := hO p hp
  have hpl : placeF l (p : Int) = true := by unfold placeF; simp; omega
  have e1 : seenF l p s = (ownersF l p).findSome? (fun o => firstK l l[p].flow o s) := by unfold seenF; rw [if_pos hpl, nthF_at hp]; rfl
  rw [e1]
  by_cases h0 : l[p].owner < 0
  · have e2 : ownersF l p = [l[p].owner] := by
      unfold ownersF
      rw [chainO_none hp h0, show l[p].owner = -1 by omega]
      rfl
    rw [e2, List.findSome?_cons]
    cases firstK l l[p].flow l[p].owner s with
    | some k => rfl
    | none => simp [h0]
  · obtain ⟨o, ho⟩ : ∃ o : Nat, l[p].owner = (o : Int) := ⟨l[p].owner.toNat, by omega⟩
    have hol : o < l.length := by omega
    have e2 : ownersF l p = (o : Int) :: ownersF l o := by
      unfold ownersF
      rw [chainO_some hO hp ho]
      rfl
    have hpo : placeF l (o : Int) = true := by unfold placeF; simp; omega
    have e3 : seenF l (o : Int) s = (ownersF l o).findSome? (fun x => firstK l l[o].flow x s) := by unfold seenF; rw [if_pos hpo, nthF_at hol]; rfl
    rw [e2, List.findSome?_cons, ho, e3, h1.2.2 o ho hol]
    cases firstK l l[p].flow (o : Int) s with
    | some k => rfl
    | none => simp; intro h; omega
/-- As a number: -1: nobody. -/
def optI (x : Option Nat) : Int := match x with
  | some k => (k : Int)
  | none => -1
theorem seenF_noP {l : List Nd} {i : Int} (h : placeF l i = false) (s : List UInt8) : seenF l i s = none := by unfold seenF; rw [if_neg (by rw [h]; decide)]
theorem refsF_miss {l : List Nd} {ow : Int} {items : List It} {s : List UInt8} (h : s = [] ∨ ∀ (j : Nat) (hj : j < items.length), items[j].name ≠ s) : refsF l ow items s = (-1, if 0 ≤ ow then optI (seenF l ow s) else -1) := by
  rcases refsF_cases l ow items s with ⟨i, hi, -, h1, h2, -⟩ | ⟨-, ⟨k, h0, h1, h2⟩ | ⟨h1, h2⟩⟩
  · rcases h with h | h
    · exact absurd h h2
    · exact absurd h1 (h i hi)
  · rw [h2, if_pos h0, h1]; rfl
  · rw [h2]
    rcases h1 with h1 | h1
    · rw [if_neg (by omega)]
    · split
      · rw [h1]; rfl
      · rfl
theorem refsF_hit {l : List Nd} {ow : Int} {items : List It} {s : List UInt8} {i : Nat} (hi : i < items.length) (h1 : items[i].name = s) (h2 : ∀ (j : Nat) (hj : j < i), (items[j]'(by omega)).name ≠ s) (h0 : s ≠ []) : refsF l ow items s = ((i : Int), -1) := by
  have : items.findIdx? (fun x => decide (x.name = s)) = some i := by
    rw [List.findIdx?_eq_some_iff_getElem]
    exact ⟨hi, by simpa using h1, fun j hj => by simpa using h2 j hj⟩
  unfold refsF
  rw [this]
  simp only
  rw [if_pos h0]
theorem any_take {α : Type} {p : α → Bool} {l : List α} {j : Nat} (hj : j < l.length) : (l.take (j + 1)).any p = ((l.take j).any p || p l[j]) := by
  rw [List.take_succ_eq_append_getElem hj, List.any_append]; simp
theorem any_hit {α : Type} {p : α → Bool} {l : List α} {j : Nat} (hj : j < l.length) (h : p l[j] = true) : l.any p = true := List.any_eq_true.2 ⟨_, List.getElem_mem hj, h⟩
theorem any_end {α : Type} {p : α → Bool} {l : List α} {j : Nat} (hj : j = l.length) (h : (l.take j).any p = false) : l.any p = false := by rwa [hj, List.take_length] at h
theorem wide_alt (W : Int) (items : List It) : wideF W items = (items.any (fun x => isMapI x && decide (W < x.width)) || decide (W < (items.length : Int))) := by unfold wideF; rw [Bool.or_comm]
def deepOne (D d : Int) (x : It) : Bool := decide (D < d) || (isMapI x && decide (D < d + 1))
theorem deep_alt (D : Int) (l : List Nd) (ow : Int) (items : List It) : deepB D l ow items = items.any (deepOne D (deepF l ow + 1)) := by
  rw [Bool.eq_iff_iff, List.any_eq_true]
  unfold deepB deepOne
  rw [Bool.or_eq_true, Bool.and_eq_true, Bool.and_eq_true, List.any_eq_true]
  simp only [decide_eq_true_eq]
  constructor
  · rintro (⟨h1, h2⟩ | ⟨⟨x, hx, hm⟩, h⟩)
    · obtain ⟨x, hx⟩ := List.exists_mem_of_length_pos h1
      exact ⟨x, hx, by simp [h2]⟩
    · exact ⟨x, hx, by simp [hm]; omega⟩
  · rintro ⟨x, hx, h⟩
    rw [Bool.or_eq_true, decide_eq_true_eq, Bool.and_eq_true, decide_eq_true_eq] at h
    rcases h with h | ⟨hm, h⟩
    · exact .inl ⟨List.length_pos_of_mem hx, h⟩
    · exact .inr ⟨⟨x, hx, hm⟩, by omega⟩
end Fm

open Go.RowKit Go.Shelf
namespace Go.Proofs.YtgclfmdpapadnaaDoor
open Go Go.Proofs Fm

theorem alls_take {l : List (List UInt8)} {j : Nat} (hj : j < l.length) (h : (l.take j).all nameB = true) (hx : nameB l[j] = true) : (l.take (j + 1)).all nameB = true := by
  rw [List.take_add_one, List.getElem?_eq_getElem hj, List.all_append, h]; simpa using hx
theorem alls_not {l : List (List UInt8)} {j : Nat} (hj : j < l.length) (hx : nameB l[j] = false) : l.all nameB = false := by
  rw [List.all_eq_false]; exact ⟨l[j], List.getElem_mem hj, by simp [hx]⟩
theorem allI_take {l : List It} {j : Nat} (hj : j < l.length) (h : (l.take j).all itB = true) (hx : itB l[j] = true) : (l.take (j + 1)).all itB = true := by
  rw [List.take_add_one, List.getElem?_eq_getElem hj, List.all_append, h]; simpa using hx
theorem allI_not {l : List It} {j : Nat} (hj : j < l.length) (hx : itB l[j] = false) : l.all itB = false := by
  rw [List.all_eq_false]; exact ⟨l[j], List.getElem_mem hj, by simp [hx]⟩

set_option maxHeartbeats 4000000 in
theorem ritem_any (x : It) (w : World) (v : Value) (h : ItV w x v) :
    Calls Tryd.prog 61 #[v] w fun e w' => e = .returned (.bool (itB x)) ∧ Ext w w' := by
  obtain ⟨a, m, c, rfl, hr, ln, lo, iw, iq⟩ := h
  have hm : m = x.after.length := by
    obtain ⟨_, _, e, _⟩ := hr.slice
    injection e
  have HR := Lib.hid hr
  have HLn := Lib.hid ln
  have HLo := Lib.hid lo
  clear hr ln lo
  have hss := str_size x.over
  have hml : m ≤ 9223372036854775807 := by rw [hm]; exact HR.out.length_le
  have HM := Lib.hid hm
  have HE0 := Lib.hid ((Ext.refl w).alloc (.cells #[.string (str x.name), .int .u8 (x.kind.toNat : Int), .slice a m c, .string (str x.over), .int .i64 x.width, .int .i64 x.quota] 27))
  have HB0 := Lib.hid (BoxL.new w [.string (str x.name), .int .u8 (x.kind.toNat : Int), .slice a m c, .string (str x.over), .int .i64 x.width, .int .i64 x.quota] 27)
  have hE0 := HE0.out
  have hb0 : BoxL (w.alloc (.cells #[.string (str x.name), .int .u8 (x.kind.toNat : Int), .slice a m c, .string (str x.over), .int .i64 x.width, .int .i64 x.quota] 27)) w.heap.size [.string (str x.name), .int .u8 (x.kind.toNat : Int), .slice a m c, .string (str x.over), .int .i64 x.width, .int .i64 x.quota] := HB0.out
  obtain ⟨p0, p1, p2, p3, p4, p5⟩ := hb0.six
  clear HE0 HB0
  cases hn : nameB x.name with
  | false =>
    have HX := Lib.hid (itB_noname hn)
    have HN := Lib.hid hn
    clear hn hm hb0
    go_enter Tryd.func61, Tryd.ntmps61
    go_wp2_with fail
    generalize w.alloc (.cells #[.string (str x.name), .int .u8 (x.kind.toNat : Int), .slice a m c, .string (str x.over), .int .i64 x.width, .int .i64 x.quota] 27) = W0 at *
    refine (rname_any x.name HLn.out W0).mono ?_
    rw [HN.out]
    rintro e w1 ⟨rfl, rfl⟩
    go_wp2
    go_ret
    exact ⟨by rw [HX.out]; rfl, hE0⟩
  | true =>
  by_cases ha : x.after.length ≤ 20
  case neg =>
    have HX := Lib.hid (itB_nolen ha)
    have HN := Lib.hid hn
    have ha' : (20 : Int) < (m : Int) := by omega
    clear hn hm ha hb0
    go_enter Tryd.func61, Tryd.ntmps61
    go_wp2_with fail
    generalize w.alloc (.cells #[.string (str x.name), .int .u8 (x.kind.toNat : Int), .slice a m c, .string (str x.over), .int .i64 x.width, .int .i64 x.quota] 27) = W0 at *
    refine (rname_any x.name HLn.out W0).mono ?_
    rw [HN.out]
    rintro e w1 ⟨rfl, rfl⟩
    go_wp2
    go_ret
    exact ⟨by rw [HX.out]; rfl, hE0⟩
  have ha' : ¬ (20 : Int) < (m : Int) := by omega
  by_cases hq0 : 0 ≤ x.quota
  case neg =>
    have HX := Lib.hid (itB_noquota (fun h => hq0 h.1))
    have HN := Lib.hid hn
    have hq' : x.quota < 0 := by omega
    clear hn hm ha hq0 hb0
    go_enter Tryd.func61, Tryd.ntmps61
    go_wp2_with fail
    generalize w.alloc (.cells #[.string (str x.name), .int .u8 (x.kind.toNat : Int), .slice a m c, .string (str x.over), .int .i64 x.width, .int .i64 x.quota] 27) = W0 at *
    refine (rname_any x.name HLn.out W0).mono ?_
    rw [HN.out]
    rintro e w1 ⟨rfl, rfl⟩
    go_wp2
    go_ret
    exact ⟨by rw [HX.out]; rfl, hE0⟩
  by_cases hq1 : x.quota ≤ 400
  case neg =>
    have HX := Lib.hid (itB_noquota (fun h => hq1 h.2))
    have HN := Lib.hid hn
    have hq' : ¬ x.quota < 0 := by omega
    have hq2 : 400 < x.quota := by omega
    clear hn hm ha hq0 hq1 hb0
    go_enter Tryd.func61, Tryd.ntmps61
    go_wp2_with fail
    generalize w.alloc (.cells #[.string (str x.name), .int .u8 (x.kind.toNat : Int), .slice a m c, .string (str x.over), .int .i64 x.width, .int .i64 x.quota] 27) = W0 at *
    refine (rname_any x.name HLn.out W0).mono ?_
    rw [HN.out]
    rintro e w1 ⟨rfl, rfl⟩
    go_wp2
    go_ret
    exact ⟨by rw [HX.out]; rfl, hE0⟩
  have hq' : ¬ x.quota < 0 := by omega
  have hq2 : ¬ 400 < x.quota := by omega
  have HN := Lib.hid hn
  have HKh := Lib.hid (fun h => itB_rest hn ha ⟨hq0, hq1⟩ h)
  clear hn hm ha hq0 hq1 hb0
  go_enter Tryd.func61, Tryd.ntmps61
  go_wp2_with fail
  generalize w.alloc (.cells #[.string (str x.name), .int .u8 (x.kind.toNat : Int), .slice a m c, .string (str x.over), .int .i64 x.width, .int .i64 x.quota] 27) = W0 at *
  refine (rname_any x.name HLn.out W0).mono ?_
  rw [HN.out]
  rintro e w1 ⟨rfl, rfl⟩

  go_wp2_with fail
  go_loop [3] (fun i => ∃ j : Nat, j ≤ m ∧ i = .int .i64 j ∧ Hid ((x.after.take j).all nameB = true)) (fun i => m - (intOf i).toNat)
  case atStart => exact ⟨0, by omega, rfl, Lib.hid (by simp)⟩
  case round =>
    obtain ⟨j, hj, rfl, HA⟩ := hrel
    by_cases hlt : j < m
    · have hjl : j < x.after.length := by have := HM.out; omega
      obtain ⟨b, off, rfl, hb, hc, hs⟩ := str_at HR.out hE0 j hjl
      have HS := Lib.hid hs
      clear hs
      cases hy : nameB x.after[j] with
      | true =>
        have HY := Lib.hid hy
        have HA1 := Lib.hid (alls_take hjl HA.out hy)
        clear hy
        go_wp2_with fail
        refine (rname_any _ HS.out _).mono ?_
        rw [HY.out]
        rintro e w2 ⟨rfl, rfl⟩
        go_wp2
        go_round
        case rel => exact ⟨j + 1, by omega, by go_num, HA1⟩
        case measure => simp [intOf]; omega
      | false =>
        have HY := Lib.hid hy
        have HX := Lib.hid (itB_noafter (alls_not hjl hy))
        clear hy
        go_wp2_with fail
        refine (rname_any _ HS.out _).mono ?_
        rw [HY.out]
        rintro e w2 ⟨rfl, rfl⟩
        go_wp2
        go_ret
        exact ⟨by rw [HX.out]; rfl, hE0⟩
    · obtain rfl : j = m := by omega
      have HX := Lib.hid (HKh.out (by have := HA.out; rwa [HM.out, List.take_length] at this))
      clear HA HKh
      by_cases hk0 : x.kind = 0
      · have HX0 := Lib.hid (show itB x = ((str x.over).toList.isEmpty && (x.width == 0)) by rw [HX.out.trans (if_pos hk0), str_toList, Bool.eq_iff_iff]; simp)
        have f0 : ((x.kind.toNat : Int) == 0) = true := by rw [hk0]; rfl
        generalize (x.kind.toNat : Int) = K at *
        clear HX hk0
        go_wp2
        all_goals go_ret
        all_goals
          refine ⟨?_, hE0⟩
          have hX := HX0.out
          clear HX0
          rw [hX]
          simp_all
      have HX0 := Lib.hid (HX.out.trans (if_neg hk0))
      have f0 : ((x.kind.toNat : Int) == 0) = false := by rw [show (0 : Int) = ((0 : UInt8).toNat : Int) from rfl, u8_eq]; simpa using hk0
      clear HX
      by_cases hk1 : x.kind = 1
      case neg =>
        have f1 : ((x.kind.toNat : Int) == 1) = false := by rw [show (1 : Int) = ((1 : UInt8).toNat : Int) from rfl, u8_eq]; simpa using hk1
        have HX1 := Lib.hid (show itB x = false by rw [HX0.out]; simp [hk1])
        generalize (x.kind.toNat : Int) = K at *
        clear hk0 hk1 HX0
        go_wp2
        go_ret
        exact ⟨by rw [HX1.out]; rfl, hE0⟩
      have f1 : ((x.kind.toNat : Int) == 1) = true := by rw [hk1]; rfl
      have HX1 := Lib.hid (show itB x = (nameB x.over && (decide (0 ≤ x.width) && decide (x.width ≤ 40))) by rw [HX0.out]; simp [hk1])
      generalize (x.kind.toNat : Int) = K at *
      clear hk0 hk1 HX0
      go_wp2_with fail
      refine (rname_any x.over HLo.out _).mono ?_
      cases hv : nameB x.over with
      | false =>
        rintro e w3 ⟨rfl, rfl⟩
        have HX2 := Lib.hid (show itB x = false by rw [HX1.out, hv]; rfl)
        clear hv
        go_wp2
        go_ret
        exact ⟨by rw [HX2.out]; rfl, hE0⟩
      | true =>
        rintro e w3 ⟨rfl, rfl⟩
        have HX2 := Lib.hid (show itB x = (decide (0 ≤ x.width) && decide (x.width ≤ 40)) by rw [HX1.out, hv]; rfl)
        clear hv
        by_cases hw0 : 0 ≤ x.width
        · go_wp2
          go_ret
          refine ⟨?_, hE0⟩
          have hX := HX2.out
          clear HX2
          rw [hX]
          simp_all
        · go_wp2
          go_ret
          refine ⟨?_, hE0⟩
          have hX := HX2.out
          clear HX2
          rw [hX]
          simp_all
          try omega

set_option maxHeartbeats 1000000 in
theorem rfright_any (l : List It) (w : World) (v : Value) (h : itE.Row w l v) :
    Calls Tryd.prog 30 #[v] w fun e w' => e = .returned (.bool (fragB l)) ∧ Ext w w' := by
  obtain ⟨a, c, rfl, hlc, hcm⟩ := h.slice
  have HR := Lib.hid h
  have hlm : l.length ≤ 9223372036854775807 := by omega
  clear h
  go_enter Tryd.func30, Tryd.ntmps30
  go_wp2_with fail
  go_loopw [3] (fun i wr => ∃ j : Nat, j ≤ l.length ∧ i = .int .i64 j ∧ Hid ((l.take j).all itB = true) ∧ Ext w wr) (fun i _ => l.length - (intOf i).toNat)
  case atStart => exact ⟨0, by omega, rfl, Lib.hid (by simp), Ext.refl w⟩
  case round =>
    obtain ⟨j, hj, rfl, HA, hE⟩ := hrel
    by_cases hlt : j < l.length
    · obtain ⟨b, off, rfl, hb, aa, m, cc, c0, c1, c2, c3, c4, c5, hs⟩ := it_at HR.out hE j hlt
      have HS := Lib.hid (hs.ext hE)
      clear hs
      cases hy : itB l[j] with
      | true =>
        have HY := Lib.hid hy
        have HA1 := Lib.hid (allI_take hlt HA.out hy)
        clear hy
        go_wp2_with fail
        refine (ritem_any l[j] wr _ HS.out).mono ?_
        rw [HY.out]
        rintro e w1 ⟨rfl, hE1⟩
        have hE2 := hE.trans hE1
        clear hE1 c0 c1 c2 c3 c4 c5
        go_wp2
        go_roundw
        case rel => exact ⟨j + 1, by omega, by go_num, HA1, hE2⟩
        case measure => simp [intOf]; omega
      | false =>
        have HX := Lib.hid (show fragB l = false by unfold fragB; rw [allI_not hlt hy]; rfl)
        have HY := Lib.hid hy
        clear hy
        go_wp2_with fail
        refine (ritem_any l[j] wr _ HS.out).mono ?_
        rw [HY.out]
        rintro e w1 ⟨rfl, hE1⟩
        have hE2 := hE.trans hE1
        clear hE1 c0 c1 c2 c3 c4 c5
        go_wp2
        go_ret
        exact ⟨by rw [HX.out]; rfl, hE2⟩
    · obtain rfl : j = l.length := by omega
      have HX := Lib.hid (show fragB l = decide ((l.length : Int) ≤ 40) by
        have := HA.out; rw [List.take_length] at this
        unfold fragB; rw [this, Bool.true_and, decide_eq_decide]; omega)
      clear HA
      go_wp2
      go_ret
      exact ⟨by rw [HX.out]; rfl, hE⟩
end Go.Proofs.YtgclfmdpapadnaaDoor

open Go.RowKit Go.Shelf
namespace Go.Proofs.YtgclfmdpapadnaaDoor
open Go Go.Proofs Fm
attribute [local go_sem] Oper.semAt_some

set_option maxRecDepth 100000 in
set_option maxHeartbeats 4000000 in
theorem rfirst17_any (l : List Nd) (ps : List Nat) (hps : ∀ i, i ∈ ps → i < l.length) (_ : l.length ≤ 1000000) (hpl : ps.length ≤ 1000000) (s : List UInt8) (_ : s.length ≤ 9223372036854775807) (w : World) (v pv : Value) (h : ndE.Row w l v) (hp : intE.Row w (natsI ps) pv) :
    Calls Tryd.prog 66 #[v, pv, .string (str s)] w fun e w' => e = .returned (.int .i64 (optI (firstIn l ps s))) ∧ Ext w w' := by
  have HR := Lib.hid h
  have HPr := Lib.hid hp
  obtain ⟨a, c, rfl, hc1, hc2⟩ := h.slice
  obtain ⟨a2, c2, rfl, hd1, hd2⟩ := hp.slice
  rw [natsI_len] at hd1 HPr ⊢
  have HX := Lib.hid (show firstIn l ps s = if s = [] then none else ps.find? (fun (i : Nat) => decide ((nthF l (i : Int)).name = s)) from rfl)
  have HPs := Lib.hid hps
  obtain ⟨PN, hPN⟩ : ∃ PN, PN = ps.length := ⟨_, rfl⟩
  rw [← hPN] at hd1 HPr hpl ⊢
  have HPN := Lib.hid hPN
  have e1 : (str s).toList = s := str_toList s
  have hne : s.isEmpty = true ∨ s.isEmpty = false := by cases s.isEmpty <;> simp
  clear h hp hps hPN
  go_enter Tryd.func66, Tryd.ntmps66
  go_wp2_with fail
  rcases hne with hne | hne
  · have HZ := Lib.hid (show firstIn l ps s = none by rw [HX.out, if_pos (by simpa using hne)])
    go_loopw [7] (fun i wr => ∃ j : Nat, j ≤ PN ∧ i = .int .i64 j ∧ Hid (Ext w wr)) (fun i _ => PN - (intOf i).toNat)
    case atStart => exact ⟨0, by omega, rfl, Lib.hid (Ext.refl w)⟩
    case round =>
      obtain ⟨j, hj, rfl, HE⟩ := hrel
      by_cases hlt : j < PN
      case neg =>
        go_wp2
        go_ret
        exact ⟨by rw [HZ.out]; rfl, HE.out⟩
      have hj0 : (0 : Int) ≤ (j : Int) := by omega
      have hj1 : (j : Int) < (PN : Int) := by omega
      go_wp2
      go_roundw
      case rel => exact ⟨j + 1, by omega, by go_num, HE⟩
      case measure => simp [intOf]; omega
  · have HZ := Lib.hid (show firstIn l ps s = ps.find? (fun (i : Nat) => decide ((nthF l (i : Int)).name = s)) by rw [HX.out, if_neg (by intro h; rw [h] at hne; cases hne)])
    go_loopw [7] (fun i wr => ∃ j : Nat, j ≤ PN ∧ i = .int .i64 j ∧ Hid (Ext w wr) ∧ Hid (∀ (i : Nat) (hi : i < ps.length), i < j → (nthF l (ps[i] : Int)).name ≠ s)) (fun i _ => PN - (intOf i).toNat)
    case atStart => exact ⟨0, by omega, rfl, Lib.hid (Ext.refl w), Lib.hid (fun i hi h => absurd h (Nat.not_lt_zero _))⟩
    case round =>
      obtain ⟨j, hj, rfl, HE, HU⟩ := hrel
      by_cases hlt : j < PN
      case neg =>
        have HN := Lib.hid (show firstIn l ps s = none by
          rw [HZ.out, List.find?_eq_none]
          intro x hx
          obtain ⟨i, hi, rfl⟩ := List.getElem_of_mem hx
          have := HU.out i hi (by rw [← HPN.out] at hi; omega)
          simpa using this)
        go_wp2
        go_ret
        exact ⟨by rw [HN.out]; rfl, HE.out⟩
      have hjp : j < ps.length := by rw [← HPN.out]; exact hlt
      obtain ⟨b2, o2, rfl, hb2, hcell, hi6⟩ := int_at HPr.out HE.out j (by rw [natsI_len]; exact hjp)
      have hq := HPs.out ps[j] (List.getElem_mem hjp)
      have e2 : (natsI ps)[j]'(by rw [natsI_len]; exact hjp) = (ps[j] : Int) := by unfold natsI; rw [List.getElem_map]
      rw [e2] at hcell
      obtain ⟨q, hqe⟩ : ∃ q, q = ps[j] := ⟨_, rfl⟩
      rw [← hqe] at hcell hq
      obtain ⟨g, off, rfl, hb, aa, ma, ca, k0, n0, s0, d0, ⟨x0, x1, x2, x3, x4, x5, x6, x7, x8, x9, x10, x11, x12, x13, x14, x15⟩, hnv⟩ := nd_at16 HR.out HE.out q hq
      obtain ⟨nm, hnm⟩ : ∃ nm, nm = l[q].name := ⟨_, rfl⟩
      rw [← hnm] at x1
      have e3 : (str nm).toList = nm := str_toList nm
      have hj0 : (0 : Int) ≤ (j : Int) := by omega
      have hj1 : (j : Int) < (PN : Int) := by omega
      have hq0 : (0 : Int) ≤ (q : Int) := by omega
      have hq1 : (q : Int) < (l.length : Int) := by omega
      have HQ := Lib.hid hqe
      have HNm := Lib.hid hnm
      clear x0 x2 x3 x4 x5 x6 x7 x8 x9 x10 x11 x12 x13 x14 x15 hnv hi6 e2 hqe hnm
      by_cases hn : nm = s
      · have HN := Lib.hid (show firstIn l ps s = some q by
          rw [HZ.out, List.find?_eq_some_iff_getElem]
          refine ⟨by rw [nthF_at hq, ← HNm.out, hn]; simp, j, hjp, HQ.out.symm, fun i hi => ?_⟩
          have := HU.out i (by omega) hi
          simpa using this)
        have t1 : (nm == s) = true := by simp [hn]
        clear hn HU
        go_wp2
        go_ret
        exact ⟨by rw [HN.out]; rfl, HE.out⟩
      · have HU1 := Lib.hid (show ∀ (i : Nat) (hi : i < ps.length), i < j + 1 → (nthF l (ps[i] : Int)).name ≠ s from fun i hi hij => by
          by_cases e : i = j
          · subst e; rw [← HQ.out, nthF_at hq, ← HNm.out]; exact hn
          · exact HU.out i hi (by omega))
        have t1 : (nm == s) = false := by simp [hn]
        clear hn HU
        go_wp2
        go_roundw
        case rel => exact ⟨j + 1, by omega, by go_num, HE, HU1⟩
        case measure => simp [intOf]; omega
theorem scope_own {l : List Nd} {p : Nat} (hp : p < l.length) : scopeF l (p : Int) = ownIx l l[p].flow l[p].owner := by
  unfold scopeF
  rw [if_pos (by unfold placeF; simp; omega), nthF_at hp]
set_option maxRecDepth 100000 in
set_option maxHeartbeats 4000000 in
theorem rseen17_at (l : List Nd) (hO : RightO l) (hl : l.length ≤ 1000000) (s : List UInt8) (hs : s.length ≤ 9223372036854775807) (w0 : World) (v : Value) (h : ndE.Row w0 l v) : ∀ (p : Nat) (_ : p < l.length) (w : World) (_ : Ext w0 w),
    Calls Tryd.prog 37 #[v, .int .i64 p, .string (str s)] w fun e w' => e = .returned (.int .i64 (optI (seenF l p s))) ∧ Ext w w' := by
  intro p
  induction p using Nat.strongRecOn with
  | ind p ih =>
    intro hp w hE
    have h1 := hO p hp
    have HSc := Lib.hid (rscope17_any l hl p w v (h.ext hE))
    have HFi := Lib.hid (fun X (hX : Ext w X) pv (hpv : intE.Row X (natsI (ownIx l l[p].flow l[p].owner)) pv) => rfirst17_any l (ownIx l l[p].flow l[p].owner) (fun i hi => ownIx_lt hi) hl (by have := ownTo_len l l[p].flow l[p].owner l.length; unfold ownIx; omega) s hs X v pv (h.ext (hE.trans hX)) hpv)
    have HSt := Lib.hid (seenF_step hO hp s)
    have HI := Lib.hid (fun (o : Nat) (ho : o < p) X (hX : Ext w X) => ih o ho (by omega) X (hE.trans hX))
    have HO := Lib.hid h1
    have HRe := Lib.hid (h.ext hE)
    obtain ⟨a, c, rfl, hc1, hc2⟩ := h.slice
    obtain ⟨g, off, rfl, hb, aa, ma, ca, k0, n0, s0, d0, ⟨x0, x1, x2, x3, x4, x5, x6, x7, x8, x9, x10, x11, x12, x13, x14, x15⟩, hnv⟩ := nd_at16 HRe.out (Ext.refl w) p hp
    have HX4 := Lib.hid (fun X (hX : Ext w X) => (hX.cell (p := ⟨g, off + p * 16 + 4, none⟩) hb).trans x4)
    rw [show scopeF l (p : Int) = ownIx l l[p].flow l[p].owner from scope_own hp] at HSc
    have hp0 : (0 : Int) ≤ (p : Int) := by omega
    have hp1 : (p : Int) < (l.length : Int) := by omega
    have HFK := Lib.hid (show firstIn l (ownIx l l[p].flow l[p].owner) s = firstK l l[p].flow l[p].owner s from firstIn_own l _ _ s)
    obtain ⟨no, hno⟩ : ∃ no, no = l[p].owner := ⟨_, rfl⟩
    rw [← hno] at HX4
    have HNo := Lib.hid hno
    clear x0 x1 x2 x3 x4 x5 x6 x7 x8 x9 x10 x11 x12 x13 x14 x15 hnv h hE ih h1 hno
    go_enter Tryd.func37, Tryd.ntmps37
    go_wp2_with fail
    refine HSc.out.mono ?_
    rintro e w1 ⟨v1, rfl, hN, hE1⟩
    obtain ⟨A1, C1, rfl⟩ := ownsRow_sl hN
    have HN1 := Lib.hid (hN.row (natsI_i64 (fun i hi => ownIx_lt hi) hl))
    have HE1 := Lib.hid hE1
    clear hN hE1 HSc
    go_wp2_with fail
    refine (HFi.out w1 HE1.out _ HN1.out).mono ?_
    rw [HFK.out]
    rintro e w2 ⟨rfl, hE2⟩
    have HE2 := Lib.hid (HE1.out.trans hE2)
    clear hE2 HE1 HN1 HFi HFK
    cases hk : firstK l l[p].flow l[p].owner s with
    | some k =>
      have HZ := Lib.hid (show seenF l p s = some k by rw [HSt.out, hk])
      have hk0 : (0 : Int) ≤ (k : Int) := by omega
      clear hk HX4 HI HSt HO
      simp only [optI]
      go_wp2
      go_ret
      exact ⟨by rw [HZ.out]; rfl, HE2.out⟩
    | none =>
      have x4 := HX4.out w2 HE2.out
      have hnl := HO.out.1
      rw [← HNo.out] at hnl
      simp only [optI]
      by_cases h0 : no < 0
      · have HZ := Lib.hid (show seenF l p s = none by rw [HSt.out, hk]; simp only; rw [if_pos (by rw [← HNo.out]; exact h0)])
        clear hk HX4 HI HSt HO hnl
        go_wp2
        go_ret
        exact ⟨by rw [HZ.out]; rfl, HE2.out⟩
      · obtain ⟨o, ho⟩ : ∃ o : Nat, no = (o : Int) := ⟨no.toNat, by omega⟩
        have hop : o < p := by
          have := HO.out.2.1
          rw [← HNo.out, ho] at this
          omega
        have HZ := Lib.hid (show seenF l p s = seenF l (o : Int) s by rw [HSt.out, hk]; simp only; rw [if_neg (by rw [← HNo.out]; exact h0), ← HNo.out, ho])
        have HIo := Lib.hid (HI.out o hop)
        subst ho
        have ho0 : (0 : Int) ≤ (o : Int) := by omega
        clear hk HX4 HI HSt HO hnl h0 hop HNo
        go_wp2_with fail
        refine (HIo.out w2 HE2.out).mono ?_
        rintro e w3 ⟨rfl, hE3⟩
        have HE3 := Lib.hid (HE2.out.trans hE3)
        clear hE3 HE2 HIo x4
        go_wp2
        go_ret
        exact ⟨by rw [HZ.out]; rfl, HE3.out⟩
set_option maxRecDepth 100000 in
set_option maxHeartbeats 4000000 in
/-- Who is seen, by the reference. -/
theorem rseen17_any (l : List Nd) (hO : RightO l) (hl : l.length ≤ 1000000) (i : Int) (s : List UInt8) (hs : s.length ≤ 9223372036854775807) (w : World) (v : Value) (h : ndE.Row w l v) :
    Calls Tryd.prog 37 #[v, .int .i64 i, .string (str s)] w fun e w' => e = .returned (.int .i64 (optI (seenF l i s))) ∧ Ext w w' := by
  by_cases hp : placeF l i = true
  · obtain ⟨h0, h1⟩ : 0 ≤ i ∧ i < l.length := by unfold placeF at hp; simpa using hp
    obtain ⟨p, rfl⟩ : ∃ p : Nat, i = (p : Int) := ⟨i.toNat, by omega⟩
    exact rseen17_at l hO hl s hs w v h p (by omega) w (Ext.refl w)
  · have HX := Lib.hid (show seenF l i s = none from seenF_noP (by simpa using hp) s)
    obtain ⟨a, c, rfl, hc1, hc2⟩ := h.slice
    have hd : i < 0 ∨ (0 ≤ i ∧ (l.length : Int) ≤ i) := by
      unfold placeF at hp
      simp at hp
      omega
    clear h hp
    rcases hd with hd | ⟨hd0, hd⟩
    all_goals
      go_enter Tryd.func37, Tryd.ntmps37
      go_wp2
      go_ret
      exact ⟨by rw [HX.out]; rfl, Ext.refl w⟩
end Go.Proofs.YtgclfmdpapadnaaDoor

open Go.RowKit Go.Shelf
namespace Go.Proofs.YtgclfmdpapadnaaDoor
open Go Go.Proofs Fm
attribute [local go_sem] Oper.semAt_some

set_option maxHeartbeats 2000000 in
theorem rcost20_any (x : It) (hf : Fair x) (w : World) (v : Value) (h : ItV w x v) :
    Calls Tryd.prog 38 #[v] w fun e w' => e = .returned (.int .i64 (costF x)) ∧ Ext w w' := by
  obtain ⟨a, m, c, rfl, hr, ln, lo, iw, iq⟩ := h
  obtain ⟨⟨f1, f2⟩, f3, f4⟩ := hf
  have hE := (Ext.refl w).alloc (.cells #[.string (str x.name), .int .u8 (x.kind.toNat : Int), .slice a m c, .string (str x.over), .int .i64 x.width, .int .i64 x.quota] 27)
  have hB := BoxL.new w [.string (str x.name), .int .u8 (x.kind.toNat : Int), .slice a m c, .string (str x.over), .int .i64 x.width, .int .i64 x.quota] 27
  have HE := Lib.hid hE
  have hk := u8_oneC (k := x.kind) 1
  rw [show (((1 : UInt8).toNat : Nat) : Int) = 1 from rfl] at hk
  have HX := Lib.hid (show costF x = if x.kind = 1 then 1 + x.width * (1 + x.quota) else 1 + x.quota from rfl)
  clear hr ln lo iw iq hE
  go_enter Tryd.func38, Tryd.ntmps38
  go_upto_region 1 with (fail)
  generalize w.alloc (.cells #[.string (str x.name), .int .u8 (x.kind.toNat : Int), .slice a m c, .string (str x.over), .int .i64 x.width, .int .i64 x.quota] 27) = W1 at *
  have ⟨y0, y1, y2, y3, y4, y5⟩ := hB.six
  clear hB
  obtain ⟨wd, hwd⟩ : ∃ wd, wd = x.width := ⟨_, rfl⟩
  obtain ⟨qt, hqt⟩ : ∃ qt, qt = x.quota := ⟨_, rfl⟩
  obtain ⟨K, hK⟩ : ∃ K, K = (x.kind.toNat : Int) := ⟨_, rfl⟩
  rw [← hwd] at y4 f1 f2 HX
  rw [← hqt] at y5 f3 f4 HX
  rw [← hK] at y1 hk
  clear hwd hqt hK
  have g1 : 0 ≤ wd * (1 + qt) := Int.mul_nonneg f1 (by omega)
  have g2 : wd * (1 + qt) ≤ 1000000 * 1000001 := Int.mul_le_mul f2 (by omega) (by omega) (by omega)
  by_cases h1 : x.kind = 1
  · have t1 : (K == 1) = true := by rw [hk]; simpa using h1
    have HY := Lib.hid (show costF x = 1 + wd * (1 + qt) by rw [HX.out, if_pos h1])
    clear hk h1 HX
    go_wp2
    go_ret
    exact ⟨by rw [HY.out]; rfl, HE.out⟩
  · have t1 : (K == 1) = false := by rw [hk]; simpa using h1
    have HY := Lib.hid (show costF x = 1 + qt by rw [HX.out, if_neg h1])
    clear hk h1 HX g1 g2
    go_wp2
    go_ret
    exact ⟨by rw [HY.out]; rfl, HE.out⟩
set_option maxRecDepth 100000 in
set_option maxHeartbeats 2000000 in
theorem rtotal20_any (l : List It) (hf : ∀ x, x ∈ l → Fair x) (hl : l.length ≤ 1000) (w : World) (v : Value) (h : itE.Row w l v) :
    Calls Tryd.prog 18 #[v] w fun e w' => e = .returned (.int .i64 (totalF l)) ∧ Ext w w' := by
  have HR := Lib.hid h
  have HF := Lib.hid hf
  obtain ⟨a, c, rfl, hc1, hc2⟩ := h.slice
  clear h hf
  go_enter Tryd.func18, Tryd.ntmps18
  go_wp2_with fail
  generalize hLN : l.length = LN at *
  have HLN := Lib.hid hLN
  clear hLN
  go_loopw [3, 4] (fun s i wr => ∃ (j : Nat) (z : Int), j ≤ LN ∧ i = .int .i64 j ∧ s = .int .i64 z ∧ Hid (z = totalF (l.take j)) ∧ Hid (Ext w wr)) (fun _ i _ => LN - (intOf i).toNat)
  case atStart => exact ⟨0, 0, by omega, rfl, rfl, Lib.hid (by unfold totalF; simp), Lib.hid (Ext.refl w)⟩
  case round =>
    obtain ⟨j, z, hj, rfl, rfl, HZ, HE⟩ := hrel
    by_cases hlt : j < LN
    case neg =>
      have HT := Lib.hid (show totalF l = z by rw [HZ.out, show j = l.length by have := HLN.out; omega, List.take_length])
      go_wp2
      go_ret
      exact ⟨by rw [HT.out]; rfl, HE.out⟩
    have hi : j < l.length := by have := HLN.out; omega
    obtain ⟨b, off, rfl, hb, aa, ma, ca, x0, x1, x2, x3, x4, x5, hit⟩ := it_at HR.out HE.out j hi
    have hb1 := total_fair HF.out j (by omega)
    rw [← HZ.out] at hb1
    have hcf := cost_fair (HF.out l[j] (List.getElem_mem hi))
    have HC := Lib.hid (fun X (hE : Ext w X) => rcost20_any l[j] (HF.out _ (List.getElem_mem hi)) X _ (hit.ext hE))
    have HS := Lib.hid (show totalF (l.take (j + 1)) = z + costF l[j] by rw [total_step hi, HZ.out])
    have hj0 : (0 : Int) ≤ (j : Int) := by omega
    have hj1 : (j : Int) < (LN : Int) := by omega
    clear hit
    go_wp2_with fail
    refine (HC.out _ HE.out).mono ?_
    rintro e w2 ⟨rfl, hE2⟩
    have HE2 := Lib.hid (HE.out.trans hE2)
    clear hE2 HC HE x0 x1 x2 x3 x4 x5
    generalize costF l[j] = cj at *
    go_wp2
    go_roundw
    case rel => exact ⟨j + 1, z + cj, by omega, by go_num, rfl, Lib.hid HS.out.symm, HE2⟩
    case measure => simp [intOf]; omega
set_option maxRecDepth 100000 in
set_option maxHeartbeats 4000000 in
theorem rrefs20_any (nd : List Nd) (items : List It) (hO : RightO nd) (hl : nd.length ≤ 1000000) (ow : Int) (s : List UInt8) (hs : s.length ≤ 9223372036854775807) (w : World) (nv iv : Value) (hN : ndE.Row w nd nv) (hI : itE.Row w items iv) :
    Calls Tryd.prog 17 #[nv, .int .i64 ow, iv, .string (str s)] w fun e w' => e = .returned (.tuple #[.int .i64 (refsF nd ow items s).1, .int .i64 (refsF nd ow items s).2]) ∧ Ext w w' := by
  have HR := Lib.hid hI
  have HSn := Lib.hid (fun X (hX : Ext w X) => rseen17_any nd hO hl ow s hs X nv (hN.ext hX))
  obtain ⟨an, cn, rfl, hn1, hn2⟩ := hN.slice
  obtain ⟨a, c, rfl, hc1, hc2⟩ := hI.slice
  have e1 : (str s).toList = s := str_toList s
  have hne : (s.isEmpty = true ∧ s = []) ∨ (s.isEmpty = false ∧ s ≠ []) := by cases s <;> simp
  obtain ⟨LN, hLN⟩ : ∃ LN, LN = items.length := ⟨_, rfl⟩
  rw [← hLN] at hc1 HR ⊢
  have HLN := Lib.hid hLN
  clear hN hI hLN hO
  go_enter Tryd.func17, Tryd.ntmps17
  go_wp2_with fail
  go_loopw [10] (fun i wr => ∃ j : Nat, j ≤ LN ∧ i = .int .i64 j ∧ Hid (Ext w wr) ∧ Hid (s = [] ∨ ∀ (k : Nat) (hk : k < items.length), k < j → items[k].name ≠ s)) (fun i _ => LN - (intOf i).toNat)
  case atStart => exact ⟨0, by omega, rfl, Lib.hid (Ext.refl w), Lib.hid (.inr (fun k hk h => absurd h (Nat.not_lt_zero _)))⟩
  case round =>
    obtain ⟨j, hj, rfl, HE, HU⟩ := hrel
    by_cases hlt : j < LN
    case neg =>
      have HM := Lib.hid (show refsF nd ow items s = (-1, if 0 ≤ ow then optI (seenF nd ow s) else -1) from refsF_miss (HU.out.imp id (fun h k hk => h k hk (by rw [← HLN.out] at hk; omega))))
      clear HU hne
      by_cases h0 : ow < 0
      · have HM2 := Lib.hid (show refsF nd ow items s = (-1, -1) by rw [HM.out, if_neg (by omega)])
        clear HM
        go_wp2
        exact bodyPost_ret (v := .tuple #[.int .i64 (-1), .int .i64 (-1)]) (by simp [results, Tryd.results17, go_sem]) rfl ⟨by rw [HM2.out], HE.out⟩
      · have HM2 := Lib.hid (show refsF nd ow items s = (-1, optI (seenF nd ow s)) by rw [HM.out, if_pos (by omega)])
        clear HM
        go_wp2_with fail
        refine (HSn.out _ HE.out).mono ?_
        rintro e w2 ⟨rfl, hE2⟩
        have HE2 := Lib.hid (HE.out.trans hE2)
        clear hE2
        go_wp2
        exact bodyPost_ret (v := .tuple #[.int .i64 (-1), .int .i64 (optI (seenF nd ow s))]) (by simp [results, Tryd.results17, go_sem]) rfl ⟨by rw [HM2.out], HE2.out⟩
    have hi : j < items.length := by have := HLN.out; omega
    obtain ⟨b, off, rfl, hb, aa, ma, ca, x0, x1, x2, x3, x4, x5, hit⟩ := it_at HR.out HE.out j hi
    obtain ⟨nm, hnm⟩ : ∃ nm, nm = items[j].name := ⟨_, rfl⟩
    rw [← hnm] at x0
    have e3 : (str nm).toList = nm := str_toList nm
    have hj0 : (0 : Int) ≤ (j : Int) := by omega
    have hj1 : (j : Int) < (LN : Int) := by omega
    clear hit x1 x2 x3 x4 x5
    by_cases hn : nm = s
    · rcases hne with ⟨hne, hs0⟩ | ⟨hne, hs0⟩
      · have HU1 := Lib.hid (show s = [] ∨ ∀ (k : Nat) (hk : k < items.length), k < j + 1 → items[k].name ≠ s from .inl hs0)
        have t1 : (nm == s) = true := by simp [hn]
        clear hn HU hnm hs0
        go_wp2
        go_roundw
        case rel => exact ⟨j + 1, by omega, by go_num, HE, HU1⟩
        case measure => simp [intOf]; omega
      · have HM := Lib.hid (show refsF nd ow items s = ((j : Int), -1) from refsF_hit hi (by rw [← hnm, hn]) (fun k hk => (HU.out.resolve_left hs0) k (by omega) hk) hs0)
        have t1 : (nm == s) = true := by simp [hn]
        clear hn HU hnm hs0
        go_wp2
        exact bodyPost_ret (v := .tuple #[.int .i64 (j : Int), .int .i64 (-1)]) (by simp [results, Tryd.results17, go_sem]) rfl ⟨by rw [HM.out], HE.out⟩
    · have HU1 := Lib.hid (show s = [] ∨ ∀ (k : Nat) (hk : k < items.length), k < j + 1 → items[k].name ≠ s from HU.out.imp id (fun h k hk hkj => by
        by_cases e : k = j
        · subst e; rw [← hnm]; exact hn
        · exact h k hk (by omega)))
      have t1 : (nm == s) = false := by simp [hn]
      clear hn HU hnm hne
      go_wp2
      go_roundw
      case rel => exact ⟨j + 1, by omega, by go_num, HE, HU1⟩
      case measure => simp [intOf]; omega
set_option maxHeartbeats 2000000 in
theorem rnobody20_any (nd : List Nd) (items : List It) (hO : RightO nd) (hl : nd.length ≤ 1000000) (ow : Int) (s : List UInt8) (hs : s.length ≤ 9223372036854775807) (w : World) (nv iv : Value) (hN : ndE.Row w nd nv) (hI : itE.Row w items iv) :
    Calls Tryd.prog 63 #[nv, .int .i64 ow, iv, .string (str s)] w fun e w' => e = .returned (.bool (lostF nd ow items s)) ∧ Ext w w' := by
  have HR := Lib.hid (rrefs20_any nd items hO hl ow s hs w nv iv hN hI)
  have HX := Lib.hid (show lostF nd ow items s = (decide ((refsF nd ow items s).1 < 0) && decide ((refsF nd ow items s).2 < 0)) from rfl)
  obtain ⟨an, cn, rfl, hn1, hn2⟩ := hN.slice
  obtain ⟨ai, ci, rfl, hi1, hi2⟩ := hI.slice
  clear hN hI hO
  go_enter Tryd.func63, Tryd.ntmps63
  go_wp2_with fail
  refine HR.out.mono ?_
  rintro e w2 ⟨rfl, hE2⟩
  have HE2 := Lib.hid hE2
  clear hE2 HR
  generalize refsF nd ow items s = R at *
  obtain ⟨r1, r2⟩ := R
  simp only at HX
  by_cases h0 : r1 < 0
  · have HY := Lib.hid (show lostF nd ow items s = decide (r2 < 0) by rw [HX.out]; simp [h0])
    go_wp2
    go_ret
    exact ⟨by rw [HY.out]; rfl, HE2.out⟩
  · have HY := Lib.hid (show lostF nd ow items s = false by rw [HX.out]; simp [h0])
    go_wp2
    go_ret
    exact ⟨by rw [HY.out]; rfl, HE2.out⟩
end Go.Proofs.YtgclfmdpapadnaaDoor

open Go.RowKit Go.Shelf
namespace Go.Proofs.YtgclfmdpapadnaaDoor
open Go Go.Proofs Fm
attribute [local go_sem] Oper.semAt_some

/-- A configuration as it is handed in. -/
def cfgA (k0 k1 k2 k3 k4 : Int) : Value := .agg #[.int .i64 k0, .int .i64 k1, .int .i64 k2, .int .i64 k3, .int .i64 k4]
set_option maxRecDepth 100000 in
set_option maxHeartbeats 4000000 in
theorem rwide20_any (items : List It) (k0 k1 k2 k3 k4 : Int) (w : World) (iv : Value) (hI : itE.Row w items iv) :
    Calls Tryd.prog 31 #[cfgA k0 k1 k2 k3 k4, iv] w fun e w' => e = .returned (.bool (wideF k2 items)) ∧ Ext w w' := by
  have HR := Lib.hid hI
  have HX := Lib.hid (wide_alt k2 items)
  obtain ⟨a, c, rfl, hc1, hc2⟩ := hI.slice
  obtain ⟨LN, hLN⟩ : ∃ LN, LN = items.length := ⟨_, rfl⟩
  rw [← hLN] at hc1 HR HX ⊢
  have HLN := Lib.hid hLN
  have hE1 := (Ext.refl w).alloc (.cells #[.int .i64 k0, .int .i64 k1, .int .i64 k2, .int .i64 k3, .int .i64 k4] 32)
  have HB := Lib.hid (BoxL.new w [.int .i64 k0, .int .i64 k1, .int .i64 k2, .int .i64 k3, .int .i64 k4] 32)
  have HE1 := Lib.hid hE1
  unfold cfgA
  clear hI hLN hE1
  go_enter Tryd.func31, Tryd.ntmps31
  go_upto_region 1 with (fail)
  generalize w.alloc (.cells #[.int .i64 k0, .int .i64 k1, .int .i64 k2, .int .i64 k3, .int .i64 k4] 32) = W1 at *
  go_wp2_with fail
  go_loopw [5] (fun i wr => ∃ j : Nat, j ≤ LN ∧ i = .int .i64 j ∧ Hid (Ext W1 wr) ∧ Hid ((items.take j).any (fun x => isMapI x && decide (k2 < x.width)) = false)) (fun i _ => LN - (intOf i).toNat)
  case atStart => exact ⟨0, by omega, rfl, Lib.hid (Ext.refl W1), Lib.hid (by simp)⟩
  case round =>
    obtain ⟨j, hj, rfl, HE, HU⟩ := hrel
    have x2' := (HB.out.ext HE.out).cell 2 _ rfl
    by_cases hlt : j < LN
    case neg =>
      have HY := Lib.hid (show wideF k2 items = decide (k2 < (LN : Int)) by rw [HX.out, any_end (by rw [← HLN.out]; omega) HU.out]; simp)
      clear HU HX
      go_wp2
      go_ret
      exact ⟨by rw [HY.out]; rfl, HE1.out.trans HE.out⟩
    have hi : j < items.length := by have := HLN.out; omega
    obtain ⟨b, off, rfl, hb, aa, ma, ca, x0, x1, x2, x3, x4, x5, hit⟩ := it_at HR.out (HE1.out.trans HE.out) j hi
    obtain ⟨wd, hwd⟩ : ∃ wd, wd = items[j].width := ⟨_, rfl⟩
    rw [← hwd] at x4
    have hkd := u8_oneC (k := items[j].kind) 1
    rw [show (((1 : UInt8).toNat : Nat) : Int) = 1 from rfl, show decide (items[j].kind = 1) = isMapI items[j] from rfl] at hkd
    obtain ⟨K, hK⟩ : ∃ K, K = (items[j].kind.toNat : Int) := ⟨_, rfl⟩
    rw [← hK] at hkd x1
    have HT := Lib.hid (any_take (p := fun x => isMapI x && decide (k2 < x.width)) hi)
    have hj0 : (0 : Int) ≤ (j : Int) := by omega
    have hj1 : (j : Int) < (LN : Int) := by omega
    clear hit x0 x2 x3 x5 hK
    cases hm : isMapI items[j] with
    | false =>
      have HU1 := Lib.hid (show (items.take (j + 1)).any (fun x => isMapI x && decide (k2 < x.width)) = false by rw [HT.out, HU.out, hm]; rfl)
      rw [hm] at hkd
      clear hm HU HT hwd
      go_wp2_with fail
      go_quiet (fail)
      go_wp2
      go_roundw
      case rel => exact ⟨j + 1, by omega, by go_num, Lib.hid (HE.out.drewN _), HU1⟩
      case measure => simp [intOf]; omega
    | true =>
      rw [hm] at hkd
      cases hd : decide (k2 < wd) with
      | false =>
        have HU1 := Lib.hid (show (items.take (j + 1)).any (fun x => isMapI x && decide (k2 < x.width)) = false by rw [HT.out, HU.out, hm, ← hwd, hd]; rfl)
        clear hm HU HT hwd
        go_wp2_with fail
        go_quiet (fail)
        go_wp2
        go_roundw
        case rel => exact ⟨j + 1, by omega, by go_num, Lib.hid (HE.out.drewN _), HU1⟩
        case measure => simp [intOf]; omega
      | true =>
        have HY := Lib.hid (show wideF k2 items = true by rw [HX.out, any_hit hi (by rw [hm, ← hwd, hd]; rfl)]; rfl)
        clear hm HU HT hwd
        go_wp2_with fail
        go_quiet (fail)
        go_wp2
        go_ret
        exact ⟨by rw [HY.out]; rfl, (HE1.out.trans HE.out).drewN _⟩
set_option maxRecDepth 100000 in
set_option maxHeartbeats 4000000 in
theorem rtwice20_any (items : List It) (w : World) (iv : Value) (hI : itE.Row w items iv) :
    Calls Tryd.prog 32 #[iv] w fun e w' => e = .returned (.bool (twiceF items)) ∧ Ext w w' := by
  have HR := Lib.hid hI
  have HX := Lib.hid (@twiceF_iff items)
  obtain ⟨a, c, rfl, hc1, hc2⟩ := hI.slice
  obtain ⟨LN, hLN⟩ : ∃ LN, LN = items.length := ⟨_, rfl⟩
  rw [← hLN] at hc1 HR ⊢
  have HLN := Lib.hid hLN
  clear hI hLN
  go_enter Tryd.func32, Tryd.ntmps32
  go_wp2_with fail
  go_loopw [3] (fun i wr => ∃ j : Nat, j ≤ LN ∧ i = .int .i64 j ∧ Hid (Ext w wr) ∧ Hid (∀ (i k : Nat) (hi : i < items.length) (hk : k < i), i < j → items[k].name ≠ items[i].name)) (fun i _ => LN - (intOf i).toNat)
  case atStart => exact ⟨0, by omega, rfl, Lib.hid (Ext.refl w), Lib.hid (fun i k hi hk h => absurd h (Nat.not_lt_zero _))⟩
  case round =>
    obtain ⟨j, hj, rfl, HE, HU⟩ := hrel
    by_cases hlt : j < LN
    case neg =>
      have HY := Lib.hid (show twiceF items = false from HX.out.2 (fun i k hi hk => HU.out i k hi hk (by rw [← HLN.out] at hi; omega)))
      clear HU HX
      go_wp2
      go_ret
      exact ⟨by rw [HY.out]; rfl, HE.out⟩
    have hi : j < items.length := by have := HLN.out; omega
    have hj0 : (0 : Int) ≤ (j : Int) := by omega
    have hj1 : (j : Int) < (LN : Int) := by omega
    go_wp2_with fail
    go_loopw [4] (fun i wr => ∃ k : Nat, k ≤ j ∧ i = .int .i64 k ∧ Hid (Ext w wr) ∧ Hid (∀ (i : Nat) (hk : i < j), i < k → (items[i]'(by omega)).name ≠ items[j].name)) (fun i _ => j - (intOf i).toNat)
    case atStart => exact ⟨0, by omega, rfl, HE, Lib.hid (fun i hk h => absurd h (Nat.not_lt_zero _))⟩
    case round =>
      clear HE
      obtain ⟨k, hk, rfl, HE, HV⟩ := hrel
      by_cases hlk : k < j
      case neg =>
        have HU1 := Lib.hid (show ∀ (i k : Nat) (hi : i < items.length) (hk : k < i), i < j + 1 → items[k].name ≠ items[i].name from fun i k2 hi2 hk2 h => by
          by_cases e : i = j
          · subst e; exact HV.out k2 hk2 (by omega)
          · exact HU.out i k2 hi2 hk2 (by omega))
        clear HU HV
        go_wp2
        go_roundw
        case rel => exact ⟨j + 1, by omega, by go_num, HE, HU1⟩
        case measure => simp [intOf]; omega
      have hk2 : k < items.length := by omega
      obtain ⟨b, off, rfl, hb, aa, ma, ca, x0, x1, x2, x3, x4, x5, hit⟩ := it_at HR.out HE.out j hi
      obtain ⟨b', off', hb', _, aa', ma', ca', y0, y1, y2, y3, y4, y5, hit'⟩ := it_at HR.out HE.out k hk2
      simp only [Option.some.injEq, Addr.mk.injEq] at hb'
      obtain ⟨rfl, rfl, -⟩ := hb'
      obtain ⟨nm, hnm⟩ : ∃ nm, nm = items[j].name := ⟨_, rfl⟩
      obtain ⟨nk, hnk⟩ : ∃ nk, nk = items[k].name := ⟨_, rfl⟩
      rw [← hnm] at x0
      rw [← hnk] at y0
      have e3 : (str nm).toList = nm := str_toList nm
      have e4 : (str nk).toList = nk := str_toList nk
      have hk0 : (0 : Int) ≤ (k : Int) := by omega
      have hk1 : (k : Int) < (j : Int) := by omega
      have hk3 : (k : Int) < (LN : Int) := by omega
      clear hit x1 x2 x3 x4 x5 hit' y1 y2 y3 y4 y5
      by_cases hn : nm = nk
      · have HY := Lib.hid (show twiceF items = true by
          cases h : twiceF items with
          | true => rfl
          | false => exact absurd (by rw [← hnk, ← hnm, hn]) (HX.out.1 h j k hi hlk))
        have t1 : (nm == nk) = true := by simp [hn]
        clear hn hnm hnk HU HV HX
        go_wp2_with fail
        go_quiet (fail)
        go_wp2
        go_ret
        exact ⟨by rw [HY.out]; rfl, HE.out.drewN _⟩
      · have HV1 := Lib.hid (show ∀ (i : Nat) (hk : i < j), i < k + 1 → (items[i]'(by omega)).name ≠ items[j].name from fun i hi2 h => by
          by_cases e : i = k
          · subst e; rw [← hnm, ← hnk]; exact fun e => hn e.symm
          · exact HV.out i hi2 (by omega))
        have t1 : (nm == nk) = false := by simp [hn]
        clear hn hnm hnk HV HX
        go_wp2_with fail
        go_quiet (fail)
        go_wp2
        go_roundw
        case rel => exact ⟨k + 1, by omega, by go_num, Lib.hid (HE.out.drewN _), HV1⟩
        case measure => simp [intOf]; omega
theorem deepF_rng {nd : List Nd} (hO : RightO nd) (hl : nd.length ≤ 1000000) (ow : Int) : 0 ≤ deepF nd ow ∧ deepF nd ow ≤ 1000001 := by
  unfold deepF
  cases hp : placeF nd ow with
  | false => simp
  | true =>
    obtain ⟨h0, h1⟩ : 0 ≤ ow ∧ ow < nd.length := by unfold placeF at hp; simpa using hp
    have := chainO_len hO ow.toNat (by omega)
    rw [if_pos rfl]
    omega
set_option maxRecDepth 100000 in
set_option maxHeartbeats 4000000 in
theorem rdeep20_any (nd : List Nd) (items : List It) (hO : RightO nd) (hl : nd.length ≤ 1000000) (ow : Int) (k0 k1 k2 k3 k4 : Int) (w : World) (nv iv : Value) (hN : ndE.Row w nd nv) (hI : itE.Row w items iv) :
    Calls Tryd.prog 33 #[cfgA k0 k1 k2 k3 k4, nv, .int .i64 ow, iv] w fun e w' => e = .returned (.bool (deepB k1 nd ow items)) ∧ Ext w w' := by
  have HR := Lib.hid hI
  have HDe := Lib.hid (fun X (hX : Ext w X) => rdeep16_any nd hO hl ow X nv (hN.ext hX))
  have hdb := deepF_rng hO hl ow
  have hd0 : ow < 0 → deepF nd ow = 0 := fun h => by unfold deepF; rw [if_neg (by unfold placeF; simp; omega)]
  obtain ⟨D, hD⟩ : ∃ D, D = deepF nd ow + 1 := ⟨_, rfl⟩
  have HX := Lib.hid (show deepB k1 nd ow items = items.any (deepOne k1 D) by rw [hD]; exact deep_alt k1 nd ow items)
  obtain ⟨an, cn, rfl, hn1, hn2⟩ := hN.slice
  obtain ⟨a, c, rfl, hc1, hc2⟩ := hI.slice
  obtain ⟨LN, hLN⟩ : ∃ LN, LN = items.length := ⟨_, rfl⟩
  rw [← hLN] at hc1 HR ⊢
  have HLN := Lib.hid hLN
  have hE1 := (Ext.refl w).alloc (.cells #[.int .i64 k0, .int .i64 k1, .int .i64 k2, .int .i64 k3, .int .i64 k4] 32)
  have HB := Lib.hid (BoxL.new w [.int .i64 k0, .int .i64 k1, .int .i64 k2, .int .i64 k3, .int .i64 k4] 32)
  have HE1 := Lib.hid hE1
  have HD := Lib.hid hD
  have hDb : 1 ≤ D ∧ D ≤ 1000002 := by omega
  generalize hDF : deepF nd ow = DF at *
  have HDF := Lib.hid hDF
  unfold cfgA
  clear hI hN hLN hE1 hD hO hDF
  go_enter Tryd.func33, Tryd.ntmps33
  go_upto_region 1 with (fail)
  generalize w.alloc (.cells #[.int .i64 k0, .int .i64 k1, .int .i64 k2, .int .i64 k3, .int .i64 k4] 32) = W1 at *
  by_cases h0 : ow < 0
  · have HS := Lib.hid (show (1 : Int) = D by rw [HD.out, hd0 h0]; rfl)
    have HX := Lib.hid (show deepB k1 nd ow items = items.any (deepOne k1 1) by rw [HS.out]; exact HX.out)
    clear HDe hd0 hDb
    go_wp2_with fail
    go_loopw [10] (fun i wr => ∃ j : Nat, j ≤ LN ∧ i = .int .i64 j ∧ Hid (Ext W1 wr) ∧ Hid ((items.take j).any (deepOne k1 1) = false)) (fun i _ => LN - (intOf i).toNat)
    case atStart => exact ⟨0, by omega, rfl, Lib.hid (Ext.refl W1), Lib.hid (by simp)⟩
    case round =>
      obtain ⟨j, hj, rfl, HE, HU⟩ := hrel
      have x1' := (HB.out.ext HE.out).cell 1 _ rfl
      by_cases hlt : j < LN
      case neg =>
        have HY := Lib.hid (show deepB k1 nd ow items = false by rw [HX.out, any_end (by rw [← HLN.out]; omega) HU.out])
        clear HU HX
        go_wp2
        go_ret
        exact ⟨by rw [HY.out]; rfl, HE1.out.trans HE.out⟩
      have hi : j < items.length := by have := HLN.out; omega
      obtain ⟨b, off, rfl, hb, aa, ma, ca, x0, x1, x2, x3, x4, x5, hit⟩ := it_at HR.out (HE1.out.trans HE.out) j hi
      have hkd := u8_oneC (k := items[j].kind) 1
      rw [show (((1 : UInt8).toNat : Nat) : Int) = 1 from rfl, show decide (items[j].kind = 1) = isMapI items[j] from rfl] at hkd
      obtain ⟨K, hK⟩ : ∃ K, K = (items[j].kind.toNat : Int) := ⟨_, rfl⟩
      rw [← hK] at hkd x1
      have HT := Lib.hid (any_take (p := deepOne k1 1) hi)
      have HO1 := Lib.hid (show deepOne k1 1 items[j] = (decide (k1 < 1) || (isMapI items[j] && decide (k1 < 2))) from rfl)
      have hj0 : (0 : Int) ≤ (j : Int) := by omega
      have hj1 : (j : Int) < (LN : Int) := by omega
      clear hit x0 x2 x3 x4 x5 hK
      by_cases hq : k1 < 1
      · have HY := Lib.hid (show deepB k1 nd ow items = true by rw [HX.out, any_hit hi (by rw [HO1.out]; simp [hq])])
        clear HU HT HO1
        go_wp2
        go_ret
        exact ⟨by rw [HY.out]; rfl, HE1.out.trans HE.out⟩
      cases hm : isMapI items[j] with
      | false =>
        have HU1 := Lib.hid (show (items.take (j + 1)).any (deepOne k1 1) = false by rw [HT.out, HU.out, HO1.out, hm]; simp [hq])
        rw [hm] at hkd
        clear hm HU HT HO1
        go_wp2
        go_roundw
        case rel => exact ⟨j + 1, by omega, by go_num, HE, HU1⟩
        case measure => simp [intOf]; omega
      | true =>
        rw [hm] at hkd
        by_cases hq2 : k1 < 2
        · have HY := Lib.hid (show deepB k1 nd ow items = true by rw [HX.out, any_hit hi (by rw [HO1.out, hm]; simp [hq2])])
          clear hm HU HT HO1
          go_wp2
          go_ret
          exact ⟨by rw [HY.out]; rfl, HE1.out.trans HE.out⟩
        · have HU1 := Lib.hid (show (items.take (j + 1)).any (deepOne k1 1) = false by rw [HT.out, HU.out, HO1.out, hm]; simp [hq, hq2])
          clear hm HU HT HO1
          go_wp2
          go_roundw
          case rel => exact ⟨j + 1, by omega, by go_num, HE, HU1⟩
          case measure => simp [intOf]; omega
  · clear hd0
    go_wp2_with fail
    refine (HDe.out W1 HE1.out).mono ?_
    rintro e w2 ⟨rfl, hE2⟩
    have HE2 := Lib.hid hE2
    clear hE2 HDe
    go_wp2_with fail
    rw [← HD.out]
    go_loopw [10] (fun i wr => ∃ j : Nat, j ≤ LN ∧ i = .int .i64 j ∧ Hid (Ext W1 wr) ∧ Hid ((items.take j).any (deepOne k1 D) = false)) (fun i _ => LN - (intOf i).toNat)
    case atStart => exact ⟨0, by omega, rfl, HE2, Lib.hid (by simp)⟩
    case round =>
      obtain ⟨j, hj, rfl, HE, HU⟩ := hrel
      have x1' := (HB.out.ext HE.out).cell 1 _ rfl
      by_cases hlt : j < LN
      case neg =>
        have HY := Lib.hid (show deepB k1 nd ow items = false by rw [HX.out, any_end (by rw [← HLN.out]; omega) HU.out])
        clear HU HX
        go_wp2
        go_ret
        exact ⟨by rw [HY.out]; rfl, HE1.out.trans HE.out⟩
      have hi : j < items.length := by have := HLN.out; omega
      obtain ⟨b, off, rfl, hb, aa, ma, ca, x0, x1, x2, x3, x4, x5, hit⟩ := it_at HR.out (HE1.out.trans HE.out) j hi
      have hkd := u8_oneC (k := items[j].kind) 1
      rw [show (((1 : UInt8).toNat : Nat) : Int) = 1 from rfl, show decide (items[j].kind = 1) = isMapI items[j] from rfl] at hkd
      obtain ⟨K, hK⟩ : ∃ K, K = (items[j].kind.toNat : Int) := ⟨_, rfl⟩
      rw [← hK] at hkd x1
      have HT := Lib.hid (any_take (p := deepOne k1 D) hi)
      have HO1 := Lib.hid (show deepOne k1 D items[j] = (decide (k1 < D) || (isMapI items[j] && decide (k1 < D + 1))) from rfl)
      have hj0 : (0 : Int) ≤ (j : Int) := by omega
      have hj1 : (j : Int) < (LN : Int) := by omega
      clear hit x0 x2 x3 x4 x5 hK
      by_cases hq : k1 < D
      · have HY := Lib.hid (show deepB k1 nd ow items = true by rw [HX.out, any_hit hi (by rw [HO1.out]; simp [hq])])
        clear HU HT HO1
        go_wp2
        go_ret
        exact ⟨by rw [HY.out]; rfl, HE1.out.trans HE.out⟩
      cases hm : isMapI items[j] with
      | false =>
        have HU1 := Lib.hid (show (items.take (j + 1)).any (deepOne k1 D) = false by rw [HT.out, HU.out, HO1.out, hm]; simp [hq])
        rw [hm] at hkd
        clear hm HU HT HO1
        go_wp2
        go_roundw
        case rel => exact ⟨j + 1, by omega, by go_num, HE, HU1⟩
        case measure => simp [intOf]; omega
      | true =>
        rw [hm] at hkd
        by_cases hq2 : k1 < D + 1
        · have HY := Lib.hid (show deepB k1 nd ow items = true by rw [HX.out, any_hit hi (by rw [HO1.out, hm]; simp [hq2])])
          clear hm HU HT HO1
          go_wp2
          go_ret
          exact ⟨by rw [HY.out]; rfl, HE1.out.trans HE.out⟩
        · have HU1 := Lib.hid (show (items.take (j + 1)).any (deepOne k1 D) = false by rw [HT.out, HU.out, HO1.out, hm]; simp [hq, hq2])
          clear hm HU HT HO1
          go_wp2
          go_roundw
          case rel => exact ⟨j + 1, by omega, by go_num, HE, HU1⟩
          case measure => simp [intOf]; omega
end Go.Proofs.YtgclfmdpapadnaaDoor
