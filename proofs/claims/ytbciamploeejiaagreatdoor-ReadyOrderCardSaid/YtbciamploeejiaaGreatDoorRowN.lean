/- Rows of numbers and of values out of a row's reading. -/
import Derived.Test.YtbciamploeejiaaGreatDoorFr
import Derived.Test.YtbciamploeejiaaGreatDoorTake
import Derived.Test.YtbciamploeejiaaGreatDoorPlO
import Derived.Maps.OwnSet
import Derived.Maps.OwnOps
import Derived.Maps.Views
import Derived.Test.YtbciamploeejiaaGreatDoorProg
import Derived.ProofKit
import Derived.OpenShut
import Derived.ShutString
import Derived.ChangeOld
import Derived.Test.YtbciamploeejiaaGreatDoorIdC
import Derived.LaidLaws
import Derived.Lib.LaidTab
open Go.RowKit Go.Shelf
namespace Fm
open Go Go.RowKit
def ndXc (id : ByteArray) (st fl f o : Int) (af : Value) : List Value := [.string id, .string { data := #[] }, .int .u8 0, .int .i64 f, .int .i64 o, .int .i64 0, af, .int .i64 0, .int .i64 0, .int .u8 st, .int .i64 fl, .int .i64 0, .int .u8 0, .int .i64 0, .string { data := #[] }, .slice none 0 0]
theorem ndX_v {W : World} {id : List UInt8} {st : UInt8} {fl f o : Int} {af : List Int} {m c : Nat} {a : Option Addr} (h : intE.Row W af (.slice a m c)) (hi : id.length ≤ 9223372036854775807) (h1 : isI64 fl) (h2 : isI64 f) (h3 : isI64 o) : NdV W (ndX id st fl f o af) (.agg (ndXc (str id) (st.toNat : Int) fl f o (.slice a m c)).toArray) := by
  have z : isI64 0 := by unfold isI64; omega
  exact ⟨a, m, c, .int .u8 0, .int .i64 0, .string { data := #[] }, .slice none 0 0, rfl, h, zT_liesF W, hi, by simp [ndX], h2, h3, z, z, z, h1, z⟩
end Fm
namespace Go.Proofs.YtbciamploeejiaaGreatDoor
open Go Go.Proofs Fm
attribute [local go_sem] Oper.semAt_some

theorem take_more {l m : List Int} {j : Nat} (h : l.take j = m.take j) (h1 : j < l.length) (h2 : j < m.length) (he : l[j] = m[j]) : l.take (j + 1) = m.take (j + 1) := by
  rw [List.take_add_one, List.take_add_one, h, List.getElem?_eq_getElem h1, List.getElem?_eq_getElem h2, he]
set_option maxRecDepth 100000 in
set_option maxHeartbeats 4000000 in
theorem ints16_any (l m : List Int) (w : World) (v v' : Value) (h : intE.Row w l v) (h' : intE.Row w m v') :
    Calls Tryz.prog 11 #[v, v'] w fun e w' => e = .returned (.bool (decide (l = m))) ∧ Ext w w' := by
  have HR := Lib.hid h
  have HR' := Lib.hid h'
  obtain ⟨a, c, rfl, hc1, hc2⟩ := h.slice
  obtain ⟨a', c', rfl, hc1', hc2'⟩ := h'.slice
  clear h h'
  by_cases hlen : l.length = m.length
  case neg =>
    have hne : ((l.length : Int) != (m.length : Int)) = true := by simp; omega
    have HX := Lib.hid (show decide (l = m) = false by simp; intro e; exact hlen (by rw [e]))
    clear hlen
    go_enter Tryz.func11, Tryz.ntmps11
    go_wp2
    go_ret
    exact ⟨by rw [HX.out]; rfl, Ext.refl w⟩
  have hne : ((l.length : Int) != (m.length : Int)) = false := by simp; omega
  have HL := Lib.hid hlen
  go_enter Tryz.func11, Tryz.ntmps11
  go_wp2_with fail
  clear hne
  go_loopw [13] (fun i wr => ∃ j : Nat, j ≤ l.length ∧ i = .int .i64 (j : Int) ∧ Hid (Ext w wr) ∧ Hid (l.take j = m.take j)) (fun i _ => l.length - (intOf i).toNat)
  case atStart => exact ⟨0, by omega, rfl, Lib.hid (Ext.refl w), Lib.hid rfl⟩
  case round =>
    obtain ⟨j, hj, rfl, HE, HT⟩ := hrel
    by_cases hlt : j < l.length
    case neg =>
      have HX := Lib.hid (show decide (l = m) = true by
        have := HT.out
        rw [List.take_of_length_le (by omega), List.take_of_length_le (by omega)] at this
        simpa using this)
      go_wp2
      go_ret
      exact ⟨by rw [HX.out]; rfl, HE.out⟩
    have hlt' : j < m.length := by omega
    obtain ⟨b, off, rfl, hb, hcell, -⟩ := int_at HR.out HE.out j hlt
    obtain ⟨b', off', rfl, hb', hcell', -⟩ := int_at HR'.out HE.out j hlt'
    have hj0 : (0 : Int) ≤ (j : Int) := by omega
    have hj1 : (j : Int) < (l.length : Int) := by omega
    have hj2 : (j : Int) < (m.length : Int) := by omega
    have HM := Lib.hid (fun he : l[j] = m[j] => take_more HT.out hlt hlt' he)
    have HN := Lib.hid (fun he : l[j] ≠ m[j] => show decide (l = m) = false by simp only [decide_eq_false_iff_not]; rintro rfl; exact he rfl)
    obtain ⟨x, hx⟩ : ∃ x, x = l[j] := ⟨_, rfl⟩
    obtain ⟨y, hy⟩ : ∃ y, y = m[j] := ⟨_, rfl⟩
    rw [← hx] at hcell HM HN
    rw [← hy] at hcell' HM HN
    clear hx hy
    by_cases hxy : x = y
    · have hne : (x != y) = false := by simp [hxy]
      have HT2 := Lib.hid (HM.out hxy)
      clear hxy
      go_wp2_with fail
      go_region
      go_wp2_with fail
      go_roundw
      case rel => exact ⟨j + 1, by omega, by go_num, Lib.hid HE.out.drew, HT2⟩
      case measure => simp [intOf]; omega
    · have hne : (x != y) = true := by simp [hxy]
      have HX := Lib.hid (HN.out hxy)
      clear hxy
      go_wp2_with fail
      go_region
      go_wp2
      go_ret
      exact ⟨by rw [HX.out]; rfl, HE.out.drew⟩
theorem rowL_any (W : World) : ndE.Row (W.alloc (.cells (ndXc ⟨#[48, 47, 97]⟩ 1 1 0 (-1) (.slice none 0 0) ++ ndXc ⟨#[48, 47, 98]⟩ 1 0 0 (-1) (.slice none 0 0) ++ ndXc ⟨#[49, 47, 97]⟩ 1 0 1 (-1) (.slice none 0 0) ++ ndXc ⟨#[48, 47, 98, 47, 99]⟩ 1 0 0 1 (.slice none 0 0)).toArray 38)) awL (.slice (some ⟨W.heap.size, 0, none⟩) 4 4) := by
  have z : ∀ k : Int, -1 ≤ k → k ≤ 1 → isI64 k := fun k h1 h2 => by unfold isI64; omega
  have ho := World.ownsRow_lit W (ndXc ⟨#[48, 47, 97]⟩ 1 1 0 (-1) (.slice none 0 0) ++ ndXc ⟨#[48, 47, 98]⟩ 1 0 0 (-1) (.slice none 0 0) ++ ndXc ⟨#[49, 47, 97]⟩ 1 0 1 (-1) (.slice none 0 0) ++ ndXc ⟨#[48, 47, 98, 47, 99]⟩ 1 0 0 1 (.slice none 0 0)).toArray 4 (base := W.heap.size) (e := 38) (size := 16) (Nat.le_refl _) (by unfold maxLen; omega) rfl
  refine ndRow_parts (cs := [ndXc ⟨#[48, 47, 97]⟩ 1 1 0 (-1) (.slice none 0 0), ndXc ⟨#[48, 47, 98]⟩ 1 0 0 (-1) (.slice none 0 0), ndXc ⟨#[49, 47, 97]⟩ 1 0 1 (-1) (.slice none 0 0), ndXc ⟨#[48, 47, 98, 47, 99]⟩ 1 0 0 1 (.slice none 0 0)]) rfl (by simpa [awL] using ho) (fun i hi hc => ?_)
  have hi : i < 4 := hi
  rcases (by omega : i = 0 ∨ i = 1 ∨ i = 2 ∨ i = 3) with rfl | rfl | rfl | rfl
  · exact ⟨rfl, ndX_v (st := 1) (Elem.Row.void intE _ none) (by decide) (z 1 (by omega) (by omega)) (z 0 (by omega) (by omega)) (z (-1) (by omega) (by omega))⟩
  · exact ⟨rfl, ndX_v (st := 1) (Elem.Row.void intE _ none) (by decide) (z 0 (by omega) (by omega)) (z 0 (by omega) (by omega)) (z (-1) (by omega) (by omega))⟩
  · exact ⟨rfl, ndX_v (st := 1) (Elem.Row.void intE _ none) (by decide) (z 0 (by omega) (by omega)) (z 1 (by omega) (by omega)) (z (-1) (by omega) (by omega))⟩
  · exact ⟨rfl, ndX_v (st := 1) (Elem.Row.void intE _ none) (by decide) (z 0 (by omega) (by omega)) (z 0 (by omega) (by omega)) (z 1 (by omega) (by omega))⟩
theorem rowW_any {W : World} {base B b m c : Nat} (st : UInt8) (ho : W.ownsRow base 38 16 (.slice (some ⟨B, 0, none⟩) 3 3) 3 (ndXc ⟨#[48, 47, 98]⟩ (st.toNat : Int) 0 0 (-1) (.slice none 0 0) ++ ndXc ⟨#[48, 47, 99]⟩ 0 0 0 (-1) (.slice none 0 0) ++ ndXc ⟨#[48, 47, 100]⟩ 0 0 0 (-1) (.slice (some ⟨b, 0, none⟩) m c))) (h : intE.Row W [1, 0] (.slice (some ⟨b, 0, none⟩) m c)) :
    ndE.Row W [ndX [48, 47, 98] st 0 0 (-1) [], ndX [48, 47, 99] 0 0 0 (-1) [], ndX [48, 47, 100] 0 0 0 (-1) [1, 0]] (.slice (some ⟨B, 0, none⟩) 3 3) := by
  have z : ∀ k : Int, -1 ≤ k → k ≤ 1 → isI64 k := fun k h1 h2 => by unfold isI64; omega
  refine ndRow_parts (cs := [ndXc ⟨#[48, 47, 98]⟩ (st.toNat : Int) 0 0 (-1) (.slice none 0 0), ndXc ⟨#[48, 47, 99]⟩ 0 0 0 (-1) (.slice none 0 0), ndXc ⟨#[48, 47, 100]⟩ 0 0 0 (-1) (.slice (some ⟨b, 0, none⟩) m c)]) rfl (by simpa using ho) (fun i hi hc => ?_)
  have hi : i < 3 := hi
  rcases (by omega : i = 0 ∨ i = 1 ∨ i = 2) with rfl | rfl | rfl
  · exact ⟨rfl, ndX_v (Elem.Row.void intE _ none) (by decide) (z 0 (by omega) (by omega)) (z 0 (by omega) (by omega)) (z (-1) (by omega) (by omega))⟩
  · exact ⟨rfl, ndX_v (st := 0) (Elem.Row.void intE _ none) (by decide) (z 0 (by omega) (by omega)) (z 0 (by omega) (by omega)) (z (-1) (by omega) (by omega))⟩
  · exact ⟨rfl, ndX_v (st := 0) h (by decide) (z 0 (by omega) (by omega)) (z 0 (by omega) (by omega)) (z (-1) (by omega) (by omega))⟩
theorem litRow (W : World) (zs : List Int) (hz : ∀ z, z ∈ zs → isI64 z) (hl : zs.length ≤ 1000) : intE.Row (W.alloc (.cells (zs.map (Value.int .i64)).toArray 3)) zs (.slice (some ⟨W.heap.size, 0, none⟩) zs.length zs.length) := by
  have ho := World.ownsRow_lit W (zs.map (Value.int .i64)).toArray zs.length (base := W.heap.size) (e := 3) (size := 1) (Nat.le_refl _) (by unfold maxLen; omega) (by simp)
  exact OwnN.row (e := 3) (base := W.heap.size) (by unfold OwnN; simpa using ho) hz
theorem nextQ_aw : nextQ awL = 3 := nextQ_yes aw_all
set_option maxRecDepth 100000 in
set_option maxHeartbeats 8000000 in
theorem awake24_any (w : World) (hw : KW w) : Calls Tryz.prog 17 #[] w fun e w' => e = .returned (.bool true) ∧ Ext w w' := by
  have HW := Lib.hid hw
  clear hw
  have hL := rowL_any w
  have hE1 := (Ext.refl w).alloc (.cells (ndXc ⟨#[48, 47, 97]⟩ 1 1 0 (-1) (.slice none 0 0) ++ ndXc ⟨#[48, 47, 98]⟩ 1 0 0 (-1) (.slice none 0 0) ++ ndXc ⟨#[49, 47, 97]⟩ 1 0 1 (-1) (.slice none 0 0) ++ ndXc ⟨#[48, 47, 98, 47, 99]⟩ 1 0 0 1 (.slice none 0 0)).toArray 38)
  go_enter Tryz.func17, Tryz.ntmps17
  go_upto_region 2 with (fail)
  change Code.wp _ _ _ _ (w.alloc (.cells (ndXc ⟨#[48, 47, 97]⟩ 1 1 0 (-1) (.slice none 0 0) ++ ndXc ⟨#[48, 47, 98]⟩ 1 0 0 (-1) (.slice none 0 0) ++ ndXc ⟨#[49, 47, 97]⟩ 1 0 1 (-1) (.slice none 0 0) ++ ndXc ⟨#[48, 47, 98, 47, 99]⟩ 1 0 0 1 (.slice none 0 0)).toArray 38))
  generalize w.alloc (.cells (ndXc ⟨#[48, 47, 97]⟩ 1 1 0 (-1) (.slice none 0 0) ++ ndXc ⟨#[48, 47, 98]⟩ 1 0 0 (-1) (.slice none 0 0) ++ ndXc ⟨#[49, 47, 97]⟩ 1 0 1 (-1) (.slice none 0 0) ++ ndXc ⟨#[48, 47, 98, 47, 99]⟩ 1 0 0 1 (.slice none 0 0)).toArray 38) = W1 at *
  generalize w.heap.size = LB at *
  have HL := Lib.hid hL
  have HE1 := Lib.hid hE1
  clear hL hE1
  go_wp2_with fail
  refine (next_any awL awL_right (by decide) (by decide) W1 (HW.out.ext HE1.out) _ HL.out).mono ?_
  rintro e w2 ⟨rfl, hE2⟩
  rw [nextQ_aw, aw_all]
  have HE2 := Lib.hid (HE1.out.trans hE2)
  have HL2 := Lib.hid (HL.out.ext hE2)
  clear hE2 HE1 HL
  go_upto_region 3 with (fail)
  have hI := litRow w2 [1, 0] (by intro z hz; simp only [List.mem_cons, List.not_mem_nil, or_false] at hz; rcases hz with rfl | rfl <;> (unfold isI64; omega)) (by decide)
  have hE3 := (Ext.refl w2).alloc (.cells ([1, 0].map (Value.int .i64)).toArray 3)
  go_upto_region 4 with (fail)
  change Code.wp _ _ _ _ ((w2.alloc (.cells ([1, 0].map (Value.int .i64)).toArray 3)).alloc (.cells (ndXc ⟨#[48, 47, 98]⟩ 0 0 0 (-1) (.slice none 0 0) ++ ndXc ⟨#[48, 47, 99]⟩ 0 0 0 (-1) (.slice none 0 0) ++ ndXc ⟨#[48, 47, 100]⟩ 0 0 0 (-1) (.slice (some ⟨w2.heap.size, 0, none⟩) 2 2)).toArray 38))
  have hX : (w2.alloc (.cells ([1, 0].map (Value.int .i64)).toArray 3)).heap.size = w2.heap.size + 1 := by simp
  generalize w2.alloc (.cells ([1, 0].map (Value.int .i64)).toArray 3) = X1 at *
  generalize hIB : w2.heap.size = IB at *
  have ho := World.ownsRow_lit X1 (ndXc ⟨#[48, 47, 98]⟩ 0 0 0 (-1) (.slice none 0 0) ++ ndXc ⟨#[48, 47, 99]⟩ 0 0 0 (-1) (.slice none 0 0) ++ ndXc ⟨#[48, 47, 100]⟩ 0 0 0 (-1) (.slice (some ⟨IB, 0, none⟩) 2 2)).toArray 3 (base := X1.heap.size) (e := 38) (size := 16) (Nat.le_refl _) (by unfold maxLen; omega) rfl
  have hE4 := (Ext.refl X1).alloc (.cells (ndXc ⟨#[48, 47, 98]⟩ 0 0 0 (-1) (.slice none 0 0) ++ ndXc ⟨#[48, 47, 99]⟩ 0 0 0 (-1) (.slice none 0 0) ++ ndXc ⟨#[48, 47, 100]⟩ 0 0 0 (-1) (.slice (some ⟨IB, 0, none⟩) 2 2)).toArray 38)
  rw [hX] at ho
  generalize X1.alloc (.cells (ndXc ⟨#[48, 47, 98]⟩ 0 0 0 (-1) (.slice none 0 0) ++ ndXc ⟨#[48, 47, 99]⟩ 0 0 0 (-1) (.slice none 0 0) ++ ndXc ⟨#[48, 47, 100]⟩ 0 0 0 (-1) (.slice (some ⟨IB, 0, none⟩) 2 2)).toArray 38) = X2 at *
  have HO := Lib.hid (show X2.ownsRow (IB + 1) 38 16 (.slice (some ⟨IB + 1, 0, none⟩) 3 3) 3 (ndXc ⟨#[48, 47, 98]⟩ 0 0 0 (-1) (.slice none 0 0) ++ ndXc ⟨#[48, 47, 99]⟩ 0 0 0 (-1) (.slice none 0 0) ++ ndXc ⟨#[48, 47, 100]⟩ 0 0 0 (-1) (.slice (some ⟨IB, 0, none⟩) 2 2)) from ho)
  have HI := Lib.hid hI
  have HX1 := Lib.hid hX
  have HIBe := Lib.hid hIB
  have HE14 := Lib.hid hE4
  have HE24 := Lib.hid (hE3.trans hE4)
  have HRw := Lib.hid (show ndE.Row X2 awW (.slice (some ⟨IB + 1, 0, none⟩) 3 3) from rowW_any 0 ho (hI.ext hE4))
  have HE4 := Lib.hid ((HE2.out.trans hE3).trans hE4)
  have HZ2 := Lib.hid (show IB + 1 < X2.heap.size from (World.ownsRow.lt ho (IB + 1) rfl).2)
  have HIB := Lib.hid (show w.heap.size ≤ IB + 1 by have := (HE2.out.trans hE3).size; omega)
  clear hI hE3 hE4 ho hX hIB
  go_wp2_with fail
  refine (waits_any awW (by decide) 2 X2 _ HRw.out).mono ?_
  rintro e w3 ⟨v3, rfl, ho3, hE5⟩
  rw [aw_waits] at ho3
  obtain ⟨a3, c3, rfl⟩ : ∃ a c, v3 = .slice a 2 c := by
    obtain ⟨g, c, h, -⟩ := World.ownsRow.form ho3 (by decide)
    exact ⟨_, _, h⟩
  have HO3 := Lib.hid ho3
  have HE5 := Lib.hid hE5
  clear ho3 hE5
  go_wp2_with fail
  refine (wakes_any awW (by decide) (by decide) 1 w3 _ (HRw.out.ext HE5.out)).mono ?_
  rintro e w4 ⟨v4, rfl, ho4, hE6⟩
  rw [aw_wakes] at ho4
  obtain ⟨a4, c4, rfl⟩ : ∃ a c, v4 = .slice a 0 c := by
    rcases ho4.2 with ⟨e1, -⟩ | ⟨g, cap, cur, e1, -⟩
    · exact ⟨none, 0, e1⟩
    · exact ⟨_, _, e1⟩
  have HE6 := Lib.hid (HE5.out.trans hE6)
  have HO3 := Lib.hid (show OwnN 3 X2.heap.size w4 (.slice a3 2 c3) [0, 1] from hE6.own HO3.out)
  clear ho4 hE6 HE5
  have hst := (HE6.out.own HO.out)
  have hc9 : w4.cell? ⟨IB + 1, 9, none⟩ = some (.int .u8 0) := (World.ownsRow.cellAt hst 9 (by omega)).trans rfl
  have hf9 : w4.frozen? ⟨IB + 1, 9, none⟩ = false := World.ownsRow.frozenAt hst 9
  go_upto_region 6 with (fail)
  have HO5 := Lib.hid (show (w4.setCell ⟨IB + 1, 9, none⟩ (.int .u8 4)).ownsRow (IB + 1) 38 16 (.slice (some ⟨IB + 1, 0, none⟩) 3 3) 3 (ndXc ⟨#[48, 47, 98]⟩ 4 0 0 (-1) (.slice none 0 0) ++ ndXc ⟨#[48, 47, 99]⟩ 0 0 0 (-1) (.slice none 0 0) ++ ndXc ⟨#[48, 47, 100]⟩ 0 0 0 (-1) (.slice (some ⟨IB, 0, none⟩) 2 2)) from (hst.stored 9 (.int .u8 4)).1)
  have hg5 := setOne_grown w4 (IB + 1) 9 (.int .u8 4)
  have HE2w := Lib.hid (show Ext w2 (w4.setCell ⟨IB + 1, 9, none⟩ (.int .u8 4)) from (HE24.out.trans HE6.out).setCell (p := ⟨IB + 1, 9, none⟩) (by show w2.heap.size ≤ IB + 1; have := HIBe.out; omega) _)
  have HE1w := Lib.hid (show Ext X1 (w4.setCell ⟨IB + 1, 9, none⟩ (.int .u8 4)) from (HE14.out.trans HE6.out).setCell (p := ⟨IB + 1, 9, none⟩) (by show X1.heap.size ≤ IB + 1; have := HX1.out; omega) _)
  have HV3 := Lib.hid (show intE.Row (w4.setCell ⟨IB + 1, 9, none⟩ (.int .u8 4)) [0, 1] (.slice a3 2 c3) from OwnN.row (World.ownsRow.kept HO3.out hg5 (.inr (fun e => by have := (World.ownsRow.lt HO3.out (IB + 1) e).1; have := HZ2.out; omega))) (by intro z hz; simp only [List.mem_cons, List.not_mem_nil, or_false] at hz; rcases hz with rfl | rfl <;> (unfold isI64; omega)))
  clear hg5 hst hc9 hf9 HO3 HO HRw HE6 HE14 HE24
  generalize w4.setCell ⟨IB + 1, 9, none⟩ (.int .u8 4) = W5 at *
  have HE5 := Lib.hid (HE2.out.trans HE2w.out)
  have HL5 := Lib.hid (HL2.out.ext HE2w.out)
  have HR5 := Lib.hid (show ndE.Row W5 awV (.slice (some ⟨IB + 1, 0, none⟩) 3 3) from rowW_any 4 HO5.out (HI.out.ext HE1w.out))
  clear HE2w HE1w HL2 HE2 HO5 HI HX1 HIBe HZ2
  go_wp2_with fail
  refine (all_any awL awL_right (by decide) (by decide) W5 (HW.out.ext HE5.out) _ HL5.out).mono ?_
  rintro e w6 ⟨v6, rfl, ho6, hE6⟩
  rw [aw_all] at ho6
  have HO6 := Lib.hid ho6
  have HE6 := Lib.hid hE6
  clear ho6 hE6
  have hz4 : ∀ z, z ∈ natsI [3, 1, 2, 0] → isI64 z := by
    intro z hz
    obtain ⟨i, hi, rfl⟩ := List.mem_map.1 hz
    simp only [List.mem_cons, List.not_mem_nil, or_false] at hi
    rcases hi with rfl | rfl | rfl | rfl <;> (unfold isI64; omega)
  have hl6 := litRow w6 (natsI [3, 1, 2, 0]) hz4 (by decide)
  have hE7 := (Ext.refl w6).alloc (.cells ((natsI [3, 1, 2, 0]).map (Value.int .i64)).toArray 3)
  have HV6 := Lib.hid (OwnN.row (hE7.own HO6.out) hz4)
  have HL6 := Lib.hid hl6
  have HE7 := Lib.hid (HE6.out.trans hE7)
  clear hl6 hE7 HO6 HE6
  go_wp2_with fail
  refine (ints16_any (natsI [3, 1, 2, 0]) (natsI [3, 1, 2, 0]) _ _ _ HV6.out HL6.out).mono ?_
  rintro e w7 ⟨he, hE8⟩
  rw [decide_eq_true rfl] at he
  subst he
  have HE8 := Lib.hid (HE7.out.trans hE8)
  clear hE8 HE7 HV6 HL6
  have hz2 : ∀ z, z ∈ ([0, 1] : List Int) → isI64 z := by intro z hz; simp only [List.mem_cons, List.not_mem_nil, or_false] at hz; rcases hz with rfl | rfl <;> (unfold isI64; omega)
  have hl7 := litRow w7 [0, 1] hz2 (by decide)
  have hE9 := (Ext.refl w7).alloc (.cells (([0, 1] : List Int).map (Value.int .i64)).toArray 3)
  have HL7 := Lib.hid hl7
  have HE9 := Lib.hid (HE8.out.trans hE9)
  clear hl7 hE9 HE8
  go_wp2_with fail
  refine (ints16_any [0, 1] [0, 1] _ _ _ (HV3.out.ext HE9.out) HL7.out).mono ?_
  rintro e w8 ⟨he, hE10⟩
  rw [decide_eq_true rfl] at he
  subst he
  have HE10 := Lib.hid (HE9.out.trans hE10)
  clear hE10 HE9 HL7 HV3
  go_wp2_with fail
  refine (wakes_any awV (by decide) (by decide) 1 w8 _ (HR5.out.ext HE10.out)).mono ?_
  rintro e w9 ⟨v9, rfl, ho9, hE11⟩
  rw [aw_wakes2] at ho9
  have HO9 := Lib.hid ho9
  have HE11 := Lib.hid (HE10.out.trans hE11)
  clear ho9 hE11 HE10
  have hz9 : ∀ z, z ∈ natsI [2] → isI64 z := by
    intro z hz
    obtain ⟨i, hi, rfl⟩ := List.mem_map.1 hz
    simp only [List.mem_cons, List.not_mem_nil, or_false] at hi
    subst hi
    unfold isI64; omega
  have hl9 := litRow w9 (natsI [2]) hz9 (by decide)
  have hE12 := (Ext.refl w9).alloc (.cells ((natsI [2]).map (Value.int .i64)).toArray 3)
  have HV9 := Lib.hid (OwnN.row (hE12.own HO9.out) hz9)
  have HL9 := Lib.hid hl9
  have HE12 := Lib.hid (HE11.out.trans hE12)
  clear hl9 hE12 HO9 HE11
  go_wp2_with fail
  refine (ints16_any (natsI [2]) (natsI [2]) _ _ _ HV9.out HL9.out).mono ?_
  rintro e w10 ⟨he, hE13⟩
  rw [decide_eq_true rfl] at he
  subst he
  have HE13 := Lib.hid (HE5.out.trans (HE12.out.trans hE13))
  clear hE13 HE12 HV9 HL9
  go_wp2
  go_ret
  exact ⟨rfl, HE13.out⟩
end Go.Proofs.YtbciamploeejiaaGreatDoor

open Go.RowKit Go.Shelf
namespace Fm
open Go Go.RowKit
/-- No node is after anything: its slice is nil. -/
def Six (w : World) (A : Option Addr) (n : Nat) : Prop := ∀ b, A = some ⟨b, 0, none⟩ → ∀ k, k < n → w.cell? ⟨b, k * 16 + 6, none⟩ = some (.slice none 0 0)
theorem Six.ext {w w' : World} {A : Option Addr} {n : Nat} (h : Six w A n) (hE : Ext w w') (hl : ∀ b, A = some ⟨b, 0, none⟩ → b < w.heap.size) : Six w' A n := fun b hb k hk => (hE.cell (p := ⟨b, k * 16 + 6, none⟩) (hl b hb)).trans (h b hb k hk)
theorem Six.more {w w' : World} {A : Option Addr} {n C C' g base : Nat} {e : TypeId} {xs D : List Value} (h : Six w A n) (ho : w.ownsRow base e 16 (.slice A n C) n xs) (hn : w'.ownsRow base e 16 (.slice (some ⟨g, 0, none⟩) (n + 1) C') (n + 1) (xs ++ D)) (h6 : D[6]? = some (.slice none 0 0)) : Six w' (some ⟨g, 0, none⟩) (n + 1) := by
  intro b hb k hk
  injection hb with hb
  injection hb with hb
  subst hb
  have hxl : xs.length = n * 16 := ho.1
  rw [World.ownsRow.cellAt hn (k * 16 + 6) (by omega)]
  by_cases hkn : k < n
  · rw [List.getElem?_append_left (by omega)]
    obtain ⟨g0, c0, hA, -, -⟩ := World.ownsRow.form ho (by omega)
    injection hA with hA1 hA2 hA3
    subst hA1
    rw [← World.ownsRow.cellAt (cap := C) ho (k * 16 + 6) (by omega)]
    exact h g0 rfl k hkn
  · have : k = n := by omega
    subst this
    rw [List.getElem?_append_right (by omega), hxl, show k * 16 + 6 - k * 16 = 6 by omega]
    exact h6
end Fm
namespace Go.Proofs.YtbciamploeejiaaGreatDoor
open Go Go.Proofs Fm
attribute [local go_sem] Oper.semAt_some

set_option maxRecDepth 100000 in
set_option maxHeartbeats 4000000 in
theorem forestw_any (l : List Int) (w : World) (v : Value) (h : intE.Row w l v) :
    Calls Tryz.prog 20 #[v] w fun e w' => ∃ A C, e = .returned (.slice A (forestF l).length C) ∧ FreeN 38 w.heap.size w' (.slice A (forestF l).length C) (forestF l) ∧ Six w' A (forestF l).length ∧ Ext w w' := by
  have HR := Lib.hid h
  obtain ⟨a, c, rfl, hc1, hc2⟩ := h.slice
  obtain ⟨LN, hLN⟩ : ∃ LN, LN = min l.length 60 := ⟨_, rfl⟩
  have hmin : min (l.length : Int) 60 = (LN : Int) := by omega
  have hs := slice_int_to a l.length c LN (by omega)
  have hL60 : LN ≤ 60 := by omega
  have HLl := Lib.hid (show LN ≤ l.length by omega)
  have HLN := Lib.hid hLN
  clear h hLN hc1
  go_enter Tryz.func20, Tryz.ntmps20
  go_upto_region 2 with (fail)
  go_wp2_with fail
  clear hmin hs
  go_loopw [3, 14] (fun o i wr => ∃ (j : Nat) (A : Option Addr) (C : Nat), j ≤ LN ∧ i = .int .i64 j ∧ o = .slice A j C ∧ Hid (Ext w wr) ∧ Hid (FreeN 38 w.heap.size wr (.slice A j C) (forestTo l j)) ∧ Hid (Six wr A j)) (fun _ i _ => LN - (intOf i).toNat)
  case atStart => exact ⟨0, none, 0, by omega, rfl, rfl, Lib.hid (Ext.refl w), Lib.hid (FreeN.nil _ _ _), Lib.hid (fun b _ k hk => by omega)⟩
  case round =>
    obtain ⟨j, A, C, hj, rfl, rfl, HE, HO, HS6⟩ := hrel
    by_cases hlt : j < LN
    case neg =>
      have HX := Lib.hid (show forestTo l j = forestF l by unfold forestF; rw [← HLN.out, show j = LN by omega])
      go_wp2
      go_ret
      have hfl : j = (forestF l).length := by rw [forestF_len, ← HLN.out]; omega
      exact ⟨A, C, by rw [← hfl]; rfl, by rw [← hfl, ← HX.out]; exact HO.out, by rw [← hfl]; exact HS6.out, HE.out⟩
    have hi' : j < l.length := by have := HLl.out; omega
    obtain ⟨b, off, rfl, hb, hcell, hi6⟩ := int_at HR.out HE.out j hi'
    have hj0 : (0 : Int) ≤ (j : Int) := by omega
    have hj1 : (j : Int) < (LN : Int) := by omega
    have HSl := Lib.hid HO.out.lt
    have HT := Lib.hid (show forestTo l (j + 1) = forestTo l j ++ [forestN (forestTo l j) l[j]] by rw [forestTo, List.getD_eq_getElem?_getD, List.getElem?_eq_getElem hi', Option.getD_some])
    obtain ⟨x, hx⟩ : ∃ x, x = l[j] := ⟨_, rfl⟩
    rw [← hx] at hcell hi6 HT
    clear hx
    obtain ⟨y, hy⟩ : ∃ y, y = x % 256 := ⟨_, rfl⟩
    have hb2 : bits BinOp.and IntKind.i64 x 255 = y := by rw [and255, hy]
    have hy0 : 0 ≤ y ∧ y ≤ 255 := by
      have h1 := Int.emod_nonneg x (show (256 : Int) ≠ 0 by decide)
      have h2 := Int.emod_lt_of_pos x (show (0 : Int) < 256 by decide)
      omega
    obtain ⟨o, ho⟩ : ∃ o : Nat, (o : Int) = y % ((j : Int) + 3) := ⟨(y % ((j : Int) + 3)).toNat, by have := Int.emod_nonneg y (show (j : Int) + 3 ≠ 0 by omega); omega⟩
    have hm1 : y % ((j : Int) + 3) = (o : Int) := ho.symm
    have hm2 : y.tmod ((j : Int) + 3) = (o : Int) := by rw [Int.tmod_eq_emod_of_nonneg hy0.1]; exact hm1
    obtain ⟨f1, hf1⟩ : ∃ f1, f1 = x / 256 % 2 := ⟨_, rfl⟩
    have hb1 : bits BinOp.and IntKind.i64 (x / 256) 1 = f1 := by rw [and1, hf1]
    have hf0 : 0 ≤ f1 ∧ f1 ≤ 1 := by
      have h1 := Int.emod_nonneg (x / 256) (show (2 : Int) ≠ 0 by decide)
      have h2 := Int.emod_lt_of_pos (x / 256) (show (0 : Int) < 2 by decide)
      omega
    have HFN := Lib.hid (show forestN (forestTo l j) x = if o < j then ndFl (nthF (forestTo l j) o).flow o else ndFl f1 (-1) by
      unfold forestN
      rw [forestTo_len, ← hy, ← ho, ← hf1]
      by_cases h : o < j
      · rw [if_pos h, if_pos (by omega)]
      · rw [if_neg h, if_neg (by omega)])
    have HY := Lib.hid hy0
    have HF := Lib.hid hf0
    clear hy ho hf1
    obtain ⟨Cm, hCm⟩ : ∃ Cm, Cm = flC f1 (-1) := ⟨_, rfl⟩
    have HMG : Hid ((Value.agg #[.string { data := #[] }, .string { data := #[] }, .int .u8 0, .int .i64 f1, .int .i64 (-1), .int .i64 0, .slice none 0 0, .int .i64 0, .int .i64 0, .int .u8 0, .int .i64 0, .int .i64 0, .int .u8 0, .int .i64 0, .string { data := #[] }, .slice none 0 0]) = .agg Cm.toArray) := Lib.hid (by rw [hCm]; rfl)
    have HCm := Lib.hid hCm
    have HL16 := Lib.hid (show Cm.length = 16 by rw [hCm]; rfl)
    have HN1 := Lib.hid (show ∀ u, u ∈ Cm → u.oneCell' = true by rw [hCm]; intro u hu; simp only [flC, List.mem_cons, List.not_mem_nil, or_false] at hu; rcases hu with rfl | rfl | rfl | rfl | rfl | rfl | rfl | rfl | rfl | rfl | rfl | rfl | rfl | rfl | rfl | rfl <;> rfl)
    clear hCm
    go_upto_region 6 with (refine wpList_storeBox rfl _ _ _ rfl _ _ _ _ rfl rfl rfl (by exact HMG.out) sizenode_F rfl HL16.out HN1.out ?_)
    have hB1 := BoxL.new wr Cm 38
    have hE1 := (Ext.refl wr).alloc (.cells Cm.toArray 38)
    have hO1 := HO.out.ext hE1
    have HE1 := Lib.hid (HE.out.trans hE1)
    have hNB : w.heap.size ≤ wr.heap.size := HE.out.size
    have hNB2 : wr.heap.size < (wr.alloc (.cells Cm.toArray 38)).heap.size := by simp
    have hgl2 := HO.out.lt
    have HE01 := Lib.hid hE1
    generalize wr.alloc (.cells Cm.toArray 38) = W1 at *
    obtain ⟨NB, hNBe⟩ : ∃ NB, NB = wr.heap.size := ⟨_, rfl⟩
    rw [← hNBe] at hB1 hNB hNB2 hgl2 ⊢
    have HNBe := Lib.hid hNBe
    clear hNBe
    rw [HCm.out] at hB1
    have HB1 := Lib.hid hB1
    have HO1 := Lib.hid hO1
    clear hB1 hE1 HMG HN1 hO1
    by_cases hoj : o < j
    case' pos =>
      obtain ⟨g, cap, hA, hg1, hg2⟩ := HO1.out.form (by rw [forestTo_len]; omega)
      rw [forestTo_len] at hA
      injection hA with hA1 hA2 hA3
      subst hA1 hA3
      have hgN : g < NB := (hgl2 g rfl).2
      obtain ⟨b', off', e', hb', aa, ma, ca, kk, N, s, d, ⟨-, -, -, x3, -⟩, hnv⟩ := nd_at16 HO1.out.row (Ext.refl W1) o (by rw [forestTo_len]; exact hoj)
      injection e' with e'
      injection e' with e1' e2'
      subst e1' e2'
      have hfw := hnv.wf.2.2.1
      have hol : o < (forestTo l j).length := by rw [forestTo_len]; exact hoj
      have HFN2 := Lib.hid (show forestN (forestTo l j) x = ndFl (forestTo l j)[o].flow o by rw [HFN.out, if_pos hoj, nthF_at])
      obtain ⟨f2, hf2⟩ : ∃ f2, f2 = (forestTo l j)[o].flow := ⟨_, rfl⟩
      rw [← hf2] at x3 hfw HFN2
      rw [Nat.zero_add] at x3
      have hne1 : g ≠ NB := by omega
      have hne2 : NB ≠ g := by omega
      have y3 := HB1.out.cell 3 _ rfl
      have y4 := HB1.out.cell 4 _ rfl
      have z3 := HB1.out.free 3
      have z4 := HB1.out.free 4
      have HFW := Lib.hid hfw
      clear hf2 hnv hfw hb'
      go_wp2_with fail
      go_region
      have hE2 : Ext wr (((W1.setCell ⟨NB, 4, none⟩ (.int .i64 (o : Int))).setCell ⟨NB, 3, none⟩ (.int .i64 f2)).drew) := ((HE01.out.setCell (p := ⟨NB, 4, none⟩) (by show wr.heap.size ≤ NB; have := HNBe.out; omega) _).setCell (p := ⟨NB, 3, none⟩) (by show wr.heap.size ≤ NB; have := HNBe.out; omega) _).drew
      have hB2 := ((HB1.out.set 4 (by simp [flC]) (.int .i64 (o : Int))).set 3 (by simp [flC]) (.int .i64 f2)).ext (Ext.refl _).drew
      generalize ((W1.setCell ⟨NB, 4, none⟩ (.int .i64 (o : Int))).setCell ⟨NB, 3, none⟩ (.int .i64 f2)).drew = W2 at *
      have HB2 := Lib.hid (show BoxL W2 NB (flC f2 (o : Int)) from hB2)
      have HV2 := Lib.hid (fun W => ndFl_v HFW.out (show isI64 (o : Int) by unfold isI64; omega) W)
      have HO2 := Lib.hid (HO.out.ext hE2)
      have HS2 := Lib.hid (HS6.out.ext hE2 (fun b hb => by injection hb with hb; injection hb with hb; rw [← hb]; exact (HSl.out g rfl).2))
      have HC6 := Lib.hid (show (flC f2 (o : Int))[6]? = some (.slice none 0 0) from rfl)
      have HE2 := Lib.hid (HE.out.trans hE2)
      obtain ⟨A', hA'⟩ : ∃ A' : Option Addr, A' = some ⟨g, 0, none⟩ := ⟨_, rfl⟩
      obtain ⟨Cn, hCn⟩ : ∃ Cn, Cn = flC f2 (o : Int) := ⟨_, rfl⟩
      obtain ⟨nn, hnn⟩ : ∃ nn, nn = ndFl f2 (o : Int) := ⟨_, rfl⟩
      have hNN := HFN2.out.trans hnn.symm
      rw [← hCn] at HB2 HC6
      rw [← hCn, ← hnn] at HV2
      have hC16 : Cn.length = 16 := by rw [hCn]; rfl
      clear hB2 hE2 hCn hnn x3 y3 y4 z3 z4
    case' neg =>
      have hNN := HFN.out
      rw [if_neg hoj] at hNN
      have HV2 := Lib.hid (fun W => ndFl_v (show isI64 f1 by have := HF.out; unfold isI64; omega) (show isI64 (-1) by unfold isI64; omega) W)
      obtain ⟨W2, hW2⟩ : ∃ W2, W2 = W1 := ⟨_, rfl⟩
      have HO2 := Lib.hid (show FreeN 38 w.heap.size W2 (.slice A j C) (forestTo l j) by rw [hW2]; exact HO1.out)
      have HE2 := Lib.hid (show Ext w W2 by rw [hW2]; exact HE1.out)
      have HS2 := Lib.hid (show Six W2 A j by rw [hW2]; exact HS6.out.ext HE01.out (fun b hb => by rw [hb] at HSl; exact (HSl.out b rfl).2))
      have HC6 := Lib.hid (show (flC f1 (-1))[6]? = some (.slice none 0 0) from rfl)
      obtain ⟨Cn, hCn⟩ : ∃ Cn, Cn = flC f1 (-1) := ⟨_, rfl⟩
      have HB2 := Lib.hid (show BoxL W2 NB Cn by rw [hW2, hCn]; exact HB1.out)
      obtain ⟨nn, hnn⟩ : ∃ nn, nn = ndFl f1 (-1) := ⟨_, rfl⟩
      rw [← hnn] at hNN
      rw [← hCn, ← hnn] at HV2
      rw [← hCn] at HC6
      have hC16 : Cn.length = 16 := by rw [hCn]; rfl
      rw [← hW2]
      clear hCn hnn hW2
      go_upto_region 9 with (fail)
    all_goals
      have HNN := Lib.hid hNN
      have hN1 := (ndV_one (HV2.out W2)).2
      have HR2 : Hid (W2.rangeAt NB 0 Cn) := Lib.hid (fun p v hp => by rw [Nat.zero_add]; exact HB2.out.cell p v hp)
      have HLn' : Hid ((Tryz.prog.info? 38).map (·.size) = some Cn.length) := Lib.hid (by rw [hC16]; exact sizenode_F)
      have hEa := (Ext.refl W2).alloc (.cells Cn.toArray 38)
      obtain ⟨ts, hts, hmore⟩ := (HO2.out.ext hEa).rowOf
      rw [forestTo_len] at hts hmore
      have HTs := Lib.hid hts
      have HMore := Lib.hid hmore
      have HC16 := Lib.hid hC16
      have HC1 := Lib.hid hN1
      have HRb := Lib.hid (show (W2.alloc (.cells Cn.toArray 38)).rangeAt W2.heap.size 0 Cn from rangeAt_new W2 Cn 38)
      have HEb := Lib.hid (HE2.out.trans hEa)
      have HLt := Lib.hid (HO2.out.ext hEa).lt
      have HS3 := Lib.hid (HS2.out.ext hEa (fun b hb => by first | exact (HO2.out.lt b (by rw [hb]; rfl)).2 | (injection hb with hb; injection hb with hb; rw [← hb]; exact (HO2.out.lt g rfl).2)))
      clear hNN hN1 hC16 hEa hts hmore HO2 HB2 HO1 HB1 HO HE HE01 HE1 HCm HFN hb1 hb2 hm1 hm2 hcell
      go_wp2_with (first | (refine wpList_load_mid rfl _ _ rfl _ _ rfl _ _ HR2.out Tryz.underlying38 rfl HLn'.out ?_) | (refine wpList_nodesC (C := Cn) (by rfl) (.tmp 41) rfl rfl HC16.out ?_) | (at_builtin; refine wpList_appOneM elemnode_F rfl _ _ rfl rfl HTs.out rfl HRb.out HC16.out HC1.out (by omega) (by omega) HEb.out.size ?_))
      intro v' w5 hown' hgrow _
      obtain ⟨g', cap', rfl⟩ := ownsRow_succ hown'
      have HO5 := Lib.hid (HMore.out w5 (.slice (some ⟨g', 0, none⟩) (j + 1) cap') nn Cn HC16.out (by simpa using hown') HV2.out)
      have HE5 := Lib.hid (HEb.out.grown hgrow (fun k e => (HLt.out k e).1))
      have HT5 := Lib.hid (show forestTo l (j + 1) = forestTo l j ++ [nn] by rw [HT.out, HNN.out])
      have HS5 := Lib.hid (Six.more HS3.out HTs.out hown' HC6.out)
      clear hown' hgrow
      go_wp2
      go_roundw
      case rel => exact ⟨j + 1, _, _, by omega, by go_num, rfl, HE5, Lib.hid (by rw [HT5.out]; exact HO5.out), HS5⟩
      case measure => simp [intOf]; omega
end Go.Proofs.YtbciamploeejiaaGreatDoor

namespace Fm
open Go Go.RowKit

def someIds : List (List UInt8) := [[48, 47, 97], [48, 47, 98], [49, 47, 97, 91, 50, 93], [49, 47, 97, 91, 49, 48, 93], [48, 47, 97, 47, 99], [], [120], [50]]
def someA (x : Int) (k : Nat) : List Int := (List.range k).map (fun i => x / (2 ^ i : Nat) % 16 - 1)
def someG (l : List Int) (i : Nat) (n : Nd) : Nd :=
  { n with id := someIds.getD (l.getD i 0 / 4 % 8).toNat [], stand := UInt8.ofNat (l.getD i 0 / 16 % 8 % 7).toNat, fails := l.getD i 0 / 128 % 2, after := someA (l.getD i 0) (l.getD i 0 / 32 % 4).toNat }
def someF (l : List Int) : List Nd := chgF (someG l) (forestF l)
theorem someF_len (l : List Int) : (someF l).length = min l.length 60 := by unfold someF; rw [chgF_len, forestF_len]
theorem someF_right (l : List Int) : RightO (someF l) := chgF_right (forestTo_right l _) (fun _ _ => ⟨rfl, rfl⟩)
theorem someF_le (l : List Int) : (someF l).length ≤ 60 := by rw [someF_len]; omega
theorem someIds_le (k : Nat) : (someIds.getD k []).length ≤ 8 := by
  by_cases h : k < 8
  · rcases (by omega : k = 0 ∨ k = 1 ∨ k = 2 ∨ k = 3 ∨ k = 4 ∨ k = 5 ∨ k = 6 ∨ k = 7) with rfl | rfl | rfl | rfl | rfl | rfl | rfl | rfl <;> decide
  · rw [List.getD_eq_getElem?_getD, List.getElem?_eq_none (by simp [someIds]; omega)]
    decide
theorem someA_len (x : Int) (k : Nat) : (someA x k).length = k := by unfold someA; simp
theorem someA_succ (x : Int) (k : Nat) : someA x (k + 1) = someA x k ++ [x / (2 ^ k : Nat) % 16 - 1] := by
  unfold someA
  rw [List.range_succ, List.map_append]
  rfl
theorem someA_i64 (x : Int) (k : Nat) : ∀ z, z ∈ someA x k → isI64 z := by
  intro z hz
  unfold someA at hz
  obtain ⟨i, -, rfl⟩ := List.mem_map.1 hz
  have h1 := Int.emod_nonneg (x / (2 ^ i : Nat)) (show (16 : Int) ≠ 0 by decide)
  have h2 := Int.emod_lt_of_pos (x / (2 ^ i : Nat)) (show (0 : Int) < 16 by decide)
  unfold isI64
  omega
theorem someF_mem {l : List Int} {n : Nd} (h : n ∈ someF l) : n.id.length ≤ 1000000 ∧ n.after.length ≤ 100000 := by
  obtain ⟨i, hi, rfl⟩ := List.getElem_of_mem h
  have hl : i < (forestF l).length := by unfold someF at hi; rw [chgF_len] at hi; exact hi
  rw [show (someF l)[i] = someG l i (forestF l)[i] from chgF_at (someG l) (forestF l) i hi hl]
  refine ⟨Nat.le_trans (someIds_le _) (by omega), ?_⟩
  show (someA _ _).length ≤ 100000
  rw [someA_len]
  have := Int.emod_lt_of_pos (l.getD i 0 / 32) (show (0 : Int) < 4 by decide)
  omega
theorem ndV_idR {w : World} {n : Nd} {C : List Value} (h : NdV w n (.agg C.toArray)) {s : List UInt8} (hs : s.length ≤ 9223372036854775807) : NdV w { n with id := s } (.agg (C.set 0 (.string (str s))).toArray) := by
  obtain ⟨a, m, c, k, N, S, d, e, h1, h2, h3, h4, h5⟩ := h
  injection e with e
  injection e with e
  subst e
  exact ⟨a, m, c, k, N, S, d, rfl, h1, h2, hs, h4, h5⟩
theorem set_same {α : Type} {l : List α} {i : Nat} {v : α} (h : l[i]? = some v) : l.set i v = l := by
  obtain ⟨hi, rfl⟩ := List.getElem?_eq_some_iff.1 h
  exact List.set_getElem_self hi
/-- One node is after others now. -/
theorem HeldN.afterR {eN : TypeId} {base g cap : Nat} {w W : World} {l : List Nd} {cs : List (List Value)} (h1 : cs.length = l.length) (h3 : ∀ (i : Nat) (hi : i < l.length) (hc : i < cs.length), FarNd w (some g) l[i] cs[i]) {i : Nat} (hi : i < l.length)
    {a : Option Addr} {m c : Nat} {af : List Int} (hrow : W.ownsRow base eN 16 (.slice (some ⟨g, 0, none⟩) l.length cap) l.length (cs.flatten.set (i * 16 + 6) (.slice a m c))) (hg : w.grownBy W (some g)) (ha : ∀ w', W.grownBy w' (some g) → intE.Row w' af (.slice a m c)) :
    HeldN eN base W (.slice (some ⟨g, 0, none⟩) l.length cap) (l.set i { l[i] with after := af }) := by
  have h16 : ∀ D, D ∈ cs → D.length = 16 := fun D hD => by
    obtain ⟨k, hk, rfl⟩ := List.getElem_of_mem hD
    exact (h3 k (by omega) hk).1
  have hc : i < cs.length := by omega
  refine ⟨cs.set i (cs[i].set 6 (.slice a m c)), by simp [h1], ?_, fun k hk hd => ?_⟩
  · rw [List.length_set, ← flat16_set1 hc h16 (by omega)]
    exact hrow
  · have hk' : k < l.length := by simpa using hk
    have hd' : k < cs.length := by simpa using hd
    by_cases e : i = k
    · subst e
      rw [List.getElem_set_self, List.getElem_set_self]
      exact farNd_of (fun w' hw' => ndV_after ((h3 i hi hc).2.2 w' (grown_trans hg hw')) (ha w' hw'))
    · rw [List.getElem_set_ne e, List.getElem_set_ne e]
      exact (h3 k hk' hd').then hg (.inl rfl)
theorem HeldN.relen {eN : TypeId} {base n m cap : Nat} {w : World} {a : Option Addr} {l : List Nd} (h : HeldN eN base w (.slice a n cap) l) (e : n = m) : HeldN eN base w (.slice a m cap) l := by subst e; exact h
theorem HeldN.putSF {eN : TypeId} {base g cap n : Nat} {w : World} {l : List Nd} (h : HeldN eN base w (.slice (some ⟨g, 0, none⟩) n cap) l) (hn : l.length = n) {i : Nat} (hi : i < l.length) {z : Nat} (hz : z < 256) {fl : Int} (hf : isI64 fl) :
    HeldN eN base ((w.setCell ⟨g, i * 16 + 9, none⟩ (.int .u8 (z : Int))).setCell ⟨g, i * 16 + 10, none⟩ (.int .i64 fl)) (.slice (some ⟨g, 0, none⟩) n cap) (l.set i { l[i] with stand := UInt8.ofNat z, fails := fl }) ∧ w.grownBy ((w.setCell ⟨g, i * 16 + 9, none⟩ (.int .u8 (z : Int))).setCell ⟨g, i * 16 + 10, none⟩ (.int .i64 fl)) (some g) := by
  have hzz : (UInt8.ofNat z).toNat = z := UInt8.toNat_ofNat_of_lt' hz
  have h1 := (h.relen hn.symm).put hi 9 (by omega) (.int .u8 (z : Int)) { l[i] with stand := UInt8.ofNat z } (fun w' C hC => by have := ndV_stand hC (UInt8.ofNat z); rw [hzz] at this; exact this)
  have hi2 : i < (l.set i { l[i] with stand := UInt8.ofNat z }).length := by simpa using hi
  have h2 := (h1.1.relen (show l.length = (l.set i { l[i] with stand := UInt8.ofNat z }).length by simp)).put hi2 10 (by omega) (.int .i64 fl) { l[i] with stand := UInt8.ofNat z, fails := fl } (fun w' C hC => by
    rw [List.getElem_set_self] at hC
    exact ndV_fails hC hf)
  refine ⟨?_, grown_trans h1.2 h2.2⟩
  have := h2.1.relen (show (l.set i { l[i] with stand := UInt8.ofNat z }).length = n by simpa using hn)
  rw [List.set_set] at this
  exact this
theorem HeldN.putId {eN : TypeId} {base g cap n : Nat} {w : World} {l : List Nd} (h : HeldN eN base w (.slice (some ⟨g, 0, none⟩) n cap) l) (hn : l.length = n) {i : Nat} (hi : i < l.length) {s : List UInt8} (hs : s.length ≤ 9223372036854775807) :
    HeldN eN base (w.setCell ⟨g, i * 16, none⟩ (.string (str s))) (.slice (some ⟨g, 0, none⟩) n cap) (l.set i { l[i] with id := s }) ∧ w.grownBy (w.setCell ⟨g, i * 16, none⟩ (.string (str s))) (some g) := by
  have h1 := (h.relen hn.symm).put hi 0 (by omega) (.string (str s)) { l[i] with id := s } (fun w' C hC => ndV_idR hC hs)
  exact ⟨h1.1.relen hn, h1.2⟩
theorem six_put {w : World} {g o k : Nat} {u v : Value} (h : w.cell? ⟨g, k * 16 + 6, none⟩ = some v) (ho : o % 16 ≠ 6) : (w.setCell ⟨g, o, none⟩ u).cell? ⟨g, k * 16 + 6, none⟩ = some v := by
  rw [World.cell?_setCell_other _ _ _ _ (fun e => ho (by injection e with _ e _; omega)), h]
theorem six_row {base e n cap g p : Nat} {w W : World} {xs : List Value} {va v : Value} {k : Nat} (h : w.ownsRow base e 16 (.slice (some ⟨g, 0, none⟩) n cap) n xs) (h2 : W.ownsRow base e 16 (.slice (some ⟨g, 0, none⟩) n cap) n (xs.set p va)) (hk : k < n) (hp : p ≠ k * 16 + 6) (hc : w.cell? ⟨g, k * 16 + 6, none⟩ = some v) : W.cell? ⟨g, k * 16 + 6, none⟩ = some v := by
  rw [World.ownsRow.cellAt h2 (k * 16 + 6) (by omega), List.getElem?_set_ne hp, ← World.ownsRow.cellAt h (k * 16 + 6) (by omega)]
  exact hc
end Fm

open Go.RowKit Go.Shelf
namespace Go.Proofs.YtbciamploeejiaaGreatDoor
open Go Go.Proofs Fm
attribute [local go_sem] Oper.semAt_some

set_option maxRecDepth 100000 in
set_option maxHeartbeats 8000000 in
theorem some_any (l : List Int) (w : World) (v : Value) (h : intE.Row w l v) :
    Calls Tryz.prog 6 #[v] w fun e w' => ∃ A C, e = .returned (.slice A (someF l).length C) ∧ HeldN 38 w.heap.size w' (.slice A (someF l).length C) (someF l) ∧ Ext w w' := by
  have HR := Lib.hid h
  have HF := Lib.hid (forestw_any l w v h)
  obtain ⟨a, c, rfl, hc1, hc2⟩ := h.slice
  obtain ⟨LN, hLN⟩ : ∃ LN, LN = min l.length 60 := ⟨_, rfl⟩
  have HLN := Lib.hid hLN
  have HFl := Lib.hid (show (forestF l).length = LN by rw [forestF_len, hLN])
  have hL60 : LN ≤ 60 := by omega
  have hLl : LN ≤ l.length := by omega
  have HSl := Lib.hid (show (someF l).length = LN by rw [someF_len, hLN])
  rw [HFl.out] at HF
  rw [HSl.out]
  clear h hLN
  go_enter Tryz.func6, Tryz.ntmps6
  go_wp2_with fail
  refine HF.out.mono ?_
  rintro e w1 ⟨A, C, rfl, hfr, hsix, hE1⟩
  have HH0 := Lib.hid (show HeldN 38 w.heap.size w1 (.slice A LN C) (chgTo (someG l) (forestF l) 0) by rw [chgTo_zero]; exact hfr.held)
  have HS0 := Lib.hid hsix
  have HE1 := Lib.hid hE1
  clear hfr hsix hE1 HF
  go_wp2_with fail
  go_loopw [11] (fun i wr => ∃ j : Nat, j ≤ LN ∧ i = .int .i64 (j : Int) ∧ Hid (Ext w wr) ∧ Hid (HeldN 38 w.heap.size wr (.slice A LN C) (chgTo (someG l) (forestF l) j)) ∧ Hid (∀ b, A = some ⟨b, 0, none⟩ → ∀ k, j ≤ k → k < LN → wr.cell? ⟨b, k * 16 + 6, none⟩ = some (.slice none 0 0))) (fun i _ => LN - (intOf i).toNat)
  case atStart => exact ⟨0, by omega, rfl, HE1, HH0, Lib.hid (fun b hb k _ hk => HS0.out b hb k hk)⟩
  case round =>
    clear HH0 HS0 HE1
    obtain ⟨j, hj, rfl, HE, HH, HS⟩ := hrel
    by_cases hlt : j < LN
    case neg =>
      have HX := Lib.hid (show HeldN 38 w.heap.size wr (.slice A LN C) (someF l) by
        have := HH.out
        rw [show j = (forestF l).length by rw [HFl.out]; omega, chgTo_all] at this
        exact this)
      go_wp2
      go_ret
      exact ⟨A, C, rfl, HX.out, HE.out⟩
    have hjl : j < l.length := by omega
    have hjF : j < (forestF l).length := by rw [HFl.out]; exact hlt
    have hcl : (chgTo (someG l) (forestF l) j).length = LN := by rw [chgTo_len, HFl.out]
    obtain ⟨bx, offx, rfl, hbx, hcell, hx6⟩ := int_at HR.out HE.out j hjl
    obtain ⟨g, C', hA, hg1, hg2⟩ := HH.out.form (by rw [hcl]; omega)
    rw [hcl] at hA
    injection hA with hA1 hA2 hA3
    subst hA1 hA3
    have hj0 : (0 : Int) ≤ (j : Int) := by omega
    have hj1 : (j : Int) < (LN : Int) := by omega
    have hj2 : (j : Int) < (l.length : Int) := by omega
    obtain ⟨x, hx⟩ : ∃ x, x = l[j] := ⟨_, rfl⟩
    have HXg := Lib.hid (show l.getD j 0 = x by rw [List.getD_eq_getElem?_getD, List.getElem?_eq_getElem hjl, Option.getD_some, hx])
    rw [← hx] at hcell hx6
    clear hx
    -- the numbers
    obtain ⟨y, hy⟩ : ∃ y : Nat, (y : Int) = x / 16 % 8 := ⟨(x / 16 % 8).toNat, by have := Int.emod_nonneg (x / 16) (show (8 : Int) ≠ 0 by decide); omega⟩
    have hy8 : y < 8 := by have := Int.emod_lt_of_pos (x / 16) (show (0 : Int) < 8 by decide); omega
    obtain ⟨z, hz⟩ : ∃ z : Nat, z = y % 7 := ⟨_, rfl⟩
    have hz7 : z < 7 := by omega
    obtain ⟨fl, hfl⟩ : ∃ fl, fl = x / 128 % 2 := ⟨_, rfl⟩
    have hfl2 : 0 ≤ fl ∧ fl ≤ 1 := by
      have h1 := Int.emod_nonneg (x / 128) (show (2 : Int) ≠ 0 by decide)
      have h2 := Int.emod_lt_of_pos (x / 128) (show (0 : Int) < 2 by decide)
      omega
    obtain ⟨q, hq⟩ : ∃ q : Nat, (q : Int) = x / 4 % 8 := ⟨(x / 4 % 8).toNat, by have := Int.emod_nonneg (x / 4) (show (8 : Int) ≠ 0 by decide); omega⟩
    have hq8 : q < 8 := by have := Int.emod_lt_of_pos (x / 4) (show (0 : Int) < 8 by decide); omega
    obtain ⟨cn, hcn⟩ : ∃ cn : Nat, (cn : Int) = x / 32 % 4 := ⟨(x / 32 % 4).toNat, by have := Int.emod_nonneg (x / 32) (show (4 : Int) ≠ 0 by decide); omega⟩
    have hcn4 : cn < 4 := by have := Int.emod_lt_of_pos (x / 32) (show (0 : Int) < 4 by decide); omega
    have b1 : bits BinOp.and IntKind.i64 (x / 16) 7 = (y : Int) := by rw [and7, hy]
    have b2 : bits BinOp.and IntKind.i64 (x / 128) 1 = fl := by rw [and1, hfl]
    have b3 : bits BinOp.and IntKind.i64 (x / 4) 7 = (q : Int) := by rw [and7, hq]
    have b4 : bits BinOp.and IntKind.i64 (x / 32) 3 = (cn : Int) := by rw [and3, hcn]
    have b5 : (y : Int).tmod 7 = (z : Int) := by rw [Int.tmod_eq_emod_of_nonneg (by omega)]; omega
    have HH1 := Lib.hid (show HeldN 38 w.heap.size wr (.slice (some ⟨g, 0, none⟩) LN C) (chgTo (someG l) (forestF l) j) from HH.out)
    have hjc : j < (chgTo (someG l) (forestF l) j).length := by rw [hcl]; exact hlt
    obtain ⟨⟨u9, c9⟩, z9⟩ := (HH1.out.relen hcl.symm).spot hjc 9 (by omega)
    obtain ⟨⟨u10, c10⟩, z10⟩ := (HH1.out.relen hcl.symm).spot hjc 10 (by omega)
    have hgx : g ≠ bx := by omega
    have HSF := Lib.hid (HH1.out.putSF hcl hjc (show z < 256 by omega) (show isI64 fl by unfold isI64; omega))
    have HS1 := Lib.hid (fun k (h1 : j ≤ k) (h2 : k < LN) => six_put (u := .int .i64 fl) (six_put (u := .int .u8 (z : Int)) (HS.out g rfl k h1 h2) (show (j * 16 + 9) % 16 ≠ 6 by omega)) (show (j * 16 + 10) % 16 ≠ 6 by omega))
    have HZ := Lib.hid hz
    have HY := Lib.hid hy
    have HFl2 := Lib.hid hfl
    have HQ := Lib.hid hq
    have HCN := Lib.hid hcn
    have HG1 := Lib.hid hg1
    clear hz hy hfl hq hcn HH HS hg1
    have HWc := Lib.hid (show w.heap.size ≤ wr.heap.size from HE.out.size)
    go_upto_region 7 with (fail)
    have hE2 : Ext w ((wr.setCell ⟨g, j * 16 + 9, none⟩ (.int .u8 (z : Int))).setCell ⟨g, j * 16 + 10, none⟩ (.int .i64 fl)) := HE.out.grown HSF.out.2 (fun k hk => by injection hk with hk; rw [← hk]; exact HG1.out)
    obtain ⟨W2, hW2⟩ : ∃ W2, W2 = (wr.setCell ⟨g, j * 16 + 9, none⟩ (.int .u8 (z : Int))).setCell ⟨g, j * 16 + 10, none⟩ (.int .i64 fl) := ⟨_, rfl⟩
    rw [← hW2] at HSF HS1 hE2 ⊢
    have hg3 : g < W2.heap.size := by rw [hW2]; simpa using hg2
    have hg4 : g ≠ W2.heap.size := by omega
    have HE2 := Lib.hid hE2
    have HH2 := Lib.hid HSF.out.1
    clear hE2 hW2 HSF HH1 c9 z9 c10 z10 hcell b1 b2 b5 HE
    obtain ⟨L2, hL2⟩ : ∃ L2, L2 = (chgTo (someG l) (forestF l) j).set j { (chgTo (someG l) (forestF l) j)[j] with stand := UInt8.ofNat z, fails := fl } := ⟨_, rfl⟩
    rw [← hL2] at HH2
    have hl2 : L2.length = LN := by rw [hL2, List.length_set]; exact hcl
    have hj2c : j < L2.length := by omega
    have HL2 := Lib.hid hL2
    clear hL2
    obtain ⟨sI, hsI⟩ : ∃ sI, sI = someIds.getD q [] := ⟨_, rfl⟩
    have hsl : sI.length ≤ 9223372036854775807 := by rw [hsI]; have := someIds_le q; omega
    have hB := BoxL.new W2 (someIds.map fun s => Value.string (str s)) 9
    have hq : (someIds.map fun s => Value.string (str s))[q]? = some (.string (str sI)) := by
      rw [List.getElem?_map, hsI, List.getD_eq_getElem?_getD, List.getElem?_eq_getElem (show q < someIds.length from hq8)]
      rfl
    have hcq := hB.cell q _ hq
    have HSI := Lib.hid hsI
    obtain ⟨⟨u0, c0⟩, z0⟩ := (HH2.out.relen hl2.symm).spot hj2c 0 (by omega)
    have c0 : W2.cell? ⟨g, j * 16, none⟩ = some u0 := c0
    have z0 : W2.frozen? ⟨g, j * 16, none⟩ = false := z0
    have hq0 : (0 : Int) ≤ (q : Int) := by omega
    have hq1 : (q : Int) < 8 := by omega
    have HPI := Lib.hid (HH2.out.putId hl2 hj2c hsl)
    have HSP := Lib.hid (fun k (h1 : j ≤ k) (h2 : k < LN) => six_put (u := .string (str sI)) (HS1.out k h1 h2) (show (j * 16) % 16 ≠ 6 by omega))
    clear hB HS1 hq hsI
    rw [show (W2.alloc (.cells (someIds.map fun s => Value.string (str s)).toArray 9)) = W2.alloc (.cells #[.string { data := #[48, 47, 97] }, .string { data := #[48, 47, 98] }, .string { data := #[49, 47, 97, 91, 50, 93] }, .string { data := #[49, 47, 97, 91, 49, 48, 93] }, .string { data := #[48, 47, 97, 47, 99] }, .string { data := #[] }, .string { data := #[120] }, .string { data := #[50] }] 9) from rfl] at hcq
    go_upto_region 8 with (fail)
    have hE3 : Ext w (W2.setCell ⟨g, j * 16, none⟩ (.string (str sI))) := HE2.out.grown HPI.out.2 (fun k hk => by injection hk with hk; rw [← hk]; exact HG1.out)
    have hg5 : g < (W2.setCell ⟨g, j * 16, none⟩ (.string (str sI))).heap.size := by simpa using hg3
    obtain ⟨W3, hW3⟩ : ∃ W3, W3 = W2.setCell ⟨g, j * 16, none⟩ (.string (str sI)) := ⟨_, rfl⟩
    rw [← hW3] at HPI HSP hE3 hg5 ⊢
    have hEb := (Ext.refl W3).alloc (.cells #[.string { data := #[48, 47, 97] }, .string { data := #[48, 47, 98] }, .string { data := #[49, 47, 97, 91, 50, 93] }, .string { data := #[49, 47, 97, 91, 49, 48, 93] }, .string { data := #[48, 47, 97, 47, 99] }, .string { data := #[] }, .string { data := #[120] }, .string { data := #[50] }] 9)
    obtain ⟨L3, hL3⟩ : ∃ L3, L3 = L2.set j { L2[j] with id := sI } := ⟨_, rfl⟩
    rw [← hL3] at HPI
    have hl3 : L3.length = LN := by rw [hL3, List.length_set]; exact hl2
    have hj3c : j < L3.length := by omega
    have HL3 := Lib.hid hL3
    have hHi := HPI.out.1.ext hEb
    have hSi : ∀ k, j ≤ k → k < LN → _ := fun k h1 h2 => (hEb.cell (p := ⟨g, k * 16 + 6, none⟩) hg5).trans (HSP.out k h1 h2)
    have hEi := hE3.trans hEb
    have hgi := Nat.lt_of_lt_of_le hg5 hEb.size
    generalize W3.alloc (.cells #[.string { data := #[48, 47, 97] }, .string { data := #[48, 47, 98] }, .string { data := #[49, 47, 97, 91, 50, 93] }, .string { data := #[49, 47, 97, 91, 49, 48, 93] }, .string { data := #[48, 47, 97, 47, 99] }, .string { data := #[] }, .string { data := #[120] }, .string { data := #[50] }] 9) = Wi at *
    clear hL3 hW3 hEb hE3 HPI HSP HE2 HH2 hcq c0 z0
    have HSi := Lib.hid hSi
    have HEi := Lib.hid hEi
    have HGi := Lib.hid hgi
    obtain ⟨cs, h1, h2, h3⟩ := hHi
    rw [hl3] at h2
    have hxs : cs.flatten.length = LN * 16 := h2.1
    have h6s : cs.flatten[j * 16 + 6]? = some (.slice none 0 0) := by
      rw [← World.ownsRow.cellAt h2 (j * 16 + 6) (by omega)]
      exact hSi j (Nat.le_refl _) hlt
    have HR0 := Lib.hid (show Wi.ownsRow w.heap.size 38 16 (.slice (some ⟨g, 0, none⟩) LN C) LN (cs.flatten.set (j * 16 + 6) (.slice none 0 0)) by rw [set_same h6s]; exact h2)
    have HROW := Lib.hid h2
    have H1 := Lib.hid h1
    have H3 := Lib.hid h3
    obtain ⟨xs, hxs'⟩ : ∃ xs, xs = cs.flatten := ⟨_, rfl⟩
    rw [← hxs'] at HR0 HROW hxs
    have HXS := Lib.hid hxs'
    clear h1 h2 h3 h6s hxs' hSi hEi hgi
    go_wp2_with fail
    go_loopw [47] (fun i wr => ∃ (k : Nat) (aa : Option Addr) (mc : Nat), k ≤ cn ∧ i = .int .i64 (k : Int) ∧ Hid (Wi.grownBy wr (some g)) ∧ Hid (wr.ownsRow w.heap.size 38 16 (.slice (some ⟨g, 0, none⟩) LN C) LN (xs.set (j * 16 + 6) (.slice aa k mc))) ∧ Hid (OwnN 3 Wi.heap.size wr (.slice aa k mc) (someA x k)) ∧ Hid (Ext w wr)) (fun i _ => cn - (intOf i).toNat)
    case atStart => exact ⟨0, none, 0, by omega, rfl, Lib.hid (grown_ext (Ext.refl _) _), HR0, Lib.hid (OwnN.nil _ _ _), HEi⟩
    case round =>
      clear HR0 HEi
      obtain ⟨k, aa, mc, hk, rfl, HG, HRw, HO, HE⟩ := hrel
      by_cases hkc : k < cn
      case neg =>
        have hkk : k = cn := by omega
        have HX := Lib.hid (show HeldN 38 w.heap.size wr (.slice (some ⟨g, 0, none⟩) LN C) (L3.set j { L3[j]'hj3c with after := someA x cn }) by
          have := HeldN.afterR (W := wr) (base := w.heap.size) (eN := 38) (cap := C) H1.out H3.out hj3c (a := aa) (m := k) (c := mc) (af := someA x cn) (by rw [hl3, ← HXS.out]; exact HRw.out) HG.out (fun w' hw' => OwnN.row (World.ownsRow.kept (show OwnN 3 Wi.heap.size wr (.slice aa k mc) (someA x cn) by rw [← hkk]; exact HO.out) hw' (.inr (fun e => by have := (World.ownsRow.lt HO.out g e).1; have := HGi.out; omega))) (someA_i64 x cn))
          exact this.relen hl3)
        have HLx := Lib.hid (show L3.set j { L3[j]'hj3c with after := someA x cn } = chgTo (someG l) (forestF l) (j + 1) by
          rw [chgTo_succ _ _ _ hjF]
          have hat : (chgTo (someG l) (forestF l) j)[j] = (forestF l)[j] := chgTo_at _ _ _ _ hjF
          have e3 : L3[j]'hj3c = { L2[j]'hj2c with id := sI } := by simp only [HL3.out, List.getElem_set_self]
          have e2 : L2[j]'hj2c = { (chgTo (someG l) (forestF l) j)[j] with stand := UInt8.ofNat z, fails := fl } := by simp only [HL2.out, List.getElem_set_self]
          rw [e3, HL3.out, e2, HL2.out, List.set_set, List.set_set, hat]
          unfold someG
          rw [HXg.out, show (x / 4 % 8).toNat = q by have := HQ.out; omega, show (x / 16 % 8 % 7).toNat = z by have := HY.out; have := HZ.out; omega, show (x / 32 % 4).toNat = cn by have := HCN.out; omega, ← HFl2.out, ← HSI.out])
        have HX := Lib.hid (show HeldN 38 w.heap.size wr (.slice (some ⟨g, 0, none⟩) LN C) (chgTo (someG l) (forestF l) (j + 1)) by rw [← HLx.out]; exact HX.out)
        have HSn : Hid (∀ b, (some ⟨g, 0, none⟩ : Option Addr) = some ⟨b, 0, none⟩ → ∀ k', j + 1 ≤ k' → k' < LN → wr.cell? ⟨b, k' * 16 + 6, none⟩ = some (.slice none 0 0)) := Lib.hid (fun b hb k' h1 h2 => by
          injection hb with hb
          injection hb with hb
          subst hb
          exact six_row HROW.out HRw.out h2 (by omega) (HSi.out k' (by omega) h2))
        clear HG HRw HO
        go_wp2_with fail
        go_roundw
        case rel => exact ⟨j + 1, by omega, by go_num, HE, HX, HSn⟩
        case measure => simp [intOf]; omega
      obtain ⟨yk, hyk⟩ : ∃ yk, yk = x / 2 ^ k % 16 := ⟨_, rfl⟩
      have hyk2 : 0 ≤ yk ∧ yk ≤ 15 := by
        have h1 := Int.emod_nonneg (x / 2 ^ k) (show (16 : Int) ≠ 0 by decide)
        have h2 := Int.emod_lt_of_pos (x / 2 ^ k) (show (0 : Int) < 16 by decide)
        omega
      have b6 : bits BinOp.and IntKind.i64 (x / 2 ^ k) 15 = yk := by rw [and15, hyk]
      have b7 : IntKind.i64.wrap (yk - 1) = yk - 1 := IntWalk.i64_in _ (by omega)
      have hgw : g < wr.heap.size := (World.ownsRow.lt HRw.out g rfl).2
      have hgne : g ≠ wr.heap.size := by omega
      have HA := Lib.hid (show someA x (k + 1) = someA x k ++ [yk - 1] by rw [someA_succ, hyk]; simp)
      have hAl := someA_len x k
      clear hyk
      have hc6 : wr.cell? ⟨g, j * 16 + 6, none⟩ = some (.slice aa k mc) := by
        rw [World.ownsRow.cellAt HRw.out (j * 16 + 6) (by omega), List.getElem?_set_self (by omega)]
      have hf6 : wr.frozen? ⟨g, j * 16 + 6, none⟩ = false := World.ownsRow.frozenAt HRw.out _
      have hk0 : (0 : Int) ≤ (k : Int) := by omega
      have hk1 : (k : Int) < (cn : Int) := by omega
      go_upto_region 11 with (fail)
      refine wp_region_held_drew (S := fun _ => True) (by kernel_rfl) trivial (fun hHeld => ?_)
      refine take_w 0 (some 50) (v := ?_) (by kernel_rfl) (by kernel_rfl) (by kernel_rfl) (by kernel_rfl) (by kernel_rfl) (fun _ _ _ h => h) (by rfl) ?_ (by assumption) ?_
      rotate_left
      · (intro w hSw; go_simp; try with_reducible rfl)
      try simp only [Act.put, List.setIfInBounds_toArray, List.set_cons_zero, List.set_cons_succ]
      refine take_w 1 (some 51) (v := ?_) (by kernel_rfl) (by kernel_rfl) (by kernel_rfl) (by kernel_rfl) (by kernel_rfl) (fun _ _ _ h => h) (by rfl) ?_ (by assumption) ?_
      rotate_left
      · (intro w hSw; go_simp; try with_reducible rfl)
      try simp only [Act.put, List.setIfInBounds_toArray, List.set_cons_zero, List.set_cons_succ]
      refine take_w 2 (some 52) (v := ?_) (by kernel_rfl) (by kernel_rfl) (by kernel_rfl) (by kernel_rfl) (by kernel_rfl) (fun _ _ _ h => h) (by rfl) ?_ (by assumption) ?_
      rotate_left
      · (intro w hSw; go_simp; try with_reducible rfl)
      try simp only [Act.put, List.setIfInBounds_toArray, List.set_cons_zero, List.set_cons_succ]
      refine take_w 3 (some 53) (v := ?_) (by kernel_rfl) (by kernel_rfl) (by kernel_rfl) (by kernel_rfl) (by kernel_rfl) (fun _ _ _ h => h) (by rfl) ?_ (by assumption) ?_
      rotate_left
      · (intro w hSw; go_simp; try with_reducible rfl)
      try simp only [Act.put, List.setIfInBounds_toArray, List.set_cons_zero, List.set_cons_succ]
      refine take_w 4 (some 54) (v := ?_) (by kernel_rfl) (by kernel_rfl) (by kernel_rfl) (by kernel_rfl) (by kernel_rfl) (fun _ _ _ h => h) (by rfl) ?_ (by assumption) ?_
      rotate_left
      · (intro w hSw; go_simp; try with_reducible rfl)
      try simp only [Act.put, List.setIfInBounds_toArray, List.set_cons_zero, List.set_cons_succ]
      refine take_w 5 (some 55) (v := ?_) (by kernel_rfl) (by kernel_rfl) (by kernel_rfl) (by kernel_rfl) (by kernel_rfl) (fun _ _ _ h => h) (by rfl) ?_ (by assumption) ?_
      rotate_left
      · (intro w hSw; go_simp; try with_reducible rfl)
      try simp only [Act.put, List.setIfInBounds_toArray, List.set_cons_zero, List.set_cons_succ]
      refine take_w 7 (some 57) (v := ?_) (by kernel_rfl) (by kernel_rfl) (by kernel_rfl) (by kernel_rfl) (by kernel_rfl) (fun _ _ _ h => h) (by rfl) ?_ (by assumption) ?_
      rotate_left
      · (intro w hSw; go_simp; try with_reducible rfl)
      try simp only [Act.put, List.setIfInBounds_toArray, List.set_cons_zero, List.set_cons_succ]
      refine take_w 8 (some 58) (v := ?_) (by kernel_rfl) (by kernel_rfl) (by kernel_rfl) (by kernel_rfl) (by kernel_rfl) (fun _ _ _ h => h) (by rfl) ?_ (by assumption) ?_
      rotate_left
      · (intro w hSw; go_simp; try with_reducible rfl)
      try simp only [Act.put, List.setIfInBounds_toArray, List.set_cons_zero, List.set_cons_succ]
      refine take_w 9 (some 59) (v := ?_) (by kernel_rfl) (by kernel_rfl) (by kernel_rfl) (by kernel_rfl) (by kernel_rfl) (fun _ _ _ h => h) (by rfl) ?_ (by assumption) ?_
      rotate_left
      · (intro w hSw; go_simp; try with_reducible rfl)
      try simp only [Act.put, List.setIfInBounds_toArray, List.set_cons_zero, List.set_cons_succ]
      refine take_w 10 (some 60) (v := ?_) (by kernel_rfl) (by kernel_rfl) (by kernel_rfl) (by kernel_rfl) (by kernel_rfl) (fun _ _ _ h => h) (by rfl) ?_ (by assumption) ?_
      rotate_left
      · (intro w hSw; go_simp; try with_reducible rfl)
      try simp only [Act.put, List.setIfInBounds_toArray, List.set_cons_zero, List.set_cons_succ]
      refine take_w 11 (some 61) (v := ?_) (by kernel_rfl) (by kernel_rfl) (by kernel_rfl) (by kernel_rfl) (by kernel_rfl) (fun _ _ _ h => h) (by rfl) ?_ (by assumption) ?_
      rotate_left
      · (intro w hSw; go_simp; try with_reducible rfl)
      try simp only [Act.put, List.setIfInBounds_toArray, List.set_cons_zero, List.set_cons_succ]
      refine ready_two 6 12 (by kernel_rfl) (by kernel_rfl) (by kernel_rfl) (by rfl) (by rfl) (fun Kc hKc => ?_) (fun Kc hKc => ?_)
      case' refine_1 =>
        go_simp
        refine hKc.out _ _ trivial (fun _ => ?_)
        clear hKc Kc
        try simp only [Act.put, List.setIfInBounds_toArray, List.set_cons_zero, List.set_cons_succ]
        refine ready_one 12 (by kernel_rfl) (by kernel_rfl) (by rfl) (fun Kc hKc => ?_)
        go_simp
        refine hKc.out _ _ trivial (fun _ => ?_)
        clear hKc Kc
      case' refine_2 =>
        go_simp
        refine hKc.out _ _ trivial (fun _ => ?_)
        clear hKc Kc
        try simp only [Act.put, List.setIfInBounds_toArray, List.set_cons_zero, List.set_cons_succ]
        refine ready_one 6 (by kernel_rfl) (by kernel_rfl) (by rfl) (fun Kc hKc => ?_)
        go_simp
        refine hKc.out _ _ trivial (fun _ => ?_)
        clear hKc Kc
      all_goals
        try simp only [Act.put, List.setIfInBounds_toArray, List.set_cons_zero, List.set_cons_succ]
        have hEx : Ext wr ((wr.alloc (.cells #[.int .i64 (yk - 1)] 3)).drew) := ((Ext.refl wr).alloc _).drew
        have hOx := hEx.own HO.out
        have hRx := hEx.own HRw.out
        have hRg : ((wr.alloc (.cells #[.int .i64 (yk - 1)] 3)).drew).rangeAt wr.heap.size 0 [.int .i64 (yk - 1)] := (World.rangeAt_drew _ _ _ _).2 (rangeAt_new wr [.int .i64 (yk - 1)] 3)
        have hGx := grown_trans HG.out (grown_ext hEx (some g))
        have hEw := HE.out.trans hEx
        have hzx := hEx.size
        have hzw := HG.out.size
        generalize (wr.alloc (.cells #[.int .i64 (yk - 1)] 3)).drew = W5 at *
        have hsrc : Src Tryz.prog 1 22 (.slice (some ⟨wr.heap.size, 0, none⟩) 1 1) 1 [.int .i64 (yk - 1)] W5 := Src.ofSlice W5 Tryz.underlying22 _ _ _ _ (by simp) (fun j u hu => by rw [Addr.add_lit]; exact hRg j u hu) (by simp [Value.oneCell'])
        refine ready_one 13 (by kernel_rfl) (by kernel_rfl) (by rfl) (fun Kc hKc => ?_)
        refine wp_appendS (.tmp 56) (.tmp 62) 22 (by rfl) elemint_F Wi.heap.size (.slice aa k mc) k ((someA x k).map (Value.int .i64)) (by rfl) (by have := hOx; unfold OwnN at this; rw [hAl] at this; exact this) _ 1 [.int .i64 (yk - 1)] (by rfl) hsrc (by unfold maxLen; omega) (by omega) (by omega) ?_
        intro A5 C5 w6 hown hg6 hat
        refine hKc.out _ _ trivial (fun _ => ?_)
        clear hKc Kc
        have hnb : ∀ b, (Value.slice aa k mc).ownBlock = some b → Wi.heap.size ≤ b := fun b hb => (World.ownsRow.lt hOx b hb).1
        have hnb5 : ∀ b, (Value.slice A5 (k + 1) C5).ownBlock = some b → Wi.heap.size ≤ b := fun b hb => (World.ownsRow.lt hown b hb).1
        have hR6 := World.ownsRow.kept hRx hg6 (.inr (fun e => by have := hnb g e.symm; have := HGi.out; omega))
        have hG6 : Wi.grownBy w6 (some g) := grown_row' hGx hg6 hnb
        have hc6' : w6.cell? ⟨g, j * 16 + 6, none⟩ = some (.slice aa k mc) := by
          rw [World.ownsRow.cellAt hR6 (j * 16 + 6) (by omega), List.getElem?_set_self (by omega)]
        have hf6' : w6.frozen? ⟨g, j * 16 + 6, none⟩ = false := World.ownsRow.frozenAt hR6 _
        have hgs := setOne_grown w6 g (j * 16 + 6) (.slice A5 (k + 1) C5)
        have HGn := Lib.hid (grown_trans hG6 hgs)
        have HRn := Lib.hid (show (w6.setCell ⟨g, j * 16 + 6, none⟩ (.slice A5 (k + 1) C5)).ownsRow w.heap.size 38 16 (.slice (some ⟨g, 0, none⟩) LN C) LN (xs.set (j * 16 + 6) (.slice A5 (k + 1) C5)) by
          have := (hR6.stored (j * 16 + 6) (.slice A5 (k + 1) C5)).1
          rw [List.set_set] at this
          exact this)
        have HOn := Lib.hid (show OwnN 3 Wi.heap.size (w6.setCell ⟨g, j * 16 + 6, none⟩ (.slice A5 (k + 1) C5)) (.slice A5 (k + 1) C5) (someA x (k + 1)) from World.ownsRow.kept (by rw [HA.out]; simpa [hAl] using hown) hgs (.inr (fun e => by have := hnb5 g e; have := HGi.out; omega)))
        have HEn := Lib.hid (show Ext w (w6.setCell ⟨g, j * 16 + 6, none⟩ (.slice A5 (k + 1) C5)) from (hEw.grown hg6 (fun b hb => by have := hnb b hb; have := HG1.out; have := HGi.out; omega)).setCell (p := ⟨g, j * 16 + 6, none⟩) HG1.out _)
        clear hown hg6 hat hnb hnb5 hR6 hG6 hgs hOx hRx hRg hGx hEw hsrc hEx HG HRw HO HE hc6 hf6
        try simp only [Act.put, List.setIfInBounds_toArray]
        refine take_w 14 (some 64) (v := ?_) (by kernel_rfl) (by kernel_rfl) (by kernel_rfl) (by kernel_rfl) (by kernel_rfl) (fun _ _ _ h => h) (by rfl) ?_ (by assumption) ?_
        rotate_left
        · (intro w hSw; go_simp; try with_reducible rfl)
        try simp only [Act.put]
        refine take_w 15 (some 65) (v := ?_) (by kernel_rfl) (by kernel_rfl) (by kernel_rfl) (by kernel_rfl) (by kernel_rfl) (fun _ _ _ h => h) (by rfl) ?_ (by assumption) ?_
        rotate_left
        · (intro w hSw; go_simp; try with_reducible rfl)
        try simp only [Act.put]
        refine ready_one 16 (by kernel_rfl) (by kernel_rfl) (by rfl) (fun Kc hKc => ?_)
        go_simp
        refine hKc.out _ _ trivial (fun _ => ?_)
        clear hKc Kc
        try simp only [Act.put, List.setIfInBounds_toArray, List.set_cons_zero, List.set_cons_succ]
        refine wpAnyH_done (by kernel_rfl) ?_ _
        go_wp2_with fail
        go_roundw
        case rel => exact ⟨k + 1, A5, C5, by omega, by go_num, HGn, HRn, HOn, HEn⟩
        case measure => simp [intOf]; omega
end Go.Proofs.YtbciamploeejiaaGreatDoor

namespace Fm
open Go Go.RowKit
theorem aheadF_nat {l : List Nd} {i k : Nat} (hi : i < l.length) (hk : k < l.length) : aheadF l (i : Int) (k : Int) = ltR (rankF l i) (rankF l k) := by
  unfold aheadF
  rw [show placeF l (i : Int) = true by unfold placeF; simp [hi], show placeF l (k : Int) = true by unfold placeF; simp [hk]]
  rfl
theorem ltR_irr (x : Rk) : ltR x x = false := by
  cases e : ltR x x with
  | false => rfl
  | true => have := ltR_good.asym _ _ e; rw [e] at this; cases this
theorem ahead_self {l : List Nd} {i : Nat} (hi : i < l.length) : aheadF l (i : Int) (i : Int) = false := by rw [aheadF_nat hi hi]; exact ltR_irr _
theorem ahead_asym {l : List Nd} {i k : Nat} (hi : i < l.length) (hk : k < l.length) (h : aheadF l (i : Int) (k : Int) = true) : aheadF l (k : Int) (i : Int) = false := by
  rw [aheadF_nat hi hk] at h
  rw [aheadF_nat hk hi]
  exact ltR_good.asym _ _ h
theorem ahead_total {l : List Nd} {i k : Nat} (hi : i < l.length) (hk : k < l.length) (hne : i ≠ k) (h : aheadF l (i : Int) (k : Int) = false) : aheadF l (k : Int) (i : Int) = true := by
  rw [aheadF_nat hi hk] at h
  rw [aheadF_nat hk hi]
  rcases ltR_total (l := l) hne with e | e
  · rw [e] at h; cases h
  · exact e
theorem ahead_trans {l : List Nd} {i k m : Nat} (hi : i < l.length) (hk : k < l.length) (hm : m < l.length) (h1 : aheadF l (i : Int) (k : Int) = true) (h2 : aheadF l (k : Int) (m : Int) = true) : aheadF l (i : Int) (m : Int) = true := by
  rw [aheadF_nat hi hk] at h1
  rw [aheadF_nat hk hm] at h2
  rw [aheadF_nat hi hm]
  exact ltR_trans h1 h2
theorem allQ_sort (l : List Nd) : SortR l (allQ l) := readyN_sort l l.length
theorem allQ_lt {l : List Nd} {j : Nat} (h : j < (allQ l).length) : (allQ l)[j] < l.length := ((allQ_mem l _).1 (List.getElem_mem h)).1
theorem allQ_ready {l : List Nd} {j : Nat} (h : j < (allQ l).length) : readyB l (allQ l)[j] = true := ((allQ_mem l _).1 (List.getElem_mem h)).2
theorem allQ_next {l : List Nd} {j k : Nat} (hjk : j < k) (h : k < (allQ l).length) : ltR (rankF l ((allQ l)[j]'(by omega))) (rankF l (allQ l)[k]) = true := List.pairwise_iff_getElem.1 (allQ_sort l) j k (by omega) h hjk
theorem allQ_ahead {l : List Nd} {j : Nat} (h : j + 1 < (allQ l).length) : aheadF l (((allQ l)[j]'(by omega) : Nat) : Int) (((allQ l)[j + 1] : Nat) : Int) = true := by
  rw [aheadF_nat (allQ_lt _) (allQ_lt _)]
  exact allQ_next (by omega) h
theorem allQ_nodup {l : List Nd} {j k : Nat} (hjk : j < k) (h : k < (allQ l).length) : (allQ l)[j]'(by omega) ≠ (allQ l)[k] := fun e => by
  have := allQ_next hjk h
  rw [e, ltR_irr] at this
  cases this
theorem allQ_nil : allQ [] = [] := rfl
theorem readyN_len (l : List Nd) : ∀ n, (readyN l n).length ≤ n
  | 0 => by simp [readyN]
  | n + 1 => by
    have := readyN_len l n
    have hi : ∀ (out : List Nat), (insR l n out).length = out.length + 1 := fun out => by
      induction out with
      | nil => rfl
      | cons k out ih =>
        unfold insR
        split
        · rfl
        · rw [List.length_cons, ih, List.length_cons]
    unfold readyN
    split
    · rw [hi]; omega
    · omega
theorem allQ_len (l : List Nd) : (allQ l).length ≤ l.length := readyN_len l l.length
/-- What the law has met behind j of them. -/
noncomputable def metQ (l : List Nd) (j : Nat) : Int → Option Int := fun x => if x ∈ ((allQ l).take j).map (fun (i : Nat) => (i : Int)) then some 1 else none
theorem metQ_zero (l : List Nd) : metQ l 0 = fun _ => none := by funext x; unfold metQ; simp
theorem metQ_new {l : List Nd} {j : Nat} (h : j < (allQ l).length) : metQ l j ((allQ l)[j] : Int) = none := by
  unfold metQ
  rw [if_neg]
  intro hm
  obtain ⟨i, hi, e⟩ := List.mem_map.1 hm
  obtain ⟨k, hk, rfl⟩ := List.getElem_of_mem hi
  rw [List.getElem_take] at e
  have hk' : k < j := by simp at hk; omega
  exact allQ_nodup hk' h (by exact_mod_cast e)
theorem metQ_succ {l : List Nd} {j : Nat} (h : j < (allQ l).length) : metQ l (j + 1) = fun t => if t = ((allQ l)[j] : Int) then some 1 else metQ l j t := by
  funext t
  unfold metQ
  rw [List.take_add_one, List.getElem?_eq_getElem h]
  by_cases e : t = ((allQ l)[j] : Int)
  · rw [if_pos e, if_pos]
    exact List.mem_map.2 ⟨(allQ l)[j], List.mem_append_right _ (by simp), e.symm⟩
  · rw [if_neg e]
    have : (t ∈ ((allQ l).take j ++ (some (allQ l)[j]).toList).map (fun (i : Nat) => (i : Int))) ↔ t ∈ ((allQ l).take j).map (fun (i : Nat) => (i : Int)) := by
      rw [List.map_append, List.mem_append]
      constructor
      · rintro (h | h)
        · exact h
        · simp at h; exact absurd h e
      · exact .inl
    by_cases hm : t ∈ ((allQ l).take j).map (fun (i : Nat) => (i : Int))
    · rw [if_pos hm, if_pos (this.2 hm)]
    · rw [if_neg hm, if_neg (fun h => hm (this.1 h))]
theorem metQ_all {l : List Nd} {x : Nat} (hx : x < l.length) : (metQ l (allQ l).length (x : Int)).getD 0 = if readyB l x then 1 else 0 := by
  unfold metQ
  rw [List.take_length]
  by_cases h : readyB l x = true
  · rw [if_pos (List.mem_map.2 ⟨x, (allQ_mem l x).2 ⟨hx, h⟩, rfl⟩), if_pos h]; rfl
  · rw [if_neg (fun hm => by
      obtain ⟨i, hi, e⟩ := List.mem_map.1 hm
      have : i = x := by exact_mod_cast e
      subst this
      exact h ((allQ_mem l i).1 hi).2), if_neg h]; rfl
end Fm

namespace Go.Proofs.YtbciamploeejiaaGreatDoor
open Go Go.Proofs Fm Go.RowKit

/-- Block b is a map of numbers to numbers: what stands where, and how many there are (at most n). -/
def IMap (w : World) (b n : Nat) (f : Int → Option Int) (sz : Nat) : Prop :=
  ∃ D : DataW Unit, w.ownsMap Tryz.prog 3 (plainElem Tryz.prog 3) b n D ∧ Maps.size D = sz ∧ (∀ s, Maps.has D (.int .i64 s) = (f s).isSome) ∧ ∀ s, D.atKey (.int .i64 s) (.lit (.int .i64 0)) = .lit (.int .i64 ((f s).getD 0))
def iupd (f : Int → Option Int) (s : Int) (z : Int) : Int → Option Int := fun t => if t = s then some z else f t
theorem zero_int6 (w : World) : (zeroValue 3).run Tryz.prog w = .ok (.int .i64 0) w := Tryz.zeroValue3 w
theorem key_int6 {s : Int} (hs : isI64 s) : keyOf Tryz.prog 3 (.int .i64 s) = some (.int .i64 s) := by
  refine Maps.keyOf_int_mk Tryz.underlying3 ?_
  unfold isI64 at hs
  simp [Lit.wf, IntKind.min, IntKind.max, IntKind.signed, IntKind.bits]
  omega
theorem IMap.new (w : World) : IMap (w.alloc (.map #[] 0)) w.heap.size 0 (fun _ => none) 0 :=
  ⟨.map [], World.ownsMap_made w _ _ _, rfl, fun _ => rfl, fun _ => rfl⟩
theorem IMap.kept {w w' : World} {b n : Nat} {f : Int → Option Int} {sz : Nat} {row : Option Nat} (h : IMap w b n f sz) (hg : w.grownBy w' row) (hne : row ≠ some b) : IMap w' b n f sz := by
  obtain ⟨D, h1, h2⟩ := h
  exact ⟨D, h1.kept hg (fun e => hne e.symm), h2⟩
theorem IMap.ext {w w' : World} {b n : Nat} {f : Int → Option Int} {sz : Nat} (h : IMap w b n f sz) (hE : Ext w w') : IMap w' b n f sz := h.kept hE.grownBy (by simp)
theorem IMap.lt {w : World} {b n : Nat} {f : Int → Option Int} {sz : Nat} (h : IMap w b n f sz) : b < w.heap.size := by
  obtain ⟨D, h1, _⟩ := h
  exact h1.lt
theorem IMap.look {w : World} {b n : Nat} {f : Int → Option Int} {sz : Nat} (h : IMap w b n f sz) {s : Int} (hs : isI64 s) :
    (Instr.lookup 33 (.map (some b)) (.int .i64 s) false).run Tryz.prog w = .ok (.int .i64 ((f s).getD 0)) w := by
  obtain ⟨D, h1, h2, h3, h4⟩ := h
  obtain ⟨c, hrun, hat, _⟩ := h1.lookup_int (Maps.int_keyed Tryz.underlying3) Tryz.underlying33 Tryz.underlying3 (zero_int6 w) (key_int6 hs)
  rw [h4 s] at hat
  have hc : (f s).getD 0 = c := by
    simp only [DataW.lit.injEq, Lit.int.injEq] at hat
    exact hat.2
  rw [hrun, hc]
theorem IMap.len {w : World} {b n : Nat} {f : Int → Option Int} {sz : Nat} (h : IMap w b n f sz) (ty : TypeId) : (Builtin.len_ #[33] ty #[.map (some b)]).run Tryz.prog w = .ok (.int .i64 sz) w := by
  obtain ⟨D, h1, h2, _⟩ := h
  rw [h1.len Tryz.underlying33 ty, h2]
/-- A store into it. -/
theorem wpList_iput {w : World} {ops : Array Oper} {rest : List Oper} {o : Oper} {a : Act} {Q : Exit → Act → World → Prop} (hg : o.guard = none) (m x v : Operand) (hop : o.op = Op.mapUpdate 33 m x v)
    {b n : Nat} {f : Int → Option Int} {sz : Nat} (hm : a.eval m = .map (some b)) (h : IMap w b n f sz) (hn : n < 9223372036854775807) (s : Int) (hx : a.eval x = .int .i64 s) (hs : isI64 s) (z : Int) (hv : a.eval v = .int .i64 z) (hz : isI64 z)
    (hK : ∀ w', IMap w' b (n + 1) (iupd f s z) (if (f s).isSome then sz else sz + 1) → w.grownBy w' (some b) → wpList Tryz.prog ops Q rest (a.put o.dst undef) w') : wpList Tryz.prog ops Q (o :: rest) a w := by
  obtain ⟨D, h1, h2, h3, h4⟩ := h
  have hw : (Lit.int .i64 z).wf = true := by
    unfold isI64 at hz
    simp [Lit.wf, IntKind.min, IntKind.max, IntKind.signed, IntKind.bits]
    omega
  refine wpList_mapUpdate_own w hg m x v _ hop _ _ (Maps.int_keyed Tryz.underlying3) Tryz.underlying33 _ b n D hm h1 (by unfold maxLen; omega) _ _ (.int .i64 s) hx hv (key_int6 hs) (.lit (.int .i64 z)) [] (plainElem_int Tryz.underlying3 hw) (fun w' hown hgrow => hK w' ⟨_, hown, ?_, fun t => ?_, fun t => ?_⟩ hgrow)
  · rw [Maps.size_put (h1.tidy (Maps.int_keyed Tryz.underlying3)), h3, h2]
  · unfold iupd
    by_cases e : t = s
    · subst e
      rw [if_pos rfl, Maps.has_put_same h1.isMap (by trivial)]; rfl
    · rw [if_neg e, Maps.has_put_other (by simpa using e), h3]
  · unfold iupd
    by_cases e : t = s
    · subst e
      rw [if_pos rfl, Maps.atKey_put_same h1.isMap (by trivial)]; rfl
    · rw [if_neg e, Maps.atKey_put_other (by simpa using e), h4]
end Go.Proofs.YtbciamploeejiaaGreatDoor

open Go.RowKit Go.Shelf
namespace Go.Proofs.YtbciamploeejiaaGreatDoor
open Go Go.Proofs Fm
attribute [local go_sem] Oper.semAt_some

theorem natsR_get (l : List Nat) (p : Nat) (hp : p < (natsI l).length) (hp2 : p < l.length) : (natsI l)[p] = ((l[p] : Nat) : Int) := List.getElem_map _
set_option maxRecDepth 100000 in
set_option maxHeartbeats 16000000 in
theorem readyOrder_any (w : World) (l : List Int) (v : Value) (h : intE.Row w l v) (a b c : UInt8) (hw : KW w) :
    Calls Tryz.prog 4 #[v, .int .u8 (a.toNat : Int), .int .u8 (b.toNat : Int), .int .u8 (c.toNat : Int)] w fun e w' => e = .returned (.bool true) ∧ Ext w w' := by
  have HS := Lib.hid (some_any l w v h)
  have HW := Lib.hid hw
  have HO := Lib.hid (someF_right l)
  have HLe := someF_le l
  have HId := Lib.hid (fun n (hn : n ∈ someF l) => (someF_mem hn).1)
  obtain ⟨F, hF⟩ : ∃ F, F = someF l := ⟨_, rfl⟩
  rw [← hF] at HS HO HLe HId
  clear h hw hF
  go_enter Tryz.func4, Tryz.ntmps4
  go_wp2_with fail
  refine HS.out.mono ?_
  rintro e w1 ⟨A, C, rfl, hh, hE1⟩
  have HR := Lib.hid hh.row
  have HE1 := Lib.hid hE1
  clear hh hE1 HS
  by_cases h0 : F.length = 0
  · have hFn : F = [] := List.eq_nil_of_length_eq_zero h0
    subst hFn
    clear h0
    have HR := Lib.hid (show ndE.Row w1 [] (.slice A 0 C) from HR.out)
    go_wp2_with fail
    refine (all_any [] HO.out (by decide) HId.out w1 (HW.out.ext HE1.out) _ HR.out).mono ?_
    rintro e w2 ⟨v2, rfl, ho, hE2⟩
    rw [allQ_nil] at ho
    obtain ⟨a2, c2, rfl⟩ : ∃ a c, v2 = .slice a 0 c := by
      rcases ho.2 with ⟨e1, -⟩ | ⟨g, cap, cur, e1, -⟩
      · exact ⟨none, 0, e1⟩
      · exact ⟨_, _, e1⟩
    have HE2 := Lib.hid (HE1.out.trans hE2)
    clear ho hE2
    go_wp2_with fail
    refine (awake24_any w2 (HW.out.ext HE2.out)).mono ?_
    rintro e w3 ⟨rfl, hE3⟩
    have HE3 := Lib.hid (HE2.out.trans hE3)
    clear hE3
    go_wp2
    go_ret
    exact ⟨rfl, HE3.out⟩
  have hz : ((F.length : Int) == 0) = false := by rw [beq_eq_false_iff_ne]; omega
  obtain ⟨n, hn⟩ : ∃ n, n = F.length := ⟨_, rfl⟩
  have HN := Lib.hid hn
  rw [← hn] at HR hz h0 HLe ⊢
  obtain ⟨i, hi⟩ : ∃ i : Nat, i = a.toNat % n := ⟨_, rfl⟩
  obtain ⟨k, hk⟩ : ∃ k : Nat, k = b.toNat % n := ⟨_, rfl⟩
  obtain ⟨m, hm⟩ : ∃ m : Nat, m = c.toNat % n := ⟨_, rfl⟩
  have hin : i < n := by rw [hi]; exact Nat.mod_lt _ (by omega)
  have hkn : k < n := by rw [hk]; exact Nat.mod_lt _ (by omega)
  have hmn : m < n := by rw [hm]; exact Nat.mod_lt _ (by omega)
  have ta : ((a.toNat : Int)).tmod (n : Int) = (i : Int) := by rw [Int.tmod_eq_emod_of_nonneg (by omega), hi]; exact (Int.natCast_emod _ _).symm
  have tb : ((b.toNat : Int)).tmod (n : Int) = (k : Int) := by rw [Int.tmod_eq_emod_of_nonneg (by omega), hk]; exact (Int.natCast_emod _ _).symm
  have tc : ((c.toNat : Int)).tmod (n : Int) = (m : Int) := by rw [Int.tmod_eq_emod_of_nonneg (by omega), hm]; exact (Int.natCast_emod _ _).symm
  have ba := a.toNat_lt
  have bb := b.toNat_lt
  have bc := c.toNat_lt
  have hn0 : (n : Int) ≠ 0 := by omega
  have HAh := Lib.hid (fun X (hX : Ext w1 X) (p q : Int) => ahead_any F HO.out (by have := HN.out; omega) HId.out p q X (HW.out.ext (HE1.out.trans hX)) _ (HR.out.ext hX))
  clear hi hk hm hn
  generalize a.toNat = an at *
  generalize b.toNat = bn at *
  generalize c.toNat = cn at *
  go_upto_region 4 with (fail)
  go_region
  go_upto_region 5 with (fail)
  have HX := Lib.hid (Ext.refl w1).drew
  have hinF : i < F.length := by have := HN.out; omega
  have hknF : k < F.length := by have := HN.out; omega
  have hmnF : m < F.length := by have := HN.out; omega
  go_cut [89] from 45 to 89 (fun p w' => p = .bool false ∧ Hid (Ext w1 w'))
  case first =>
    go_wp2_with fail
    by_cases hik : i = k
    case' pos =>
      subst hik
      have hA := ahead_self hinF
      refine (HAh.out _ HX.out _ _).mono ?_
      rintro e x ⟨rfl, hx⟩
      have HX := Lib.hid (HX.out.trans hx)
      clear hx
      rw [hA]
      go_wp2_with fail
      refine (HAh.out _ HX.out _ _).mono ?_
      rintro e x ⟨rfl, hx⟩
      have HX := Lib.hid (HX.out.trans hx)
      clear hx
      rw [hA]
      go_wp2_with fail
      refine (HAh.out _ HX.out _ _).mono ?_
      rintro e x ⟨rfl, hx⟩
      have HX := Lib.hid (HX.out.trans hx)
      clear hx
      rw [hA]
      go_wp2_with fail
      refine (HAh.out _ HX.out _ _).mono ?_
      rintro e x ⟨rfl, hx⟩
      have HX := Lib.hid (HX.out.trans hx)
      clear hx
      rw [hA]
      go_wp2_with fail
      clear hA
    case' neg =>
      have hne : ((i : Int) == (k : Int)) = false := by rw [beq_eq_false_iff_ne]; omega
      cases hA : aheadF F (i : Int) (k : Int)
      case' false =>
        have hB := ahead_total hinF hknF hik hA
        refine (HAh.out _ HX.out _ _).mono ?_
        rintro e x ⟨rfl, hx⟩
        have HX := Lib.hid (HX.out.trans hx)
        clear hx
        rw [hA]
        go_wp2_with fail
        refine (HAh.out _ HX.out _ _).mono ?_
        rintro e x ⟨rfl, hx⟩
        have HX := Lib.hid (HX.out.trans hx)
        clear hx
        rw [hB]
        go_wp2_with fail
        refine (HAh.out _ HX.out _ _).mono ?_
        rintro e x ⟨rfl, hx⟩
        have HX := Lib.hid (HX.out.trans hx)
        clear hx
        rw [hA]
        go_wp2_with fail
        refine (HAh.out _ HX.out _ _).mono ?_
        rintro e x ⟨rfl, hx⟩
        have HX := Lib.hid (HX.out.trans hx)
        clear hx
        rw [hA]
        go_wp2_with fail
        clear hA hB
      case' true =>
        have hB := ahead_asym hinF hknF hA
        refine (HAh.out _ HX.out _ _).mono ?_
        rintro e x ⟨rfl, hx⟩
        have HX := Lib.hid (HX.out.trans hx)
        clear hx
        rw [hA]
        go_wp2_with fail
        refine (HAh.out _ HX.out _ _).mono ?_
        rintro e x ⟨rfl, hx⟩
        have HX := Lib.hid (HX.out.trans hx)
        clear hx
        rw [hA]
        go_wp2_with fail
        refine (HAh.out _ HX.out _ _).mono ?_
        rintro e x ⟨rfl, hx⟩
        have HX := Lib.hid (HX.out.trans hx)
        clear hx
        rw [hB]
        go_wp2_with fail
        refine (HAh.out _ HX.out _ _).mono ?_
        rintro e x ⟨rfl, hx⟩
        have HX := Lib.hid (HX.out.trans hx)
        clear hx
        rw [hA]
        go_wp2_with fail
        cases hC : aheadF F (k : Int) (m : Int)
        case' false =>
          refine (HAh.out _ HX.out _ _).mono ?_
          rintro e x ⟨rfl, hx⟩
          have HX := Lib.hid (HX.out.trans hx)
          clear hx
          rw [hC]
          go_wp2_with fail
        case' true =>
          have hD := ahead_trans hinF hknF hmnF hA hC
          refine (HAh.out _ HX.out _ _).mono ?_
          rintro e x ⟨rfl, hx⟩
          have HX := Lib.hid (HX.out.trans hx)
          clear hx
          rw [hC]
          go_wp2_with fail
          refine (HAh.out _ HX.out _ _).mono ?_
          rintro e x ⟨rfl, hx⟩
          have HX := Lib.hid (HX.out.trans hx)
          clear hx
          rw [hD]
          go_wp2_with fail
          clear hD
        all_goals clear hA hB hC
    all_goals
      go_meet
      case rel => exact ⟨rfl, HX⟩
  case rest =>
  obtain ⟨rfl, HX⟩ := hcut
  rename World => Wc
  apply_assumption
  go_wp2_with fail
  refine (all_any F HO.out (by have := HN.out; omega) HId.out _ (HW.out.ext (HE1.out.trans HX.out)) _ (HR.out.ext HX.out)).mono ?_
  rintro e w3 ⟨v3, rfl, ho3, hE3⟩
  have hQF : (allQ F).length ≤ n := by have := allQ_len F; have := HN.out; omega
  have hi64 : ∀ z, z ∈ natsI (allQ F) → isI64 z := natsI_i64 (n := 1000) (fun i hi => by have := ((allQ_mem F i).1 hi).1; have := HN.out; omega) (by omega)
  obtain ⟨a3, c3, rfl⟩ : ∃ a c, v3 = .slice a (natsI (allQ F)).length c := by
    rcases ho3.2 with ⟨e1, e2⟩ | ⟨g, cap, cur, e1, -⟩
    · exact ⟨none, 0, by rw [e1, e2]⟩
    · exact ⟨_, _, e1⟩
  have hql := natsR_len (allQ F)
  have hv3 := OwnN.row ho3 hi64
  rw [hql] at hv3 ⊢
  obtain ⟨QN, hQN⟩ : ∃ QN, QN = (allQ F).length := ⟨_, rfl⟩
  have HQN := Lib.hid hQN
  rw [← hQN] at hv3 hQF ⊢
  have HX3 := Lib.hid (HX.out.trans hE3)
  have HV3 := Lib.hid hv3
  clear hQN ho3 hE3 hi64 hql hv3 HX
  have hmm := @run_makeMap Tryz.prog
  go_wp2_with fail
  clear hmm
  have hM := IMap.new w3
  have hE4 := (Ext.refl w3).alloc (.map #[] 0)
  have HM := Lib.hid (show IMap (w3.alloc (.map #[] 0)) w3.heap.size 0 (metQ F 0) 0 by rw [metQ_zero]; exact hM)
  have HX4 := Lib.hid hE4
  obtain ⟨W4, hW4⟩ : ∃ W4, W4 = w3.alloc (.map #[] 0) := ⟨_, rfl⟩
  rw [← hW4] at HM HX4 ⊢
  obtain ⟨MB, hMB⟩ : ∃ MB, MB = w3.heap.size := ⟨_, rfl⟩
  have HMB := Lib.hid hMB
  rw [← hMB] at HM ⊢
  clear hM hE4 hW4 hMB
  go_loopw [95] (fun t wr => ∃ (j sz : Nat), j ≤ QN ∧ t = .int .i64 (j : Int) ∧ Hid (Ext w3 wr) ∧ Hid (IMap wr MB j (metQ F j) sz)) (fun t _ => QN - (intOf t).toNat)
  case atStart => exact ⟨0, 0, by omega, rfl, HX4, HM⟩
  case round =>
    clear HM HX4
    obtain ⟨j, sz, hj, rfl, HE, HM⟩ := hrel
    by_cases hlt : j < QN
    case neg =>
      have hjq : j = QN := by omega
      subst hjq
      clear hlt
      have HMq := Lib.hid (show IMap wr MB j (metQ F (allQ F).length) sz by rw [← HQN.out]; exact HM.out)
      have HEq := Lib.hid (HX3.out.trans HE.out)
      clear HM HE
      go_wp2_with fail
      go_loopw [132] (fun t wx => ∃ p : Nat, p ≤ n ∧ t = .int .i64 (p : Int) ∧ Hid (Ext wr wx)) (fun t _ => n - (intOf t).toNat)
      case atStart => exact ⟨0, by omega, rfl, Lib.hid (Ext.refl _)⟩
      case round =>
        obtain ⟨p, hp, rfl, HE⟩ := hrel
        by_cases hlt : p < n
        case neg =>
          go_wp2_with fail
          refine (awake24_any _ (HW.out.ext (HE1.out.trans (HEq.out.trans HE.out)))).mono ?_
          rintro e x6 ⟨rfl, hx6⟩
          have HX6 := Lib.hid (HE1.out.trans (HEq.out.trans (HE.out.trans hx6)))
          clear hx6
          go_wp2
          go_ret
          exact ⟨rfl, HX6.out⟩
        have hpl : p < F.length := by have := HN.out; omega
        have hlk := metQ_all hpl
        have hrb : readyB F p = decide (F[p].stand = 1) := by unfold readyB; rw [nthF_at hpl]
        have hku := u8_is (k := F[p].stand) 1
        rw [show (((1 : UInt8).toNat : Nat) : Int) = 1 from rfl] at hku
        rw [hrb] at hlk
        have hlook := (HMq.out.ext HE.out.drew).look (s := (p : Int)) (by unfold isI64; omega)
        have hlook2 := (HMq.out.ext HE.out).look (s := (p : Int)) (by unfold isI64; omega)
        rw [hlk] at hlook hlook2
        obtain ⟨bF, offF, rfl, hbF, aa, ma, ca, kk, N, s, d, ⟨-, -, -, -, -, -, -, -, -, x9, -⟩, -⟩ := nd_at16 HR.out (HEq.out.trans HE.out) p hpl
        obtain ⟨st, hst⟩ : ∃ st, st = F[p].stand := ⟨_, rfl⟩
        rw [← hst] at hku x9 hlook hlook2
        have hp0 : (0 : Int) ≤ (p : Int) := by omega
        have hp1 : (p : Int) < (n : Int) := by omega
        clear hst hlk hrb
        by_cases hs : st = 1
        · have hk' : ((st.toNat : Int) == 1) = true := by rw [hku]; simpa using hs
          rw [decide_eq_true hs, if_pos rfl] at hlook hlook2
          clear hku hs
          go_upto_region 19 with (fail)
          go_region
          go_wp2_with fail
          go_roundw
          case rel => exact ⟨p + 1, by omega, by go_num, Lib.hid HE.out.drew⟩
          case measure => simp [intOf]; omega
        · have hk' : ((st.toNat : Int) == 1) = false := by rw [hku]; simpa using hs
          rw [decide_eq_false hs, if_neg (by decide)] at hlook hlook2
          clear hku hs
          go_upto_region 19 with (fail)
          go_region
          go_wp2_with fail
          go_roundw
          case rel => exact ⟨p + 1, by omega, by go_num, Lib.hid HE.out.drew⟩
          case measure => simp [intOf]; omega
    have hjl : j < (natsI (allQ F)).length := by rw [natsR_len, ← HQN.out]; exact hlt
    have hjq : j < (allQ F).length := by rw [← HQN.out]; exact hlt
    have hget := natsR_get (allQ F)
    have hlq : (natsI (allQ F)).length = QN := by rw [natsR_len, HQN.out]
    obtain ⟨g3, off3, rfl, hb3, hcell3, -⟩ := int_at (n := QN) HV3.out HE.out j hjl
    rw [hget j hjl hjq] at hcell3
    have hxl := allQ_lt hjq
    have hxr := allQ_ready hjq
    have hnew := metQ_new hjq
    have hsuc := metQ_succ hjq
    obtain ⟨x, hx⟩ : ∃ x, x = (allQ F)[j] := ⟨_, rfl⟩
    rw [← hx] at hcell3 hxl hxr hnew hsuc
    have HSuc := Lib.hid hsuc
    have hxn : x < n := by have := HN.out; omega
    have hlook := HM.out.look (s := (x : Int)) (by unfold isI64; omega)
    rw [hnew] at hlook
    simp only [Option.getD_none] at hlook
    obtain ⟨bF, offF, rfl, hbF, aa, ma, ca, kk, N, s, d, ⟨-, -, -, -, -, -, -, -, -, x9, -⟩, -⟩ := nd_at16 HR.out (HX3.out.trans HE.out) x hxl
    have hst : F[x].stand = 1 := by
      have : readyB F x = true := hxr
      unfold readyB at this
      rw [nthF_at hxl] at this
      simpa using this
    rw [hst, show (((1 : UInt8).toNat : Nat) : Int) = 1 from rfl] at x9
    have hx0 : (0 : Int) ≤ (x : Int) := by omega
    have hx1 : (x : Int) < (n : Int) := by omega
    have hj0 : (0 : Int) ≤ (j : Int) := by omega
    have hj1 : (j : Int) < (QN : Int) := by omega
    have HHg := Lib.hid hget
    have HHx := Lib.hid hx
    clear hget hst hxr hnew hsuc hx
    by_cases hj00 : j = 0
    case' neg =>
      obtain ⟨p, hp⟩ : ∃ p, p = j - 1 := ⟨_, rfl⟩
      have hpj : p + 1 = j := by omega
      have hjp : (j : Int) - 1 = (p : Int) := by omega
      have hpq : p < (allQ F).length := by omega
      have hpl : p < (natsI (allQ F)).length := by omega
      obtain ⟨g4, off4, e4, hb4, hcell4, -⟩ := int_at (n := QN) HV3.out HE.out p hpl
      injection e4 with e4
      injection e4 with e4a e4b
      subst e4a e4b
      rw [HHg.out p hpl hpq] at hcell4
      have hah := allQ_ahead (l := F) (j := p) (by omega)
      simp only [hpj] at hah
      rw [← HHx.out] at hah
      obtain ⟨y, hy⟩ : ∃ y, y = (allQ F)[p] := ⟨_, rfl⟩
      rw [← hy] at hcell4 hah
      have hj2 : (0 : Int) < (j : Int) := by omega
      have hp0 : (0 : Int) ≤ (p : Int) := by omega
      have hp1 : (p : Int) < (QN : Int) := by omega
      clear hy hp hpj
      go_wp2_with fail
      refine (HAh.out _ (HX3.out.trans HE.out) _ _).mono ?_
      rintro e x5 ⟨rfl, hx5⟩
      rw [hah]
      have HM5 := Lib.hid (HM.out.ext hx5)
      have HE5 := Lib.hid (HE.out.trans hx5)
      clear hx5 hah HM HE hlook
      go_wp2_with (refine wpList_iput rfl _ _ _ rfl rfl HM5.out (by omega) (x : Int) rfl (by unfold isI64; omega) 1 rfl (by unfold isI64; omega) ?_; intro w6 hM6 hg6)
      have HM6 := Lib.hid (show IMap w6 MB (j + 1) (metQ F (j + 1)) _ by rw [HSuc.out]; exact hM6)
      have HE6 := Lib.hid (HE5.out.grown hg6 (fun k e => by cases e; have := HMB.out; omega))
    case' pos =>
      subst hj00
      rw [Nat.add_zero] at hcell3
      have hn00 : ¬ (0 : Int) < ((0 : Nat) : Int) := by decide
      go_wp2_with (refine wpList_iput rfl _ _ _ rfl rfl HM.out (by omega) (x : Int) rfl (by unfold isI64; omega) 1 rfl (by unfold isI64; omega) ?_; intro w6 hM6 hg6)
      have HM6 := Lib.hid (show IMap w6 MB (0 + 1) (metQ F (0 + 1)) _ by rw [HSuc.out]; exact hM6)
      have HE6 := Lib.hid (HE.out.grown hg6 (fun k e => by cases e; have := HMB.out; omega))
    all_goals
      clear hM6 hg6
      go_wp2_with fail
      go_roundw
      case rel => first | exact ⟨j + 1, _, by omega, by go_num, HE6, HM6⟩ | exact ⟨0 + 1, by omega, by omega, _, HM6⟩
      case measure => simp [intOf]; omega
end Go.Proofs.YtbciamploeejiaaGreatDoor

namespace Fm
open Go Go.RowKit Go.ChangeShapes Go.WideShapes Go.ChangeAt

/-- What the reading of a slice of integers says: as the guide's skeleton has it. -/
def IsRow (k : IntKind) (w : World) (a : Option Addr) (len cap : Nat) (zs : List Int) : Prop :=
  (a = none ∧ len = 0 ∧ cap = 0 ∧ zs = []) ∨
  ∃ x, a = some x ∧ len ≤ cap ∧ cap ≤ maxLen ∧ zs.length = cap ∧ (∀ i, i < zs.length → w.cell? (x.add i) = some (.int k (zs.getD i 0))) ∧ ∀ n ∈ zs, (Lit.int k n).wf = true

theorem u8_of_wf {n : Int} (h : (Lit.int .u8 n).wf = true) : ((UInt8.ofNat n.toNat).toNat : Int) = n := by
  have : 0 ≤ n ∧ n ≤ 255 := by
    simp [Lit.wf, IntKind.min, IntKind.max, IntKind.signed, IntKind.bits] at h
    omega
  rw [toNat_ofNat_lt (by omega)]; omega

theorem i64_of_wf {n : Int} (h : (Lit.int .i64 n).wf = true) : isI64 n := by
  simp [Lit.wf, IntKind.min, IntKind.max, IntKind.signed, IntKind.bits] at h
  unfold isI64; omega

theorem IsRow.bytes {w : World} {a : Option Addr} {len cap : Nat} {zs : List Int} (h : IsRow .u8 w a len cap zs) :
    ∃ xs : List UInt8, xs.length = len ∧ Bytes w (.slice a len cap) xs := by
  rcases h with ⟨rfl, rfl, rfl, rfl⟩ | ⟨x, rfl, hl, hm, hz, hc, hw⟩
  · exact ⟨[], rfl, Bytes.nil w⟩
  · refine ⟨(zs.take len).map fun n => UInt8.ofNat n.toNat, by simp; omega, ?_⟩
    have hlen : ((zs.take len).map fun n => UInt8.ofNat n.toNat).length = len := by simp; omega
    refine ⟨some x, cap, by rw [hlen], by omega, hm, (fun h => by cases h), fun ad had h0 => ?_⟩
    cases had
    have h00 := hc 0 (by omega)
    have e0 : x.add 0 = x := by unfold Addr.add; rw [if_pos rfl]
    rw [e0] at h00
    have hs : x.spot = none := by
      cases hsp : x.spot with
      | none => rfl
      | some s =>
        unfold World.cell? at h00
        cases hb : w.heap[x.block]? with
        | none => rw [hb] at h00; cases h00
        | some o => rw [hb] at h00; cases o <;> simp [hsp] at h00
    refine ⟨hs, World.block_lt_of_cell? w x h00, fun j hj => ?_⟩
    have hj' : j < zs.length := by omega
    have hjl : j < len := by omega
    have hcj := hc j hj'
    have ea : x.add j = ⟨x.block, x.off + j, none⟩ := by
      unfold Addr.add; split
      · obtain ⟨b, o, s⟩ := x; simp at hs ⊢; exact ⟨by omega, hs⟩
      · rw [← hs]
    rw [ea] at hcj
    rw [hcj]
    have hg : zs.getD j 0 = zs[j] := by simp [List.getD, hj']
    have hwf := hw zs[j] (List.getElem_mem hj')
    rw [hg]
    simp [bv, hjl, hj']
    have := u8_of_wf hwf
    simp at this
    exact this.symm
end Fm

open Go.RowKit Go.Shelf
namespace Go.Proofs.YtbciamploeejiaaGreatDoor
open Go Go.Proofs Fm

theorem errAt_of {W : World} {n : String} {g g' : Nat} {t : TypeId} {cs : Array Value} {f : Nat} {nm : String} {d : DataW Unit} {p : List MemPlace} (hn : Tryz.prog.globalNamed n = some g') (hty : (Tryz.prog.globals[g']?).map (·.type) = some 123)
    (hg : Tryz.prog.globalNamed n = some g) (ht : (Tryz.prog.globals[g]?).map (·.type) = some t) (hv : W.var? Tryz.prog n = some cs) (hd : DataW.trod (fun _ => ()) Tryz.prog W 0 (fun _ => true) false f t cs.toList = some (.iface nm d, p)) : ErrAt W g' := by
  obtain rfl := Option.some.inj (hn.symm.trans hg)
  obtain rfl := Option.some.inj (hty.symm.trans ht)
  obtain ⟨l⟩ := cs
  obtain ⟨f1, u, v, e, _, _⟩ := iface_of_trod Tryz.underlying123 hd
  subst e
  exact ⟨_, by simpa using World.var?_cell hg hv 0, .inr ⟨u, v, rfl⟩⟩
theorem kw_of {W : World} {g1 g2 g3 : Nat} {t1 t2 t3 : TypeId} {c1 c2 c3 : Array Value} {f1 f2 f3 : Nat} {nm2 nm3 : String} {d2 d3 : DataW Unit} {p1 p2 p3 : List MemPlace}
    (hg1 : Tryz.prog.globalNamed "internal/strconv.uint64pow10" = some g1) (ht1 : (Tryz.prog.globals[g1]?).map (·.type) = some t1) (hv1 : W.var? Tryz.prog "internal/strconv.uint64pow10" = some c1) (hd1 : DataW.trod (fun _ => ()) Tryz.prog W 0 (fun _ => true) false f1 t1 c1.toList = some (Lib.tabData .u64 Lib.pow10Tab, p1))
    (hg2 : Tryz.prog.globalNamed "strconv.ErrSyntax" = some g2) (ht2 : (Tryz.prog.globals[g2]?).map (·.type) = some t2) (hv2 : W.var? Tryz.prog "strconv.ErrSyntax" = some c2) (hd2 : DataW.trod (fun _ => ()) Tryz.prog W 0 (fun _ => true) false f2 t2 c2.toList = some (.iface nm2 d2, p2))
    (hg3 : Tryz.prog.globalNamed "strconv.ErrRange" = some g3) (ht3 : (Tryz.prog.globals[g3]?).map (·.type) = some t3) (hv3 : W.var? Tryz.prog "strconv.ErrRange" = some c3) (hd3 : DataW.trod (fun _ => ()) Tryz.prog W 0 (fun _ => true) false f3 t3 c3.toList = some (.iface nm3 d3, p3)) : KW W := by
  refine ⟨?_, errAt_of (by kernel_rfl) (by kernel_rfl) hg2 ht2 hv2 hd2, errAt_of (by kernel_rfl) (by kernel_rfl) hg3 ht3 hv3 hd3⟩
  have hg : Tryz.prog.globalNamed "internal/strconv.uint64pow10" = some 5 := by kernel_rfl
  have hty : (Tryz.prog.globals[5]?).map (·.type) = some 179 := by kernel_rfl
  obtain rfl := Option.some.inj (hg.symm.trans hg1)
  obtain rfl := Option.some.inj (hty.symm.trans ht1)
  unfold Tab Lib.TabIs
  rw [hv1]
  congr 1
  have h := Lib.cells_of_tab Tryz.underlying179 Tryz.underlying104 (by kernel_rfl) (by kernel_rfl) hd1
  rw [← h]
end Go.Proofs.YtbciamploeejiaaGreatDoor

namespace Fm
open Go Go.RowKit Go.ChangeShapes Go.WideShapes Go.ChangeAt

/-- What reads as data of that type lies so. -/
def Elem.Reads {α : Type} (E : Elem α) (P : Program) (T : TypeId) : Prop :=
  ∀ {H : Type} (enc : TypeId × Value → H) (W : World) (base : Nat) (spare : Nat → Bool) (held : Bool) (fuel : Nat) (cs : List Value) (x : DataW H × List MemPlace),
    DataW.trod enc P W base spare held fuel T cs = some x → ∃ a : α, E.R W a (fun j => cs.getD j .nilFunc)
theorem reads_int {P : Program} {T : TypeId} (hT : P.underlying T = some (.int .i64)) : intE.Reads P T := by
  intro H enc W base spare held fuel cs x h
  obtain ⟨n, rfl, -, hw⟩ := DataW.trod_int hT h
  exact ⟨n, rfl, i64_of_wf hw⟩
theorem reads_slice {α : Type} {E : Elem α} {P : Program} {T e : TypeId} (hT : P.underlying T = some (.slice e)) (hsz : P.cellsOf e = E.sz) (hE : E.Reads P e) (hp : 0 < E.sz) : (rowE E).Reads P T := by
  intro H enc W base spare held fuel cs x h
  rcases DataW.trod_slice hT h with ⟨rfl, -⟩ | ⟨a, len, cap, elems, rest, m, hm, rfl, -, hba, hlc, hcm, hel, hat, -, -⟩
  · exact ⟨[], Elem.Row.void E W none⟩
  · have key : ∀ k, k ≤ len → ∃ l : List α, l.length = k ∧ ∀ i (hi : i < l.length), ∃ c : Nat → Value, E.R W l[i] c ∧ ∀ j, j < E.sz → W.cell? ((a.add (i * E.sz)).add j) = some (c j) := by
      intro k
      induction k with
      | zero => exact fun _ => ⟨[], rfl, fun i hi => by simp at hi⟩
      | succ k ih =>
        intro hk
        obtain ⟨l, hl, hr⟩ := ih (by omega)
        have h1 := hat k (by omega)
        rw [hsz, List.getElem?_eq_getElem (by omega)] at h1
        obtain ⟨cs', hc', ht'⟩ := Option.bind_eq_some_iff.1 h1
        obtain ⟨t, ht⟩ := hE enc W base spare held m cs' _ ht'
        obtain ⟨_, hl4, hcell⟩ := World.cells?_some hc'
        refine ⟨l ++ [t], by simp [hl], fun i hi => ?_⟩
        by_cases hik : i < l.length
        · rw [List.getElem_append_left hik]; exact hr i hik
        · have e : i = l.length := by simp at hi; omega
          subst e
          rw [List.getElem_append_right (by omega)]
          simp only [Nat.sub_self, List.getElem_cons_zero]
          refine ⟨_, ht, fun j hj => ?_⟩
          rw [hl, hcell j hj, List.getD_eq_getElem?_getD, List.getElem?_eq_getElem (by omega)]
          rfl
    obtain ⟨l, hl, hr⟩ := key len (Nat.le_refl _)
    refine ⟨l, ?_⟩
    show E.Row W l (.slice (some a) len cap)
    by_cases h0 : len = 0
    · have : l = [] := List.eq_nil_of_length_eq_zero (by omega)
      subst this h0
      exact ⟨some a, cap, rfl, by simp, hcm, (fun h => by cases h), fun _ _ => .nilFunc, fun h => by simp at h, fun i hi => by simp at hi⟩
    · obtain ⟨c, _, h00⟩ := hr 0 (by omega)
      have h00 := h00 0 hp
      rw [Nat.zero_mul] at h00
      have ea : (a.add 0).add 0 = a := by unfold Addr.add; rw [if_pos rfl, if_pos rfl]
      rw [ea] at h00
      have hs0 : a.spot = none := by
        cases hsp : a.spot with
        | none => rfl
        | some s =>
          unfold World.cell? at h00
          cases hb : W.heap[a.block]? with
          | none => rw [hb] at h00; cases h00
          | some o => rw [hb] at h00; cases o <;> simp [hsp] at h00
      obtain ⟨b, off, spot⟩ := a
      simp only at hs0
      subst hs0
      refine Elem.Row.mk hl.symm (by omega) hcm (World.block_lt_of_cell? W _ h00) (fun i hi => ?_)
      obtain ⟨c, h1, h2⟩ := hr i hi
      refine ⟨c, h1, fun j hj => ?_⟩
      have := h2 j hj
      rw [Addr.add_lit, Addr.add_lit, Nat.add_assoc] at this
      exact this
/-- A slice that is handed in. -/
theorem row_of_val {α : Type} {E : Elem α} {P : Program} {T e : TypeId} (hT : P.underlying T = some (.slice e)) (hR : (rowE E).Reads P T)
    {H : Type} {enc : TypeId × Value → H} {W : World} {r : Reach} {b0 base : Nat} {spare : Nat → Bool} {held : Bool} {v : Value} {d : DataW H} {p : List MemPlace} (hv : Value.okWide P W r b0 T v)
    (h : DataW.Trod enc P W base spare held T v d p) : ∃ l, E.Row W l v := by
  obtain ⟨b, n, c, rfl⟩ := okWide_slice hT hv
  obtain ⟨fuel, hf⟩ := h
  obtain ⟨l, hl⟩ := hR enc W base spare held fuel _ _ hf
  exact ⟨l, hl⟩
end Fm

namespace Fm
open Go Go.RowKit
end Fm
namespace Go.Proofs.YtbciamploeejiaaGreatDoor
open Go Go.Proofs Fm Go.RowKit Go.ChangeShapes Go.WideShapes Go.ChangeAt
theorem cells_intN : Tryz.prog.cellsOf 3 = 1 := by kernel_rfl
theorem reads_intsN : (rowE intE).Reads Tryz.prog 22 := reads_slice Tryz.underlying22 cells_intN (reads_int Tryz.underlying3) (by decide)
end Go.Proofs.YtbciamploeejiaaGreatDoor
