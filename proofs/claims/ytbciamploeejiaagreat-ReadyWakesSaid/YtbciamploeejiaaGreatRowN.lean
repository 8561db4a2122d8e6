/- Rows of numbers and of values out of a row's reading. -/
import Derived.Test.YtbciamploeejiaaGreatFr
import Derived.Test.YtbciamploeejiaaGreatTake
import Derived.Test.YtbciamploeejiaaGreatPlO
import Derived.Maps.OwnSet
import Derived.Maps.OwnOps
import Derived.Maps.Views
import Derived.Test.YtbciamploeejiaaGreatProg
import Derived.ProofKit
import Derived.OpenShut
import Derived.ShutString
import Derived.ChangeOld
open Go.RowKit Go.Shelf
namespace Fm
open Go Go.RowKit
def ndXc (id : ByteArray) (st fl f o : Int) (af : Value) : List Value := [.string id, .string { data := #[] }, .int .u8 0, .int .i64 f, .int .i64 o, .int .i64 0, af, .int .i64 0, .int .i64 0, .int .u8 st, .int .i64 fl, .int .i64 0, .int .u8 0, .int .i64 0, .string { data := #[] }, .slice none 0 0]
theorem ndX_v {W : World} {id : List UInt8} {st : UInt8} {fl f o : Int} {af : List Int} {m c : Nat} {a : Option Addr} (h : intE.Row W af (.slice a m c)) (hi : id.length ≤ 9223372036854775807) (h1 : isI64 fl) (h2 : isI64 f) (h3 : isI64 o) : NdV W (ndX id st fl f o af) (.agg (ndXc (str id) (st.toNat : Int) fl f o (.slice a m c)).toArray) := by
  have z : isI64 0 := by unfold isI64; omega
  exact ⟨a, m, c, .int .u8 0, .int .i64 0, .string { data := #[] }, .slice none 0 0, rfl, h, zT_liesF W, hi, by simp [ndX], h2, h3, z, z, z, h1, z⟩
end Fm
namespace Go.Proofs.YtbciamploeejiaaGreat
open Go Go.Proofs Fm
attribute [local go_sem] Oper.semAt_some

theorem take_more {l m : List Int} {j : Nat} (h : l.take j = m.take j) (h1 : j < l.length) (h2 : j < m.length) (he : l[j] = m[j]) : l.take (j + 1) = m.take (j + 1) := by
  rw [List.take_add_one, List.take_add_one, h, List.getElem?_eq_getElem h1, List.getElem?_eq_getElem h2, he]
set_option maxRecDepth 100000 in
set_option maxHeartbeats 4000000 in
theorem ints16_any (l m : List Int) (w : World) (v v' : Value) (h : intE.Row w l v) (h' : intE.Row w m v') :
    Calls Tryz.prog 10 #[v, v'] w fun e w' => e = .returned (.bool (decide (l = m))) ∧ Ext w w' := by
  have HR := Lib.hid h
  have HR' := Lib.hid h'
  obtain ⟨a, c, rfl, hc1, hc2⟩ := h.slice
  obtain ⟨a', c', rfl, hc1', hc2'⟩ := h'.slice
  clear h h'
  by_cases hlen : l.length = m.length
  case neg =>
    have hne : ((l.length : Int) != (m.length : Int)) = true := by simp; omega
    have HX := Lib.hid (show decide (l = m) = false by simp; intro e; exact hlen (by rw [e]))
    clear hlen
    go_enter Tryz.func10, Tryz.ntmps10
    go_wp2
    go_ret
    exact ⟨by rw [HX.out]; rfl, Ext.refl w⟩
  have hne : ((l.length : Int) != (m.length : Int)) = false := by simp; omega
  have HL := Lib.hid hlen
  go_enter Tryz.func10, Tryz.ntmps10
  go_wp2_with fail
  clear hne
  go_loopw [13] (fun i wr => ∃ j : Nat, j ≤ l.length ∧ i = .int .i64 (j : Int) ∧ Hid (Ext w wr) ∧ Hid (l.take j = m.take j)) (fun i _ => l.length - (intOf i).toNat)
  case atStart => exact ⟨0, by omega, rfl, Lib.hid (Ext.refl w), Lib.hid rfl⟩
  case round =>
    obtain ⟨j, hj, rfl, HE, HT⟩ := hrel
    by_cases hlt : j < l.length
    case neg =>
      have HX := Lib.hid (show decide (l = m) = true by
        have := HT.out
        rw [List.take_of_length_le (by omega), List.take_of_length_le (by omega)] at this
        simpa using this)
      go_wp2
      go_ret
      exact ⟨by rw [HX.out]; rfl, HE.out⟩
    have hlt' : j < m.length := by omega
    obtain ⟨b, off, rfl, hb, hcell, -⟩ := int_at HR.out HE.out j hlt
    obtain ⟨b', off', rfl, hb', hcell', -⟩ := int_at HR'.out HE.out j hlt'
    have hj0 : (0 : Int) ≤ (j : Int) := by omega
    have hj1 : (j : Int) < (l.length : Int) := by omega
    have hj2 : (j : Int) < (m.length : Int) := by omega
    have HM := Lib.hid (fun he : l[j] = m[j] => take_more HT.out hlt hlt' he)
    have HN := Lib.hid (fun he : l[j] ≠ m[j] => show decide (l = m) = false by simp only [decide_eq_false_iff_not]; rintro rfl; exact he rfl)
    obtain ⟨x, hx⟩ : ∃ x, x = l[j] := ⟨_, rfl⟩
    obtain ⟨y, hy⟩ : ∃ y, y = m[j] := ⟨_, rfl⟩
    rw [← hx] at hcell HM HN
    rw [← hy] at hcell' HM HN
    clear hx hy
    by_cases hxy : x = y
    · have hne : (x != y) = false := by simp [hxy]
      have HT2 := Lib.hid (HM.out hxy)
      clear hxy
      go_wp2_with fail
      go_region
      go_wp2_with fail
      go_roundw
      case rel => exact ⟨j + 1, by omega, by go_num, Lib.hid HE.out.drew, HT2⟩
      case measure => simp [intOf]; omega
    · have hne : (x != y) = true := by simp [hxy]
      have HX := Lib.hid (HN.out hxy)
      clear hxy
      go_wp2_with fail
      go_region
      go_wp2
      go_ret
      exact ⟨by rw [HX.out]; rfl, HE.out.drew⟩
theorem rowL_any (W : World) : ndE.Row (W.alloc (.cells (ndXc ⟨#[48, 47, 97]⟩ 1 1 0 (-1) (.slice none 0 0) ++ ndXc ⟨#[48, 47, 98]⟩ 1 0 0 (-1) (.slice none 0 0) ++ ndXc ⟨#[49, 47, 97]⟩ 1 0 1 (-1) (.slice none 0 0) ++ ndXc ⟨#[48, 47, 98, 47, 99]⟩ 1 0 0 1 (.slice none 0 0)).toArray 32)) awL (.slice (some ⟨W.heap.size, 0, none⟩) 4 4) := by
  have z : ∀ k : Int, -1 ≤ k → k ≤ 1 → isI64 k := fun k h1 h2 => by unfold isI64; omega
  have ho := World.ownsRow_lit W (ndXc ⟨#[48, 47, 97]⟩ 1 1 0 (-1) (.slice none 0 0) ++ ndXc ⟨#[48, 47, 98]⟩ 1 0 0 (-1) (.slice none 0 0) ++ ndXc ⟨#[49, 47, 97]⟩ 1 0 1 (-1) (.slice none 0 0) ++ ndXc ⟨#[48, 47, 98, 47, 99]⟩ 1 0 0 1 (.slice none 0 0)).toArray 4 (base := W.heap.size) (e := 32) (size := 16) (Nat.le_refl _) (by unfold maxLen; omega) rfl
  refine ndRow_parts (cs := [ndXc ⟨#[48, 47, 97]⟩ 1 1 0 (-1) (.slice none 0 0), ndXc ⟨#[48, 47, 98]⟩ 1 0 0 (-1) (.slice none 0 0), ndXc ⟨#[49, 47, 97]⟩ 1 0 1 (-1) (.slice none 0 0), ndXc ⟨#[48, 47, 98, 47, 99]⟩ 1 0 0 1 (.slice none 0 0)]) rfl (by simpa [awL] using ho) (fun i hi hc => ?_)
  have hi : i < 4 := hi
  rcases (by omega : i = 0 ∨ i = 1 ∨ i = 2 ∨ i = 3) with rfl | rfl | rfl | rfl
  · exact ⟨rfl, ndX_v (st := 1) (Elem.Row.void intE _ none) (by decide) (z 1 (by omega) (by omega)) (z 0 (by omega) (by omega)) (z (-1) (by omega) (by omega))⟩
  · exact ⟨rfl, ndX_v (st := 1) (Elem.Row.void intE _ none) (by decide) (z 0 (by omega) (by omega)) (z 0 (by omega) (by omega)) (z (-1) (by omega) (by omega))⟩
  · exact ⟨rfl, ndX_v (st := 1) (Elem.Row.void intE _ none) (by decide) (z 0 (by omega) (by omega)) (z 1 (by omega) (by omega)) (z (-1) (by omega) (by omega))⟩
  · exact ⟨rfl, ndX_v (st := 1) (Elem.Row.void intE _ none) (by decide) (z 0 (by omega) (by omega)) (z 0 (by omega) (by omega)) (z 1 (by omega) (by omega))⟩
theorem rowW_any {W : World} {base B b m c : Nat} (st : UInt8) (ho : W.ownsRow base 32 16 (.slice (some ⟨B, 0, none⟩) 3 3) 3 (ndXc ⟨#[48, 47, 98]⟩ (st.toNat : Int) 0 0 (-1) (.slice none 0 0) ++ ndXc ⟨#[48, 47, 99]⟩ 0 0 0 (-1) (.slice none 0 0) ++ ndXc ⟨#[48, 47, 100]⟩ 0 0 0 (-1) (.slice (some ⟨b, 0, none⟩) m c))) (h : intE.Row W [1, 0] (.slice (some ⟨b, 0, none⟩) m c)) :
    ndE.Row W [ndX [48, 47, 98] st 0 0 (-1) [], ndX [48, 47, 99] 0 0 0 (-1) [], ndX [48, 47, 100] 0 0 0 (-1) [1, 0]] (.slice (some ⟨B, 0, none⟩) 3 3) := by
  have z : ∀ k : Int, -1 ≤ k → k ≤ 1 → isI64 k := fun k h1 h2 => by unfold isI64; omega
  refine ndRow_parts (cs := [ndXc ⟨#[48, 47, 98]⟩ (st.toNat : Int) 0 0 (-1) (.slice none 0 0), ndXc ⟨#[48, 47, 99]⟩ 0 0 0 (-1) (.slice none 0 0), ndXc ⟨#[48, 47, 100]⟩ 0 0 0 (-1) (.slice (some ⟨b, 0, none⟩) m c)]) rfl (by simpa using ho) (fun i hi hc => ?_)
  have hi : i < 3 := hi
  rcases (by omega : i = 0 ∨ i = 1 ∨ i = 2) with rfl | rfl | rfl
  · exact ⟨rfl, ndX_v (Elem.Row.void intE _ none) (by decide) (z 0 (by omega) (by omega)) (z 0 (by omega) (by omega)) (z (-1) (by omega) (by omega))⟩
  · exact ⟨rfl, ndX_v (st := 0) (Elem.Row.void intE _ none) (by decide) (z 0 (by omega) (by omega)) (z 0 (by omega) (by omega)) (z (-1) (by omega) (by omega))⟩
  · exact ⟨rfl, ndX_v (st := 0) h (by decide) (z 0 (by omega) (by omega)) (z 0 (by omega) (by omega)) (z (-1) (by omega) (by omega))⟩
theorem litRow (W : World) (zs : List Int) (hz : ∀ z, z ∈ zs → isI64 z) (hl : zs.length ≤ 1000) : intE.Row (W.alloc (.cells (zs.map (Value.int .i64)).toArray 3)) zs (.slice (some ⟨W.heap.size, 0, none⟩) zs.length zs.length) := by
  have ho := World.ownsRow_lit W (zs.map (Value.int .i64)).toArray zs.length (base := W.heap.size) (e := 3) (size := 1) (Nat.le_refl _) (by unfold maxLen; omega) (by simp)
  exact OwnN.row (e := 3) (base := W.heap.size) (by unfold OwnN; simpa using ho) hz
theorem idOk_aw : ∀ n, n ∈ awL → IdOk n.id := by
  intro n hn
  simp only [awL, List.mem_cons, List.not_mem_nil, or_false] at hn
  rcases hn with rfl | rfl | rfl | rfl
  · exact ⟨by decide, ⟨0, by omega, by decide⟩, by decide⟩
  · exact ⟨by decide, ⟨0, by omega, by decide⟩, by decide⟩
  · exact ⟨by decide, ⟨1, by omega, by decide⟩, by decide⟩
  · exact ⟨by decide, ⟨0, by omega, by decide⟩, by decide⟩
theorem nextQ_aw : nextQ awL = 3 := nextQ_yes aw_all
set_option maxRecDepth 100000 in
set_option maxHeartbeats 8000000 in
theorem awake24_any (w : World) (hw : KW w) : Calls Tryz.prog 7 #[] w fun e w' => e = .returned (.bool true) ∧ Ext w w' := by
  have HW := Lib.hid hw
  clear hw
  have hL := rowL_any w
  have hE1 := (Ext.refl w).alloc (.cells (ndXc ⟨#[48, 47, 97]⟩ 1 1 0 (-1) (.slice none 0 0) ++ ndXc ⟨#[48, 47, 98]⟩ 1 0 0 (-1) (.slice none 0 0) ++ ndXc ⟨#[49, 47, 97]⟩ 1 0 1 (-1) (.slice none 0 0) ++ ndXc ⟨#[48, 47, 98, 47, 99]⟩ 1 0 0 1 (.slice none 0 0)).toArray 32)
  go_enter Tryz.func7, Tryz.ntmps7
  go_upto_region 2 with (fail)
  change Code.wp _ _ _ _ (w.alloc (.cells (ndXc ⟨#[48, 47, 97]⟩ 1 1 0 (-1) (.slice none 0 0) ++ ndXc ⟨#[48, 47, 98]⟩ 1 0 0 (-1) (.slice none 0 0) ++ ndXc ⟨#[49, 47, 97]⟩ 1 0 1 (-1) (.slice none 0 0) ++ ndXc ⟨#[48, 47, 98, 47, 99]⟩ 1 0 0 1 (.slice none 0 0)).toArray 32))
  generalize w.alloc (.cells (ndXc ⟨#[48, 47, 97]⟩ 1 1 0 (-1) (.slice none 0 0) ++ ndXc ⟨#[48, 47, 98]⟩ 1 0 0 (-1) (.slice none 0 0) ++ ndXc ⟨#[49, 47, 97]⟩ 1 0 1 (-1) (.slice none 0 0) ++ ndXc ⟨#[48, 47, 98, 47, 99]⟩ 1 0 0 1 (.slice none 0 0)).toArray 32) = W1 at *
  generalize w.heap.size = LB at *
  have HL := Lib.hid hL
  have HE1 := Lib.hid hE1
  clear hL hE1
  go_wp2_with fail
  refine (next_any awL awL_right (by decide) idOk_aw W1 (HW.out.ext HE1.out) _ HL.out).mono ?_
  rintro e w2 ⟨rfl, hE2⟩
  rw [nextQ_aw, aw_all]
  have HE2 := Lib.hid (HE1.out.trans hE2)
  have HL2 := Lib.hid (HL.out.ext hE2)
  clear hE2 HE1 HL
  go_upto_region 3 with (fail)
  have hI := litRow w2 [1, 0] (by intro z hz; simp only [List.mem_cons, List.not_mem_nil, or_false] at hz; rcases hz with rfl | rfl <;> (unfold isI64; omega)) (by decide)
  have hE3 := (Ext.refl w2).alloc (.cells ([1, 0].map (Value.int .i64)).toArray 3)
  go_upto_region 4 with (fail)
  change Code.wp _ _ _ _ ((w2.alloc (.cells ([1, 0].map (Value.int .i64)).toArray 3)).alloc (.cells (ndXc ⟨#[48, 47, 98]⟩ 0 0 0 (-1) (.slice none 0 0) ++ ndXc ⟨#[48, 47, 99]⟩ 0 0 0 (-1) (.slice none 0 0) ++ ndXc ⟨#[48, 47, 100]⟩ 0 0 0 (-1) (.slice (some ⟨w2.heap.size, 0, none⟩) 2 2)).toArray 32))
  have hX : (w2.alloc (.cells ([1, 0].map (Value.int .i64)).toArray 3)).heap.size = w2.heap.size + 1 := by simp
  generalize w2.alloc (.cells ([1, 0].map (Value.int .i64)).toArray 3) = X1 at *
  generalize hIB : w2.heap.size = IB at *
  have ho := World.ownsRow_lit X1 (ndXc ⟨#[48, 47, 98]⟩ 0 0 0 (-1) (.slice none 0 0) ++ ndXc ⟨#[48, 47, 99]⟩ 0 0 0 (-1) (.slice none 0 0) ++ ndXc ⟨#[48, 47, 100]⟩ 0 0 0 (-1) (.slice (some ⟨IB, 0, none⟩) 2 2)).toArray 3 (base := X1.heap.size) (e := 32) (size := 16) (Nat.le_refl _) (by unfold maxLen; omega) rfl
  have hE4 := (Ext.refl X1).alloc (.cells (ndXc ⟨#[48, 47, 98]⟩ 0 0 0 (-1) (.slice none 0 0) ++ ndXc ⟨#[48, 47, 99]⟩ 0 0 0 (-1) (.slice none 0 0) ++ ndXc ⟨#[48, 47, 100]⟩ 0 0 0 (-1) (.slice (some ⟨IB, 0, none⟩) 2 2)).toArray 32)
  rw [hX] at ho
  generalize X1.alloc (.cells (ndXc ⟨#[48, 47, 98]⟩ 0 0 0 (-1) (.slice none 0 0) ++ ndXc ⟨#[48, 47, 99]⟩ 0 0 0 (-1) (.slice none 0 0) ++ ndXc ⟨#[48, 47, 100]⟩ 0 0 0 (-1) (.slice (some ⟨IB, 0, none⟩) 2 2)).toArray 32) = X2 at *
  have HO := Lib.hid (show X2.ownsRow (IB + 1) 32 16 (.slice (some ⟨IB + 1, 0, none⟩) 3 3) 3 (ndXc ⟨#[48, 47, 98]⟩ 0 0 0 (-1) (.slice none 0 0) ++ ndXc ⟨#[48, 47, 99]⟩ 0 0 0 (-1) (.slice none 0 0) ++ ndXc ⟨#[48, 47, 100]⟩ 0 0 0 (-1) (.slice (some ⟨IB, 0, none⟩) 2 2)) from ho)
  have HI := Lib.hid hI
  have HX1 := Lib.hid hX
  have HIBe := Lib.hid hIB
  have HE14 := Lib.hid hE4
  have HE24 := Lib.hid (hE3.trans hE4)
  have HRw := Lib.hid (show ndE.Row X2 awW (.slice (some ⟨IB + 1, 0, none⟩) 3 3) from rowW_any 0 ho (hI.ext hE4))
  have HE4 := Lib.hid ((HE2.out.trans hE3).trans hE4)
  have HZ2 := Lib.hid (show IB + 1 < X2.heap.size from (World.ownsRow.lt ho (IB + 1) rfl).2)
  have HIB := Lib.hid (show w.heap.size ≤ IB + 1 by have := (HE2.out.trans hE3).size; omega)
  clear hI hE3 hE4 ho hX hIB
  go_wp2_with fail
  refine (waits_any awW (by decide) 2 X2 _ HRw.out).mono ?_
  rintro e w3 ⟨v3, rfl, ho3, hE5⟩
  rw [aw_waits] at ho3
  obtain ⟨a3, c3, rfl⟩ : ∃ a c, v3 = .slice a 2 c := by
    obtain ⟨g, c, h, -⟩ := World.ownsRow.form ho3 (by decide)
    exact ⟨_, _, h⟩
  have HO3 := Lib.hid ho3
  have HE5 := Lib.hid hE5
  clear ho3 hE5
  go_wp2_with fail
  refine (wakes_any awW (by decide) (by decide) 1 w3 _ (HRw.out.ext HE5.out)).mono ?_
  rintro e w4 ⟨v4, rfl, ho4, hE6⟩
  rw [aw_wakes] at ho4
  obtain ⟨a4, c4, rfl⟩ : ∃ a c, v4 = .slice a 0 c := by
    rcases ho4.2 with ⟨e1, -⟩ | ⟨g, cap, cur, e1, -⟩
    · exact ⟨none, 0, e1⟩
    · exact ⟨_, _, e1⟩
  have HE6 := Lib.hid (HE5.out.trans hE6)
  have HO3 := Lib.hid (show OwnN 3 X2.heap.size w4 (.slice a3 2 c3) [0, 1] from hE6.own HO3.out)
  clear ho4 hE6 HE5
  have hst := (HE6.out.own HO.out)
  have hc9 : w4.cell? ⟨IB + 1, 9, none⟩ = some (.int .u8 0) := (World.ownsRow.cellAt hst 9 (by omega)).trans rfl
  have hf9 : w4.frozen? ⟨IB + 1, 9, none⟩ = false := World.ownsRow.frozenAt hst 9
  go_upto_region 6 with (fail)
  have HO5 := Lib.hid (show (w4.setCell ⟨IB + 1, 9, none⟩ (.int .u8 4)).ownsRow (IB + 1) 32 16 (.slice (some ⟨IB + 1, 0, none⟩) 3 3) 3 (ndXc ⟨#[48, 47, 98]⟩ 4 0 0 (-1) (.slice none 0 0) ++ ndXc ⟨#[48, 47, 99]⟩ 0 0 0 (-1) (.slice none 0 0) ++ ndXc ⟨#[48, 47, 100]⟩ 0 0 0 (-1) (.slice (some ⟨IB, 0, none⟩) 2 2)) from (hst.stored 9 (.int .u8 4)).1)
  have hg5 := setOne_grown w4 (IB + 1) 9 (.int .u8 4)
  have HE2w := Lib.hid (show Ext w2 (w4.setCell ⟨IB + 1, 9, none⟩ (.int .u8 4)) from (HE24.out.trans HE6.out).setCell (p := ⟨IB + 1, 9, none⟩) (by show w2.heap.size ≤ IB + 1; have := HIBe.out; omega) _)
  have HE1w := Lib.hid (show Ext X1 (w4.setCell ⟨IB + 1, 9, none⟩ (.int .u8 4)) from (HE14.out.trans HE6.out).setCell (p := ⟨IB + 1, 9, none⟩) (by show X1.heap.size ≤ IB + 1; have := HX1.out; omega) _)
  have HV3 := Lib.hid (show intE.Row (w4.setCell ⟨IB + 1, 9, none⟩ (.int .u8 4)) [0, 1] (.slice a3 2 c3) from OwnN.row (World.ownsRow.kept HO3.out hg5 (.inr (fun e => by have := (World.ownsRow.lt HO3.out (IB + 1) e).1; have := HZ2.out; omega))) (by intro z hz; simp only [List.mem_cons, List.not_mem_nil, or_false] at hz; rcases hz with rfl | rfl <;> (unfold isI64; omega)))
  clear hg5 hst hc9 hf9 HO3 HO HRw HE6 HE14 HE24
  generalize w4.setCell ⟨IB + 1, 9, none⟩ (.int .u8 4) = W5 at *
  have HE5 := Lib.hid (HE2.out.trans HE2w.out)
  have HL5 := Lib.hid (HL2.out.ext HE2w.out)
  have HR5 := Lib.hid (show ndE.Row W5 awV (.slice (some ⟨IB + 1, 0, none⟩) 3 3) from rowW_any 4 HO5.out (HI.out.ext HE1w.out))
  clear HE2w HE1w HL2 HE2 HO5 HI HX1 HIBe HZ2
  go_wp2_with fail
  refine (all_any awL awL_right (by decide) idOk_aw W5 (HW.out.ext HE5.out) _ HL5.out).mono ?_
  rintro e w6 ⟨v6, rfl, ho6, hE6⟩
  rw [aw_all] at ho6
  have HO6 := Lib.hid ho6
  have HE6 := Lib.hid hE6
  clear ho6 hE6
  have hz4 : ∀ z, z ∈ natsI [3, 1, 2, 0] → isI64 z := by
    intro z hz
    obtain ⟨i, hi, rfl⟩ := List.mem_map.1 hz
    simp only [List.mem_cons, List.not_mem_nil, or_false] at hi
    rcases hi with rfl | rfl | rfl | rfl <;> (unfold isI64; omega)
  have hl6 := litRow w6 (natsI [3, 1, 2, 0]) hz4 (by decide)
  have hE7 := (Ext.refl w6).alloc (.cells ((natsI [3, 1, 2, 0]).map (Value.int .i64)).toArray 3)
  have HV6 := Lib.hid (OwnN.row (hE7.own HO6.out) hz4)
  have HL6 := Lib.hid hl6
  have HE7 := Lib.hid (HE6.out.trans hE7)
  clear hl6 hE7 HO6 HE6
  go_wp2_with fail
  refine (ints16_any (natsI [3, 1, 2, 0]) (natsI [3, 1, 2, 0]) _ _ _ HV6.out HL6.out).mono ?_
  rintro e w7 ⟨he, hE8⟩
  rw [decide_eq_true rfl] at he
  subst he
  have HE8 := Lib.hid (HE7.out.trans hE8)
  clear hE8 HE7 HV6 HL6
  have hz2 : ∀ z, z ∈ ([0, 1] : List Int) → isI64 z := by intro z hz; simp only [List.mem_cons, List.not_mem_nil, or_false] at hz; rcases hz with rfl | rfl <;> (unfold isI64; omega)
  have hl7 := litRow w7 [0, 1] hz2 (by decide)
  have hE9 := (Ext.refl w7).alloc (.cells (([0, 1] : List Int).map (Value.int .i64)).toArray 3)
  have HL7 := Lib.hid hl7
  have HE9 := Lib.hid (HE8.out.trans hE9)
  clear hl7 hE9 HE8
  go_wp2_with fail
  refine (ints16_any [0, 1] [0, 1] _ _ _ (HV3.out.ext HE9.out) HL7.out).mono ?_
  rintro e w8 ⟨he, hE10⟩
  rw [decide_eq_true rfl] at he
  subst he
  have HE10 := Lib.hid (HE9.out.trans hE10)
  clear hE10 HE9 HL7 HV3
  go_wp2_with fail
  refine (wakes_any awV (by decide) (by decide) 1 w8 _ (HR5.out.ext HE10.out)).mono ?_
  rintro e w9 ⟨v9, rfl, ho9, hE11⟩
  rw [aw_wakes2] at ho9
  have HO9 := Lib.hid ho9
  have HE11 := Lib.hid (HE10.out.trans hE11)
  clear ho9 hE11 HE10
  have hz9 : ∀ z, z ∈ natsI [2] → isI64 z := by
    intro z hz
    obtain ⟨i, hi, rfl⟩ := List.mem_map.1 hz
    simp only [List.mem_cons, List.not_mem_nil, or_false] at hi
    subst hi
    unfold isI64; omega
  have hl9 := litRow w9 (natsI [2]) hz9 (by decide)
  have hE12 := (Ext.refl w9).alloc (.cells ((natsI [2]).map (Value.int .i64)).toArray 3)
  have HV9 := Lib.hid (OwnN.row (hE12.own HO9.out) hz9)
  have HL9 := Lib.hid hl9
  have HE12 := Lib.hid (HE11.out.trans hE12)
  clear hl9 hE12 HO9 HE11
  go_wp2_with fail
  refine (ints16_any (natsI [2]) (natsI [2]) _ _ _ HV9.out HL9.out).mono ?_
  rintro e w10 ⟨he, hE13⟩
  rw [decide_eq_true rfl] at he
  subst he
  have HE13 := Lib.hid (HE5.out.trans (HE12.out.trans hE13))
  clear hE13 HE12 HV9 HL9
  go_wp2
  go_ret
  exact ⟨rfl, HE13.out⟩
end Go.Proofs.YtbciamploeejiaaGreat

open Go.RowKit Go.Shelf
namespace Fm
open Go Go.RowKit
/-- No node is after anything: its slice is nil. -/
def Six (w : World) (A : Option Addr) (n : Nat) : Prop := ∀ b, A = some ⟨b, 0, none⟩ → ∀ k, k < n → w.cell? ⟨b, k * 16 + 6, none⟩ = some (.slice none 0 0)
theorem Six.ext {w w' : World} {A : Option Addr} {n : Nat} (h : Six w A n) (hE : Ext w w') (hl : ∀ b, A = some ⟨b, 0, none⟩ → b < w.heap.size) : Six w' A n := fun b hb k hk => (hE.cell (p := ⟨b, k * 16 + 6, none⟩) (hl b hb)).trans (h b hb k hk)
theorem Six.more {w w' : World} {A : Option Addr} {n C C' g base : Nat} {e : TypeId} {xs D : List Value} (h : Six w A n) (ho : w.ownsRow base e 16 (.slice A n C) n xs) (hn : w'.ownsRow base e 16 (.slice (some ⟨g, 0, none⟩) (n + 1) C') (n + 1) (xs ++ D)) (h6 : D[6]? = some (.slice none 0 0)) : Six w' (some ⟨g, 0, none⟩) (n + 1) := by
  intro b hb k hk
  injection hb with hb
  injection hb with hb
  subst hb
  have hxl : xs.length = n * 16 := ho.1
  rw [World.ownsRow.cellAt hn (k * 16 + 6) (by omega)]
  by_cases hkn : k < n
  · rw [List.getElem?_append_left (by omega)]
    obtain ⟨g0, c0, hA, -, -⟩ := World.ownsRow.form ho (by omega)
    injection hA with hA1 hA2 hA3
    subst hA1
    rw [← World.ownsRow.cellAt (cap := C) ho (k * 16 + 6) (by omega)]
    exact h g0 rfl k hkn
  · have : k = n := by omega
    subst this
    rw [List.getElem?_append_right (by omega), hxl, show k * 16 + 6 - k * 16 = 6 by omega]
    exact h6
end Fm
namespace Go.Proofs.YtbciamploeejiaaGreat
open Go Go.Proofs Fm
attribute [local go_sem] Oper.semAt_some

set_option maxRecDepth 100000 in
set_option maxHeartbeats 4000000 in
theorem forestw_any (l : List Int) (w : World) (v : Value) (h : intE.Row w l v) :
    Calls Tryz.prog 11 #[v] w fun e w' => ∃ A C, e = .returned (.slice A (forestF l).length C) ∧ FreeN 32 w.heap.size w' (.slice A (forestF l).length C) (forestF l) ∧ Six w' A (forestF l).length ∧ Ext w w' := by
  have HR := Lib.hid h
  obtain ⟨a, c, rfl, hc1, hc2⟩ := h.slice
  obtain ⟨LN, hLN⟩ : ∃ LN, LN = min l.length 60 := ⟨_, rfl⟩
  have hmin : min (l.length : Int) 60 = (LN : Int) := by omega
  have hs := slice_int_to a l.length c LN (by omega)
  have hL60 : LN ≤ 60 := by omega
  have HLl := Lib.hid (show LN ≤ l.length by omega)
  have HLN := Lib.hid hLN
  clear h hLN hc1
  go_enter Tryz.func11, Tryz.ntmps11
  go_upto_region 2 with (fail)
  go_wp2_with fail
  clear hmin hs
  go_loopw [3, 14] (fun o i wr => ∃ (j : Nat) (A : Option Addr) (C : Nat), j ≤ LN ∧ i = .int .i64 j ∧ o = .slice A j C ∧ Hid (Ext w wr) ∧ Hid (FreeN 32 w.heap.size wr (.slice A j C) (forestTo l j)) ∧ Hid (Six wr A j)) (fun _ i _ => LN - (intOf i).toNat)
  case atStart => exact ⟨0, none, 0, by omega, rfl, rfl, Lib.hid (Ext.refl w), Lib.hid (FreeN.nil _ _ _), Lib.hid (fun b _ k hk => by omega)⟩
  case round =>
    obtain ⟨j, A, C, hj, rfl, rfl, HE, HO, HS6⟩ := hrel
    by_cases hlt : j < LN
    case neg =>
      have HX := Lib.hid (show forestTo l j = forestF l by unfold forestF; rw [← HLN.out, show j = LN by omega])
      go_wp2
      go_ret
      have hfl : j = (forestF l).length := by rw [forestF_len, ← HLN.out]; omega
      exact ⟨A, C, by rw [← hfl]; rfl, by rw [← hfl, ← HX.out]; exact HO.out, by rw [← hfl]; exact HS6.out, HE.out⟩
    have hi' : j < l.length := by have := HLl.out; omega
    obtain ⟨b, off, rfl, hb, hcell, hi6⟩ := int_at HR.out HE.out j hi'
    have hj0 : (0 : Int) ≤ (j : Int) := by omega
    have hj1 : (j : Int) < (LN : Int) := by omega
    have HSl := Lib.hid HO.out.lt
    have HT := Lib.hid (show forestTo l (j + 1) = forestTo l j ++ [forestN (forestTo l j) l[j]] by rw [forestTo, List.getD_eq_getElem?_getD, List.getElem?_eq_getElem hi', Option.getD_some])
    obtain ⟨x, hx⟩ : ∃ x, x = l[j] := ⟨_, rfl⟩
    rw [← hx] at hcell hi6 HT
    clear hx
    obtain ⟨y, hy⟩ : ∃ y, y = x % 256 := ⟨_, rfl⟩
    have hb2 : bits BinOp.and IntKind.i64 x 255 = y := by rw [and255, hy]
    have hy0 : 0 ≤ y ∧ y ≤ 255 := by
      have h1 := Int.emod_nonneg x (show (256 : Int) ≠ 0 by decide)
      have h2 := Int.emod_lt_of_pos x (show (0 : Int) < 256 by decide)
      omega
    obtain ⟨o, ho⟩ : ∃ o : Nat, (o : Int) = y % ((j : Int) + 3) := ⟨(y % ((j : Int) + 3)).toNat, by have := Int.emod_nonneg y (show (j : Int) + 3 ≠ 0 by omega); omega⟩
    have hm1 : y % ((j : Int) + 3) = (o : Int) := ho.symm
    have hm2 : y.tmod ((j : Int) + 3) = (o : Int) := by rw [Int.tmod_eq_emod_of_nonneg hy0.1]; exact hm1
    obtain ⟨f1, hf1⟩ : ∃ f1, f1 = x / 256 % 2 := ⟨_, rfl⟩
    have hb1 : bits BinOp.and IntKind.i64 (x / 256) 1 = f1 := by rw [and1, hf1]
    have hf0 : 0 ≤ f1 ∧ f1 ≤ 1 := by
      have h1 := Int.emod_nonneg (x / 256) (show (2 : Int) ≠ 0 by decide)
      have h2 := Int.emod_lt_of_pos (x / 256) (show (0 : Int) < 2 by decide)
      omega
    have HFN := Lib.hid (show forestN (forestTo l j) x = if o < j then ndFl (nthF (forestTo l j) o).flow o else ndFl f1 (-1) by
      unfold forestN
      rw [forestTo_len, ← hy, ← ho, ← hf1]
      by_cases h : o < j
      · rw [if_pos h, if_pos (by omega)]
      · rw [if_neg h, if_neg (by omega)])
    have HY := Lib.hid hy0
    have HF := Lib.hid hf0
    clear hy ho hf1
    obtain ⟨Cm, hCm⟩ : ∃ Cm, Cm = flC f1 (-1) := ⟨_, rfl⟩
    have HMG : Hid ((Value.agg #[.string { data := #[] }, .string { data := #[] }, .int .u8 0, .int .i64 f1, .int .i64 (-1), .int .i64 0, .slice none 0 0, .int .i64 0, .int .i64 0, .int .u8 0, .int .i64 0, .int .i64 0, .int .u8 0, .int .i64 0, .string { data := #[] }, .slice none 0 0]) = .agg Cm.toArray) := Lib.hid (by rw [hCm]; rfl)
    have HCm := Lib.hid hCm
    have HL16 := Lib.hid (show Cm.length = 16 by rw [hCm]; rfl)
    have HN1 := Lib.hid (show ∀ u, u ∈ Cm → u.oneCell' = true by rw [hCm]; intro u hu; simp only [flC, List.mem_cons, List.not_mem_nil, or_false] at hu; rcases hu with rfl | rfl | rfl | rfl | rfl | rfl | rfl | rfl | rfl | rfl | rfl | rfl | rfl | rfl | rfl | rfl <;> rfl)
    clear hCm
    go_upto_region 6 with (refine wpList_storeBox rfl _ _ _ rfl _ _ _ _ rfl rfl rfl (by exact HMG.out) sizenode_F rfl HL16.out HN1.out ?_)
    have hB1 := BoxL.new wr Cm 32
    have hE1 := (Ext.refl wr).alloc (.cells Cm.toArray 32)
    have hO1 := HO.out.ext hE1
    have HE1 := Lib.hid (HE.out.trans hE1)
    have hNB : w.heap.size ≤ wr.heap.size := HE.out.size
    have hNB2 : wr.heap.size < (wr.alloc (.cells Cm.toArray 32)).heap.size := by simp
    have hgl2 := HO.out.lt
    have HE01 := Lib.hid hE1
    generalize wr.alloc (.cells Cm.toArray 32) = W1 at *
    obtain ⟨NB, hNBe⟩ : ∃ NB, NB = wr.heap.size := ⟨_, rfl⟩
    rw [← hNBe] at hB1 hNB hNB2 hgl2 ⊢
    have HNBe := Lib.hid hNBe
    clear hNBe
    rw [HCm.out] at hB1
    have HB1 := Lib.hid hB1
    have HO1 := Lib.hid hO1
    clear hB1 hE1 HMG HN1 hO1
    by_cases hoj : o < j
    case' pos =>
      obtain ⟨g, cap, hA, hg1, hg2⟩ := HO1.out.form (by rw [forestTo_len]; omega)
      rw [forestTo_len] at hA
      injection hA with hA1 hA2 hA3
      subst hA1 hA3
      have hgN : g < NB := (hgl2 g rfl).2
      obtain ⟨b', off', e', hb', aa, ma, ca, kk, N, s, d, ⟨-, -, -, x3, -⟩, hnv⟩ := nd_at16 HO1.out.row (Ext.refl W1) o (by rw [forestTo_len]; exact hoj)
      injection e' with e'
      injection e' with e1' e2'
      subst e1' e2'
      have hfw := hnv.wf.2.2.1
      have hol : o < (forestTo l j).length := by rw [forestTo_len]; exact hoj
      have HFN2 := Lib.hid (show forestN (forestTo l j) x = ndFl (forestTo l j)[o].flow o by rw [HFN.out, if_pos hoj, nthF_at])
      obtain ⟨f2, hf2⟩ : ∃ f2, f2 = (forestTo l j)[o].flow := ⟨_, rfl⟩
      rw [← hf2] at x3 hfw HFN2
      rw [Nat.zero_add] at x3
      have hne1 : g ≠ NB := by omega
      have hne2 : NB ≠ g := by omega
      have y3 := HB1.out.cell 3 _ rfl
      have y4 := HB1.out.cell 4 _ rfl
      have z3 := HB1.out.free 3
      have z4 := HB1.out.free 4
      have HFW := Lib.hid hfw
      clear hf2 hnv hfw hb'
      go_wp2_with fail
      go_region
      have hE2 : Ext wr (((W1.setCell ⟨NB, 4, none⟩ (.int .i64 (o : Int))).setCell ⟨NB, 3, none⟩ (.int .i64 f2)).drew) := ((HE01.out.setCell (p := ⟨NB, 4, none⟩) (by show wr.heap.size ≤ NB; have := HNBe.out; omega) _).setCell (p := ⟨NB, 3, none⟩) (by show wr.heap.size ≤ NB; have := HNBe.out; omega) _).drew
      have hB2 := ((HB1.out.set 4 (by simp [flC]) (.int .i64 (o : Int))).set 3 (by simp [flC]) (.int .i64 f2)).ext (Ext.refl _).drew
      generalize ((W1.setCell ⟨NB, 4, none⟩ (.int .i64 (o : Int))).setCell ⟨NB, 3, none⟩ (.int .i64 f2)).drew = W2 at *
      have HB2 := Lib.hid (show BoxL W2 NB (flC f2 (o : Int)) from hB2)
      have HV2 := Lib.hid (fun W => ndFl_v HFW.out (show isI64 (o : Int) by unfold isI64; omega) W)
      have HO2 := Lib.hid (HO.out.ext hE2)
      have HS2 := Lib.hid (HS6.out.ext hE2 (fun b hb => by injection hb with hb; injection hb with hb; rw [← hb]; exact (HSl.out g rfl).2))
      have HC6 := Lib.hid (show (flC f2 (o : Int))[6]? = some (.slice none 0 0) from rfl)
      have HE2 := Lib.hid (HE.out.trans hE2)
      obtain ⟨A', hA'⟩ : ∃ A' : Option Addr, A' = some ⟨g, 0, none⟩ := ⟨_, rfl⟩
      obtain ⟨Cn, hCn⟩ : ∃ Cn, Cn = flC f2 (o : Int) := ⟨_, rfl⟩
      obtain ⟨nn, hnn⟩ : ∃ nn, nn = ndFl f2 (o : Int) := ⟨_, rfl⟩
      have hNN := HFN2.out.trans hnn.symm
      rw [← hCn] at HB2 HC6
      rw [← hCn, ← hnn] at HV2
      have hC16 : Cn.length = 16 := by rw [hCn]; rfl
      clear hB2 hE2 hCn hnn x3 y3 y4 z3 z4
    case' neg =>
      have hNN := HFN.out
      rw [if_neg hoj] at hNN
      have HV2 := Lib.hid (fun W => ndFl_v (show isI64 f1 by have := HF.out; unfold isI64; omega) (show isI64 (-1) by unfold isI64; omega) W)
      obtain ⟨W2, hW2⟩ : ∃ W2, W2 = W1 := ⟨_, rfl⟩
      have HO2 := Lib.hid (show FreeN 32 w.heap.size W2 (.slice A j C) (forestTo l j) by rw [hW2]; exact HO1.out)
      have HE2 := Lib.hid (show Ext w W2 by rw [hW2]; exact HE1.out)
      have HS2 := Lib.hid (show Six W2 A j by rw [hW2]; exact HS6.out.ext HE01.out (fun b hb => by rw [hb] at HSl; exact (HSl.out b rfl).2))
      have HC6 := Lib.hid (show (flC f1 (-1))[6]? = some (.slice none 0 0) from rfl)
      obtain ⟨Cn, hCn⟩ : ∃ Cn, Cn = flC f1 (-1) := ⟨_, rfl⟩
      have HB2 := Lib.hid (show BoxL W2 NB Cn by rw [hW2, hCn]; exact HB1.out)
      obtain ⟨nn, hnn⟩ : ∃ nn, nn = ndFl f1 (-1) := ⟨_, rfl⟩
      rw [← hnn] at hNN
      rw [← hCn, ← hnn] at HV2
      rw [← hCn] at HC6
      have hC16 : Cn.length = 16 := by rw [hCn]; rfl
      rw [← hW2]
      clear hCn hnn hW2
      go_upto_region 9 with (fail)
    all_goals
      have HNN := Lib.hid hNN
      have hN1 := (ndV_one (HV2.out W2)).2
      have HR2 : Hid (W2.rangeAt NB 0 Cn) := Lib.hid (fun p v hp => by rw [Nat.zero_add]; exact HB2.out.cell p v hp)
      have HLn' : Hid ((Tryz.prog.info? 32).map (·.size) = some Cn.length) := Lib.hid (by rw [hC16]; exact sizenode_F)
      have hEa := (Ext.refl W2).alloc (.cells Cn.toArray 32)
      obtain ⟨ts, hts, hmore⟩ := (HO2.out.ext hEa).rowOf
      rw [forestTo_len] at hts hmore
      have HTs := Lib.hid hts
      have HMore := Lib.hid hmore
      have HC16 := Lib.hid hC16
      have HC1 := Lib.hid hN1
      have HRb := Lib.hid (show (W2.alloc (.cells Cn.toArray 32)).rangeAt W2.heap.size 0 Cn from rangeAt_new W2 Cn 32)
      have HEb := Lib.hid (HE2.out.trans hEa)
      have HLt := Lib.hid (HO2.out.ext hEa).lt
      have HS3 := Lib.hid (HS2.out.ext hEa (fun b hb => by first | exact (HO2.out.lt b (by rw [hb]; rfl)).2 | (injection hb with hb; injection hb with hb; rw [← hb]; exact (HO2.out.lt g rfl).2)))
      clear hNN hN1 hC16 hEa hts hmore HO2 HB2 HO1 HB1 HO HE HE01 HE1 HCm HFN hb1 hb2 hm1 hm2 hcell
      go_wp2_with (first | (refine wpList_load_mid rfl _ _ rfl _ _ rfl _ _ HR2.out Tryz.underlying32 rfl HLn'.out ?_) | (refine wpList_nodesC (C := Cn) (by rfl) (.tmp 41) rfl rfl HC16.out ?_) | (at_builtin; refine wpList_appOneM elemnode_F rfl _ _ rfl rfl HTs.out rfl HRb.out HC16.out HC1.out (by omega) (by omega) HEb.out.size ?_))
      intro v' w5 hown' hgrow _
      obtain ⟨g', cap', rfl⟩ := ownsRow_succ hown'
      have HO5 := Lib.hid (HMore.out w5 (.slice (some ⟨g', 0, none⟩) (j + 1) cap') nn Cn HC16.out (by simpa using hown') HV2.out)
      have HE5 := Lib.hid (HEb.out.grown hgrow (fun k e => (HLt.out k e).1))
      have HT5 := Lib.hid (show forestTo l (j + 1) = forestTo l j ++ [nn] by rw [HT.out, HNN.out])
      have HS5 := Lib.hid (Six.more HS3.out HTs.out hown' HC6.out)
      clear hown' hgrow
      go_wp2
      go_roundw
      case rel => exact ⟨j + 1, _, _, by omega, by go_num, rfl, HE5, Lib.hid (by rw [HT5.out]; exact HO5.out), HS5⟩
      case measure => simp [intOf]; omega
end Go.Proofs.YtbciamploeejiaaGreat

namespace Fm
open Go Go.RowKit

def someIds : List (List UInt8) := [[48, 47, 97], [48, 47, 98], [49, 47, 97, 91, 50, 93], [49, 47, 97, 91, 49, 48, 93], [48, 47, 97, 47, 99], [], [120], [50]]
def someA (x : Int) (k : Nat) : List Int := (List.range k).map (fun i => x / (2 ^ i : Nat) % 16 - 1)
def someG (l : List Int) (i : Nat) (n : Nd) : Nd :=
  { n with id := someIds.getD (l.getD i 0 / 4 % 8).toNat [], stand := UInt8.ofNat (l.getD i 0 / 16 % 8 % 7).toNat, fails := l.getD i 0 / 128 % 2, after := someA (l.getD i 0) (l.getD i 0 / 32 % 4).toNat }
def someF (l : List Int) : List Nd := chgF (someG l) (forestF l)
theorem someF_len (l : List Int) : (someF l).length = min l.length 60 := by unfold someF; rw [chgF_len, forestF_len]
theorem someF_le (l : List Int) : (someF l).length ≤ 60 := by rw [someF_len]; omega
theorem someIds_le (k : Nat) : (someIds.getD k []).length ≤ 8 := by
  by_cases h : k < 8
  · rcases (by omega : k = 0 ∨ k = 1 ∨ k = 2 ∨ k = 3 ∨ k = 4 ∨ k = 5 ∨ k = 6 ∨ k = 7) with rfl | rfl | rfl | rfl | rfl | rfl | rfl | rfl <;> decide
  · rw [List.getD_eq_getElem?_getD, List.getElem?_eq_none (by simp [someIds]; omega)]
    decide
theorem someA_len (x : Int) (k : Nat) : (someA x k).length = k := by unfold someA; simp
theorem someA_succ (x : Int) (k : Nat) : someA x (k + 1) = someA x k ++ [x / (2 ^ k : Nat) % 16 - 1] := by
  unfold someA
  rw [List.range_succ, List.map_append]
  rfl
theorem someA_i64 (x : Int) (k : Nat) : ∀ z, z ∈ someA x k → isI64 z := by
  intro z hz
  unfold someA at hz
  obtain ⟨i, -, rfl⟩ := List.mem_map.1 hz
  have h1 := Int.emod_nonneg (x / (2 ^ i : Nat)) (show (16 : Int) ≠ 0 by decide)
  have h2 := Int.emod_lt_of_pos (x / (2 ^ i : Nat)) (show (0 : Int) < 16 by decide)
  unfold isI64
  omega
theorem someF_mem {l : List Int} {n : Nd} (h : n ∈ someF l) : n.id.length ≤ 1000000 ∧ n.after.length ≤ 100000 := by
  obtain ⟨i, hi, rfl⟩ := List.getElem_of_mem h
  have hl : i < (forestF l).length := by unfold someF at hi; rw [chgF_len] at hi; exact hi
  rw [show (someF l)[i] = someG l i (forestF l)[i] from chgF_at (someG l) (forestF l) i hi hl]
  refine ⟨Nat.le_trans (someIds_le _) (by omega), ?_⟩
  show (someA _ _).length ≤ 100000
  rw [someA_len]
  have := Int.emod_lt_of_pos (l.getD i 0 / 32) (show (0 : Int) < 4 by decide)
  omega
theorem ndV_idR {w : World} {n : Nd} {C : List Value} (h : NdV w n (.agg C.toArray)) {s : List UInt8} (hs : s.length ≤ 9223372036854775807) : NdV w { n with id := s } (.agg (C.set 0 (.string (str s))).toArray) := by
  obtain ⟨a, m, c, k, N, S, d, e, h1, h2, h3, h4, h5⟩ := h
  injection e with e
  injection e with e
  subst e
  exact ⟨a, m, c, k, N, S, d, rfl, h1, h2, hs, h4, h5⟩
theorem set_same {α : Type} {l : List α} {i : Nat} {v : α} (h : l[i]? = some v) : l.set i v = l := by
  obtain ⟨hi, rfl⟩ := List.getElem?_eq_some_iff.1 h
  exact List.set_getElem_self hi
/-- One node is after others now. -/
theorem HeldN.afterR {eN : TypeId} {base g cap : Nat} {w W : World} {l : List Nd} {cs : List (List Value)} (h1 : cs.length = l.length) (h3 : ∀ (i : Nat) (hi : i < l.length) (hc : i < cs.length), FarNd w (some g) l[i] cs[i]) {i : Nat} (hi : i < l.length)
    {a : Option Addr} {m c : Nat} {af : List Int} (hrow : W.ownsRow base eN 16 (.slice (some ⟨g, 0, none⟩) l.length cap) l.length (cs.flatten.set (i * 16 + 6) (.slice a m c))) (hg : w.grownBy W (some g)) (ha : ∀ w', W.grownBy w' (some g) → intE.Row w' af (.slice a m c)) :
    HeldN eN base W (.slice (some ⟨g, 0, none⟩) l.length cap) (l.set i { l[i] with after := af }) := by
  have h16 : ∀ D, D ∈ cs → D.length = 16 := fun D hD => by
    obtain ⟨k, hk, rfl⟩ := List.getElem_of_mem hD
    exact (h3 k (by omega) hk).1
  have hc : i < cs.length := by omega
  refine ⟨cs.set i (cs[i].set 6 (.slice a m c)), by simp [h1], ?_, fun k hk hd => ?_⟩
  · rw [List.length_set, ← flat16_set1 hc h16 (by omega)]
    exact hrow
  · have hk' : k < l.length := by simpa using hk
    have hd' : k < cs.length := by simpa using hd
    by_cases e : i = k
    · subst e
      rw [List.getElem_set_self, List.getElem_set_self]
      exact farNd_of (fun w' hw' => ndV_after ((h3 i hi hc).2.2 w' (grown_trans hg hw')) (ha w' hw'))
    · rw [List.getElem_set_ne e, List.getElem_set_ne e]
      exact (h3 k hk' hd').then hg (.inl rfl)
theorem HeldN.relen {eN : TypeId} {base n m cap : Nat} {w : World} {a : Option Addr} {l : List Nd} (h : HeldN eN base w (.slice a n cap) l) (e : n = m) : HeldN eN base w (.slice a m cap) l := by subst e; exact h
theorem HeldN.putSF {eN : TypeId} {base g cap n : Nat} {w : World} {l : List Nd} (h : HeldN eN base w (.slice (some ⟨g, 0, none⟩) n cap) l) (hn : l.length = n) {i : Nat} (hi : i < l.length) {z : Nat} (hz : z < 256) {fl : Int} (hf : isI64 fl) :
    HeldN eN base ((w.setCell ⟨g, i * 16 + 9, none⟩ (.int .u8 (z : Int))).setCell ⟨g, i * 16 + 10, none⟩ (.int .i64 fl)) (.slice (some ⟨g, 0, none⟩) n cap) (l.set i { l[i] with stand := UInt8.ofNat z, fails := fl }) ∧ w.grownBy ((w.setCell ⟨g, i * 16 + 9, none⟩ (.int .u8 (z : Int))).setCell ⟨g, i * 16 + 10, none⟩ (.int .i64 fl)) (some g) := by
  have hzz : (UInt8.ofNat z).toNat = z := UInt8.toNat_ofNat_of_lt' hz
  have h1 := (h.relen hn.symm).put hi 9 (by omega) (.int .u8 (z : Int)) { l[i] with stand := UInt8.ofNat z } (fun w' C hC => by have := ndV_stand hC (UInt8.ofNat z); rw [hzz] at this; exact this)
  have hi2 : i < (l.set i { l[i] with stand := UInt8.ofNat z }).length := by simpa using hi
  have h2 := (h1.1.relen (show l.length = (l.set i { l[i] with stand := UInt8.ofNat z }).length by simp)).put hi2 10 (by omega) (.int .i64 fl) { l[i] with stand := UInt8.ofNat z, fails := fl } (fun w' C hC => by
    rw [List.getElem_set_self] at hC
    exact ndV_fails hC hf)
  refine ⟨?_, grown_trans h1.2 h2.2⟩
  have := h2.1.relen (show (l.set i { l[i] with stand := UInt8.ofNat z }).length = n by simpa using hn)
  rw [List.set_set] at this
  exact this
theorem HeldN.putId {eN : TypeId} {base g cap n : Nat} {w : World} {l : List Nd} (h : HeldN eN base w (.slice (some ⟨g, 0, none⟩) n cap) l) (hn : l.length = n) {i : Nat} (hi : i < l.length) {s : List UInt8} (hs : s.length ≤ 9223372036854775807) :
    HeldN eN base (w.setCell ⟨g, i * 16, none⟩ (.string (str s))) (.slice (some ⟨g, 0, none⟩) n cap) (l.set i { l[i] with id := s }) ∧ w.grownBy (w.setCell ⟨g, i * 16, none⟩ (.string (str s))) (some g) := by
  have h1 := (h.relen hn.symm).put hi 0 (by omega) (.string (str s)) { l[i] with id := s } (fun w' C hC => ndV_idR hC hs)
  exact ⟨h1.1.relen hn, h1.2⟩
theorem six_put {w : World} {g o k : Nat} {u v : Value} (h : w.cell? ⟨g, k * 16 + 6, none⟩ = some v) (ho : o % 16 ≠ 6) : (w.setCell ⟨g, o, none⟩ u).cell? ⟨g, k * 16 + 6, none⟩ = some v := by
  rw [World.cell?_setCell_other _ _ _ _ (fun e => ho (by injection e with _ e _; omega)), h]
theorem six_row {base e n cap g p : Nat} {w W : World} {xs : List Value} {va v : Value} {k : Nat} (h : w.ownsRow base e 16 (.slice (some ⟨g, 0, none⟩) n cap) n xs) (h2 : W.ownsRow base e 16 (.slice (some ⟨g, 0, none⟩) n cap) n (xs.set p va)) (hk : k < n) (hp : p ≠ k * 16 + 6) (hc : w.cell? ⟨g, k * 16 + 6, none⟩ = some v) : W.cell? ⟨g, k * 16 + 6, none⟩ = some v := by
  rw [World.ownsRow.cellAt h2 (k * 16 + 6) (by omega), List.getElem?_set_ne hp, ← World.ownsRow.cellAt h (k * 16 + 6) (by omega)]
  exact hc
end Fm

open Go.RowKit Go.Shelf
namespace Go.Proofs.YtbciamploeejiaaGreat
open Go Go.Proofs Fm
attribute [local go_sem] Oper.semAt_some

set_option maxRecDepth 100000 in
set_option maxHeartbeats 8000000 in
theorem some_any (l : List Int) (w : World) (v : Value) (h : intE.Row w l v) :
    Calls Tryz.prog 5 #[v] w fun e w' => ∃ A C, e = .returned (.slice A (someF l).length C) ∧ HeldN 32 w.heap.size w' (.slice A (someF l).length C) (someF l) ∧ Ext w w' := by
  have HR := Lib.hid h
  have HF := Lib.hid (forestw_any l w v h)
  obtain ⟨a, c, rfl, hc1, hc2⟩ := h.slice
  obtain ⟨LN, hLN⟩ : ∃ LN, LN = min l.length 60 := ⟨_, rfl⟩
  have HLN := Lib.hid hLN
  have HFl := Lib.hid (show (forestF l).length = LN by rw [forestF_len, hLN])
  have hL60 : LN ≤ 60 := by omega
  have hLl : LN ≤ l.length := by omega
  have HSl := Lib.hid (show (someF l).length = LN by rw [someF_len, hLN])
  rw [HFl.out] at HF
  rw [HSl.out]
  clear h hLN
  go_enter Tryz.func5, Tryz.ntmps5
  go_wp2_with fail
  refine HF.out.mono ?_
  rintro e w1 ⟨A, C, rfl, hfr, hsix, hE1⟩
  have HH0 := Lib.hid (show HeldN 32 w.heap.size w1 (.slice A LN C) (chgTo (someG l) (forestF l) 0) by rw [chgTo_zero]; exact hfr.held)
  have HS0 := Lib.hid hsix
  have HE1 := Lib.hid hE1
  clear hfr hsix hE1 HF
  go_wp2_with fail
  go_loopw [11] (fun i wr => ∃ j : Nat, j ≤ LN ∧ i = .int .i64 (j : Int) ∧ Hid (Ext w wr) ∧ Hid (HeldN 32 w.heap.size wr (.slice A LN C) (chgTo (someG l) (forestF l) j)) ∧ Hid (∀ b, A = some ⟨b, 0, none⟩ → ∀ k, j ≤ k → k < LN → wr.cell? ⟨b, k * 16 + 6, none⟩ = some (.slice none 0 0))) (fun i _ => LN - (intOf i).toNat)
  case atStart => exact ⟨0, by omega, rfl, HE1, HH0, Lib.hid (fun b hb k _ hk => HS0.out b hb k hk)⟩
  case round =>
    clear HH0 HS0 HE1
    obtain ⟨j, hj, rfl, HE, HH, HS⟩ := hrel
    by_cases hlt : j < LN
    case neg =>
      have HX := Lib.hid (show HeldN 32 w.heap.size wr (.slice A LN C) (someF l) by
        have := HH.out
        rw [show j = (forestF l).length by rw [HFl.out]; omega, chgTo_all] at this
        exact this)
      go_wp2
      go_ret
      exact ⟨A, C, rfl, HX.out, HE.out⟩
    have hjl : j < l.length := by omega
    have hjF : j < (forestF l).length := by rw [HFl.out]; exact hlt
    have hcl : (chgTo (someG l) (forestF l) j).length = LN := by rw [chgTo_len, HFl.out]
    obtain ⟨bx, offx, rfl, hbx, hcell, hx6⟩ := int_at HR.out HE.out j hjl
    obtain ⟨g, C', hA, hg1, hg2⟩ := HH.out.form (by rw [hcl]; omega)
    rw [hcl] at hA
    injection hA with hA1 hA2 hA3
    subst hA1 hA3
    have hj0 : (0 : Int) ≤ (j : Int) := by omega
    have hj1 : (j : Int) < (LN : Int) := by omega
    have hj2 : (j : Int) < (l.length : Int) := by omega
    obtain ⟨x, hx⟩ : ∃ x, x = l[j] := ⟨_, rfl⟩
    have HXg := Lib.hid (show l.getD j 0 = x by rw [List.getD_eq_getElem?_getD, List.getElem?_eq_getElem hjl, Option.getD_some, hx])
    rw [← hx] at hcell hx6
    clear hx
    -- the numbers
    obtain ⟨y, hy⟩ : ∃ y : Nat, (y : Int) = x / 16 % 8 := ⟨(x / 16 % 8).toNat, by have := Int.emod_nonneg (x / 16) (show (8 : Int) ≠ 0 by decide); omega⟩
    have hy8 : y < 8 := by have := Int.emod_lt_of_pos (x / 16) (show (0 : Int) < 8 by decide); omega
    obtain ⟨z, hz⟩ : ∃ z : Nat, z = y % 7 := ⟨_, rfl⟩
    have hz7 : z < 7 := by omega
    obtain ⟨fl, hfl⟩ : ∃ fl, fl = x / 128 % 2 := ⟨_, rfl⟩
    have hfl2 : 0 ≤ fl ∧ fl ≤ 1 := by
      have h1 := Int.emod_nonneg (x / 128) (show (2 : Int) ≠ 0 by decide)
      have h2 := Int.emod_lt_of_pos (x / 128) (show (0 : Int) < 2 by decide)
      omega
    obtain ⟨q, hq⟩ : ∃ q : Nat, (q : Int) = x / 4 % 8 := ⟨(x / 4 % 8).toNat, by have := Int.emod_nonneg (x / 4) (show (8 : Int) ≠ 0 by decide); omega⟩
    have hq8 : q < 8 := by have := Int.emod_lt_of_pos (x / 4) (show (0 : Int) < 8 by decide); omega
    obtain ⟨cn, hcn⟩ : ∃ cn : Nat, (cn : Int) = x / 32 % 4 := ⟨(x / 32 % 4).toNat, by have := Int.emod_nonneg (x / 32) (show (4 : Int) ≠ 0 by decide); omega⟩
    have hcn4 : cn < 4 := by have := Int.emod_lt_of_pos (x / 32) (show (0 : Int) < 4 by decide); omega
    have b1 : bits BinOp.and IntKind.i64 (x / 16) 7 = (y : Int) := by rw [and7, hy]
    have b2 : bits BinOp.and IntKind.i64 (x / 128) 1 = fl := by rw [and1, hfl]
    have b3 : bits BinOp.and IntKind.i64 (x / 4) 7 = (q : Int) := by rw [and7, hq]
    have b4 : bits BinOp.and IntKind.i64 (x / 32) 3 = (cn : Int) := by rw [and3, hcn]
    have b5 : (y : Int).tmod 7 = (z : Int) := by rw [Int.tmod_eq_emod_of_nonneg (by omega)]; omega
    have HH1 := Lib.hid (show HeldN 32 w.heap.size wr (.slice (some ⟨g, 0, none⟩) LN C) (chgTo (someG l) (forestF l) j) from HH.out)
    have hjc : j < (chgTo (someG l) (forestF l) j).length := by rw [hcl]; exact hlt
    obtain ⟨⟨u9, c9⟩, z9⟩ := (HH1.out.relen hcl.symm).spot hjc 9 (by omega)
    obtain ⟨⟨u10, c10⟩, z10⟩ := (HH1.out.relen hcl.symm).spot hjc 10 (by omega)
    have hgx : g ≠ bx := by omega
    have HSF := Lib.hid (HH1.out.putSF hcl hjc (show z < 256 by omega) (show isI64 fl by unfold isI64; omega))
    have HS1 := Lib.hid (fun k (h1 : j ≤ k) (h2 : k < LN) => six_put (u := .int .i64 fl) (six_put (u := .int .u8 (z : Int)) (HS.out g rfl k h1 h2) (show (j * 16 + 9) % 16 ≠ 6 by omega)) (show (j * 16 + 10) % 16 ≠ 6 by omega))
    have HZ := Lib.hid hz
    have HY := Lib.hid hy
    have HFl2 := Lib.hid hfl
    have HQ := Lib.hid hq
    have HCN := Lib.hid hcn
    have HG1 := Lib.hid hg1
    clear hz hy hfl hq hcn HH HS hg1
    have HWc := Lib.hid (show w.heap.size ≤ wr.heap.size from HE.out.size)
    go_upto_region 7 with (fail)
    have hE2 : Ext w ((wr.setCell ⟨g, j * 16 + 9, none⟩ (.int .u8 (z : Int))).setCell ⟨g, j * 16 + 10, none⟩ (.int .i64 fl)) := HE.out.grown HSF.out.2 (fun k hk => by injection hk with hk; rw [← hk]; exact HG1.out)
    obtain ⟨W2, hW2⟩ : ∃ W2, W2 = (wr.setCell ⟨g, j * 16 + 9, none⟩ (.int .u8 (z : Int))).setCell ⟨g, j * 16 + 10, none⟩ (.int .i64 fl) := ⟨_, rfl⟩
    rw [← hW2] at HSF HS1 hE2 ⊢
    have hg3 : g < W2.heap.size := by rw [hW2]; simpa using hg2
    have hg4 : g ≠ W2.heap.size := by omega
    have HE2 := Lib.hid hE2
    have HH2 := Lib.hid HSF.out.1
    clear hE2 hW2 HSF HH1 c9 z9 c10 z10 hcell b1 b2 b5 HE
    obtain ⟨L2, hL2⟩ : ∃ L2, L2 = (chgTo (someG l) (forestF l) j).set j { (chgTo (someG l) (forestF l) j)[j] with stand := UInt8.ofNat z, fails := fl } := ⟨_, rfl⟩
    rw [← hL2] at HH2
    have hl2 : L2.length = LN := by rw [hL2, List.length_set]; exact hcl
    have hj2c : j < L2.length := by omega
    have HL2 := Lib.hid hL2
    clear hL2
    obtain ⟨sI, hsI⟩ : ∃ sI, sI = someIds.getD q [] := ⟨_, rfl⟩
    have hsl : sI.length ≤ 9223372036854775807 := by rw [hsI]; have := someIds_le q; omega
    have hB := BoxL.new W2 (someIds.map fun s => Value.string (str s)) 9
    have hq : (someIds.map fun s => Value.string (str s))[q]? = some (.string (str sI)) := by
      rw [List.getElem?_map, hsI, List.getD_eq_getElem?_getD, List.getElem?_eq_getElem (show q < someIds.length from hq8)]
      rfl
    have hcq := hB.cell q _ hq
    have HSI := Lib.hid hsI
    obtain ⟨⟨u0, c0⟩, z0⟩ := (HH2.out.relen hl2.symm).spot hj2c 0 (by omega)
    have c0 : W2.cell? ⟨g, j * 16, none⟩ = some u0 := c0
    have z0 : W2.frozen? ⟨g, j * 16, none⟩ = false := z0
    have hq0 : (0 : Int) ≤ (q : Int) := by omega
    have hq1 : (q : Int) < 8 := by omega
    have HPI := Lib.hid (HH2.out.putId hl2 hj2c hsl)
    have HSP := Lib.hid (fun k (h1 : j ≤ k) (h2 : k < LN) => six_put (u := .string (str sI)) (HS1.out k h1 h2) (show (j * 16) % 16 ≠ 6 by omega))
    clear hB HS1 hq hsI
    rw [show (W2.alloc (.cells (someIds.map fun s => Value.string (str s)).toArray 9)) = W2.alloc (.cells #[.string { data := #[48, 47, 97] }, .string { data := #[48, 47, 98] }, .string { data := #[49, 47, 97, 91, 50, 93] }, .string { data := #[49, 47, 97, 91, 49, 48, 93] }, .string { data := #[48, 47, 97, 47, 99] }, .string { data := #[] }, .string { data := #[120] }, .string { data := #[50] }] 9) from rfl] at hcq
    go_upto_region 8 with (fail)
    have hE3 : Ext w (W2.setCell ⟨g, j * 16, none⟩ (.string (str sI))) := HE2.out.grown HPI.out.2 (fun k hk => by injection hk with hk; rw [← hk]; exact HG1.out)
    have hg5 : g < (W2.setCell ⟨g, j * 16, none⟩ (.string (str sI))).heap.size := by simpa using hg3
    obtain ⟨W3, hW3⟩ : ∃ W3, W3 = W2.setCell ⟨g, j * 16, none⟩ (.string (str sI)) := ⟨_, rfl⟩
    rw [← hW3] at HPI HSP hE3 hg5 ⊢
    have hEb := (Ext.refl W3).alloc (.cells #[.string { data := #[48, 47, 97] }, .string { data := #[48, 47, 98] }, .string { data := #[49, 47, 97, 91, 50, 93] }, .string { data := #[49, 47, 97, 91, 49, 48, 93] }, .string { data := #[48, 47, 97, 47, 99] }, .string { data := #[] }, .string { data := #[120] }, .string { data := #[50] }] 9)
    obtain ⟨L3, hL3⟩ : ∃ L3, L3 = L2.set j { L2[j] with id := sI } := ⟨_, rfl⟩
    rw [← hL3] at HPI
    have hl3 : L3.length = LN := by rw [hL3, List.length_set]; exact hl2
    have hj3c : j < L3.length := by omega
    have HL3 := Lib.hid hL3
    have hHi := HPI.out.1.ext hEb
    have hSi : ∀ k, j ≤ k → k < LN → _ := fun k h1 h2 => (hEb.cell (p := ⟨g, k * 16 + 6, none⟩) hg5).trans (HSP.out k h1 h2)
    have hEi := hE3.trans hEb
    have hgi := Nat.lt_of_lt_of_le hg5 hEb.size
    generalize W3.alloc (.cells #[.string { data := #[48, 47, 97] }, .string { data := #[48, 47, 98] }, .string { data := #[49, 47, 97, 91, 50, 93] }, .string { data := #[49, 47, 97, 91, 49, 48, 93] }, .string { data := #[48, 47, 97, 47, 99] }, .string { data := #[] }, .string { data := #[120] }, .string { data := #[50] }] 9) = Wi at *
    clear hL3 hW3 hEb hE3 HPI HSP HE2 HH2 hcq c0 z0
    have HSi := Lib.hid hSi
    have HEi := Lib.hid hEi
    have HGi := Lib.hid hgi
    obtain ⟨cs, h1, h2, h3⟩ := hHi
    rw [hl3] at h2
    have hxs : cs.flatten.length = LN * 16 := h2.1
    have h6s : cs.flatten[j * 16 + 6]? = some (.slice none 0 0) := by
      rw [← World.ownsRow.cellAt h2 (j * 16 + 6) (by omega)]
      exact hSi j (Nat.le_refl _) hlt
    have HR0 := Lib.hid (show Wi.ownsRow w.heap.size 32 16 (.slice (some ⟨g, 0, none⟩) LN C) LN (cs.flatten.set (j * 16 + 6) (.slice none 0 0)) by rw [set_same h6s]; exact h2)
    have HROW := Lib.hid h2
    have H1 := Lib.hid h1
    have H3 := Lib.hid h3
    obtain ⟨xs, hxs'⟩ : ∃ xs, xs = cs.flatten := ⟨_, rfl⟩
    rw [← hxs'] at HR0 HROW hxs
    have HXS := Lib.hid hxs'
    clear h1 h2 h3 h6s hxs' hSi hEi hgi
    go_wp2_with fail
    go_loopw [47] (fun i wr => ∃ (k : Nat) (aa : Option Addr) (mc : Nat), k ≤ cn ∧ i = .int .i64 (k : Int) ∧ Hid (Wi.grownBy wr (some g)) ∧ Hid (wr.ownsRow w.heap.size 32 16 (.slice (some ⟨g, 0, none⟩) LN C) LN (xs.set (j * 16 + 6) (.slice aa k mc))) ∧ Hid (OwnN 3 Wi.heap.size wr (.slice aa k mc) (someA x k)) ∧ Hid (Ext w wr)) (fun i _ => cn - (intOf i).toNat)
    case atStart => exact ⟨0, none, 0, by omega, rfl, Lib.hid (grown_ext (Ext.refl _) _), HR0, Lib.hid (OwnN.nil _ _ _), HEi⟩
    case round =>
      clear HR0 HEi
      obtain ⟨k, aa, mc, hk, rfl, HG, HRw, HO, HE⟩ := hrel
      by_cases hkc : k < cn
      case neg =>
        have hkk : k = cn := by omega
        have HX := Lib.hid (show HeldN 32 w.heap.size wr (.slice (some ⟨g, 0, none⟩) LN C) (L3.set j { L3[j]'hj3c with after := someA x cn }) by
          have := HeldN.afterR (W := wr) (base := w.heap.size) (eN := 32) (cap := C) H1.out H3.out hj3c (a := aa) (m := k) (c := mc) (af := someA x cn) (by rw [hl3, ← HXS.out]; exact HRw.out) HG.out (fun w' hw' => OwnN.row (World.ownsRow.kept (show OwnN 3 Wi.heap.size wr (.slice aa k mc) (someA x cn) by rw [← hkk]; exact HO.out) hw' (.inr (fun e => by have := (World.ownsRow.lt HO.out g e).1; have := HGi.out; omega))) (someA_i64 x cn))
          exact this.relen hl3)
        have HLx := Lib.hid (show L3.set j { L3[j]'hj3c with after := someA x cn } = chgTo (someG l) (forestF l) (j + 1) by
          rw [chgTo_succ _ _ _ hjF]
          have hat : (chgTo (someG l) (forestF l) j)[j] = (forestF l)[j] := chgTo_at _ _ _ _ hjF
          have e3 : L3[j]'hj3c = { L2[j]'hj2c with id := sI } := by simp only [HL3.out, List.getElem_set_self]
          have e2 : L2[j]'hj2c = { (chgTo (someG l) (forestF l) j)[j] with stand := UInt8.ofNat z, fails := fl } := by simp only [HL2.out, List.getElem_set_self]
          rw [e3, HL3.out, e2, HL2.out, List.set_set, List.set_set, hat]
          unfold someG
          rw [HXg.out, show (x / 4 % 8).toNat = q by have := HQ.out; omega, show (x / 16 % 8 % 7).toNat = z by have := HY.out; have := HZ.out; omega, show (x / 32 % 4).toNat = cn by have := HCN.out; omega, ← HFl2.out, ← HSI.out])
        have HX := Lib.hid (show HeldN 32 w.heap.size wr (.slice (some ⟨g, 0, none⟩) LN C) (chgTo (someG l) (forestF l) (j + 1)) by rw [← HLx.out]; exact HX.out)
        have HSn : Hid (∀ b, (some ⟨g, 0, none⟩ : Option Addr) = some ⟨b, 0, none⟩ → ∀ k', j + 1 ≤ k' → k' < LN → wr.cell? ⟨b, k' * 16 + 6, none⟩ = some (.slice none 0 0)) := Lib.hid (fun b hb k' h1 h2 => by
          injection hb with hb
          injection hb with hb
          subst hb
          exact six_row HROW.out HRw.out h2 (by omega) (HSi.out k' (by omega) h2))
        clear HG HRw HO
        go_wp2_with fail
        go_roundw
        case rel => exact ⟨j + 1, by omega, by go_num, HE, HX, HSn⟩
        case measure => simp [intOf]; omega
      obtain ⟨yk, hyk⟩ : ∃ yk, yk = x / 2 ^ k % 16 := ⟨_, rfl⟩
      have hyk2 : 0 ≤ yk ∧ yk ≤ 15 := by
        have h1 := Int.emod_nonneg (x / 2 ^ k) (show (16 : Int) ≠ 0 by decide)
        have h2 := Int.emod_lt_of_pos (x / 2 ^ k) (show (0 : Int) < 16 by decide)
        omega
      have b6 : bits BinOp.and IntKind.i64 (x / 2 ^ k) 15 = yk := by rw [and15, hyk]
      have b7 : IntKind.i64.wrap (yk - 1) = yk - 1 := IntWalk.i64_in _ (by omega)
      have hgw : g < wr.heap.size := (World.ownsRow.lt HRw.out g rfl).2
      have hgne : g ≠ wr.heap.size := by omega
      have HA := Lib.hid (show someA x (k + 1) = someA x k ++ [yk - 1] by rw [someA_succ, hyk]; simp)
      have hAl := someA_len x k
      clear hyk
      have hc6 : wr.cell? ⟨g, j * 16 + 6, none⟩ = some (.slice aa k mc) := by
        rw [World.ownsRow.cellAt HRw.out (j * 16 + 6) (by omega), List.getElem?_set_self (by omega)]
      have hf6 : wr.frozen? ⟨g, j * 16 + 6, none⟩ = false := World.ownsRow.frozenAt HRw.out _
      have hk0 : (0 : Int) ≤ (k : Int) := by omega
      have hk1 : (k : Int) < (cn : Int) := by omega
      go_upto_region 11 with (fail)
      refine wp_region_held_drew (S := fun _ => True) (by kernel_rfl) trivial (fun hHeld => ?_)
      refine take_w 0 (some 50) (v := ?_) (by kernel_rfl) (by kernel_rfl) (by kernel_rfl) (by kernel_rfl) (by kernel_rfl) (fun _ _ _ h => h) (by rfl) ?_ (by assumption) ?_
      rotate_left
      · (intro w hSw; go_simp; try with_reducible rfl)
      try simp only [Act.put, List.setIfInBounds_toArray, List.set_cons_zero, List.set_cons_succ]
      refine take_w 1 (some 51) (v := ?_) (by kernel_rfl) (by kernel_rfl) (by kernel_rfl) (by kernel_rfl) (by kernel_rfl) (fun _ _ _ h => h) (by rfl) ?_ (by assumption) ?_
      rotate_left
      · (intro w hSw; go_simp; try with_reducible rfl)
      try simp only [Act.put, List.setIfInBounds_toArray, List.set_cons_zero, List.set_cons_succ]
      refine take_w 2 (some 52) (v := ?_) (by kernel_rfl) (by kernel_rfl) (by kernel_rfl) (by kernel_rfl) (by kernel_rfl) (fun _ _ _ h => h) (by rfl) ?_ (by assumption) ?_
      rotate_left
      · (intro w hSw; go_simp; try with_reducible rfl)
      try simp only [Act.put, List.setIfInBounds_toArray, List.set_cons_zero, List.set_cons_succ]
      refine take_w 3 (some 53) (v := ?_) (by kernel_rfl) (by kernel_rfl) (by kernel_rfl) (by kernel_rfl) (by kernel_rfl) (fun _ _ _ h => h) (by rfl) ?_ (by assumption) ?_
      rotate_left
      · (intro w hSw; go_simp; try with_reducible rfl)
      try simp only [Act.put, List.setIfInBounds_toArray, List.set_cons_zero, List.set_cons_succ]
      refine take_w 4 (some 54) (v := ?_) (by kernel_rfl) (by kernel_rfl) (by kernel_rfl) (by kernel_rfl) (by kernel_rfl) (fun _ _ _ h => h) (by rfl) ?_ (by assumption) ?_
      rotate_left
      · (intro w hSw; go_simp; try with_reducible rfl)
      try simp only [Act.put, List.setIfInBounds_toArray, List.set_cons_zero, List.set_cons_succ]
      refine take_w 5 (some 55) (v := ?_) (by kernel_rfl) (by kernel_rfl) (by kernel_rfl) (by kernel_rfl) (by kernel_rfl) (fun _ _ _ h => h) (by rfl) ?_ (by assumption) ?_
      rotate_left
      · (intro w hSw; go_simp; try with_reducible rfl)
      try simp only [Act.put, List.setIfInBounds_toArray, List.set_cons_zero, List.set_cons_succ]
      refine take_w 7 (some 57) (v := ?_) (by kernel_rfl) (by kernel_rfl) (by kernel_rfl) (by kernel_rfl) (by kernel_rfl) (fun _ _ _ h => h) (by rfl) ?_ (by assumption) ?_
      rotate_left
      · (intro w hSw; go_simp; try with_reducible rfl)
      try simp only [Act.put, List.setIfInBounds_toArray, List.set_cons_zero, List.set_cons_succ]
      refine take_w 8 (some 58) (v := ?_) (by kernel_rfl) (by kernel_rfl) (by kernel_rfl) (by kernel_rfl) (by kernel_rfl) (fun _ _ _ h => h) (by rfl) ?_ (by assumption) ?_
      rotate_left
      · (intro w hSw; go_simp; try with_reducible rfl)
      try simp only [Act.put, List.setIfInBounds_toArray, List.set_cons_zero, List.set_cons_succ]
      refine take_w 9 (some 59) (v := ?_) (by kernel_rfl) (by kernel_rfl) (by kernel_rfl) (by kernel_rfl) (by kernel_rfl) (fun _ _ _ h => h) (by rfl) ?_ (by assumption) ?_
      rotate_left
      · (intro w hSw; go_simp; try with_reducible rfl)
      try simp only [Act.put, List.setIfInBounds_toArray, List.set_cons_zero, List.set_cons_succ]
      refine take_w 10 (some 60) (v := ?_) (by kernel_rfl) (by kernel_rfl) (by kernel_rfl) (by kernel_rfl) (by kernel_rfl) (fun _ _ _ h => h) (by rfl) ?_ (by assumption) ?_
      rotate_left
      · (intro w hSw; go_simp; try with_reducible rfl)
      try simp only [Act.put, List.setIfInBounds_toArray, List.set_cons_zero, List.set_cons_succ]
      refine take_w 11 (some 61) (v := ?_) (by kernel_rfl) (by kernel_rfl) (by kernel_rfl) (by kernel_rfl) (by kernel_rfl) (fun _ _ _ h => h) (by rfl) ?_ (by assumption) ?_
      rotate_left
      · (intro w hSw; go_simp; try with_reducible rfl)
      try simp only [Act.put, List.setIfInBounds_toArray, List.set_cons_zero, List.set_cons_succ]
      refine ready_two 6 12 (by kernel_rfl) (by kernel_rfl) (by kernel_rfl) (by rfl) (by rfl) (fun Kc hKc => ?_) (fun Kc hKc => ?_)
      case' refine_1 =>
        go_simp
        refine hKc.out _ _ trivial (fun _ => ?_)
        clear hKc Kc
        try simp only [Act.put, List.setIfInBounds_toArray, List.set_cons_zero, List.set_cons_succ]
        refine ready_one 12 (by kernel_rfl) (by kernel_rfl) (by rfl) (fun Kc hKc => ?_)
        go_simp
        refine hKc.out _ _ trivial (fun _ => ?_)
        clear hKc Kc
      case' refine_2 =>
        go_simp
        refine hKc.out _ _ trivial (fun _ => ?_)
        clear hKc Kc
        try simp only [Act.put, List.setIfInBounds_toArray, List.set_cons_zero, List.set_cons_succ]
        refine ready_one 6 (by kernel_rfl) (by kernel_rfl) (by rfl) (fun Kc hKc => ?_)
        go_simp
        refine hKc.out _ _ trivial (fun _ => ?_)
        clear hKc Kc
      all_goals
        try simp only [Act.put, List.setIfInBounds_toArray, List.set_cons_zero, List.set_cons_succ]
        have hEx : Ext wr ((wr.alloc (.cells #[.int .i64 (yk - 1)] 3)).drew) := ((Ext.refl wr).alloc _).drew
        have hOx := hEx.own HO.out
        have hRx := hEx.own HRw.out
        have hRg : ((wr.alloc (.cells #[.int .i64 (yk - 1)] 3)).drew).rangeAt wr.heap.size 0 [.int .i64 (yk - 1)] := (World.rangeAt_drew _ _ _ _).2 (rangeAt_new wr [.int .i64 (yk - 1)] 3)
        have hGx := grown_trans HG.out (grown_ext hEx (some g))
        have hEw := HE.out.trans hEx
        have hzx := hEx.size
        have hzw := HG.out.size
        generalize (wr.alloc (.cells #[.int .i64 (yk - 1)] 3)).drew = W5 at *
        have hsrc : Src Tryz.prog 1 22 (.slice (some ⟨wr.heap.size, 0, none⟩) 1 1) 1 [.int .i64 (yk - 1)] W5 := Src.ofSlice W5 Tryz.underlying22 _ _ _ _ (by simp) (fun j u hu => by rw [Addr.add_lit]; exact hRg j u hu) (by simp [Value.oneCell'])
        refine ready_one 13 (by kernel_rfl) (by kernel_rfl) (by rfl) (fun Kc hKc => ?_)
        refine wp_appendS (.tmp 56) (.tmp 62) 22 (by rfl) elemint_F Wi.heap.size (.slice aa k mc) k ((someA x k).map (Value.int .i64)) (by rfl) (by have := hOx; unfold OwnN at this; rw [hAl] at this; exact this) _ 1 [.int .i64 (yk - 1)] (by rfl) hsrc (by unfold maxLen; omega) (by omega) (by omega) ?_
        intro A5 C5 w6 hown hg6 hat
        refine hKc.out _ _ trivial (fun _ => ?_)
        clear hKc Kc
        have hnb : ∀ b, (Value.slice aa k mc).ownBlock = some b → Wi.heap.size ≤ b := fun b hb => (World.ownsRow.lt hOx b hb).1
        have hnb5 : ∀ b, (Value.slice A5 (k + 1) C5).ownBlock = some b → Wi.heap.size ≤ b := fun b hb => (World.ownsRow.lt hown b hb).1
        have hR6 := World.ownsRow.kept hRx hg6 (.inr (fun e => by have := hnb g e.symm; have := HGi.out; omega))
        have hG6 : Wi.grownBy w6 (some g) := grown_row' hGx hg6 hnb
        have hc6' : w6.cell? ⟨g, j * 16 + 6, none⟩ = some (.slice aa k mc) := by
          rw [World.ownsRow.cellAt hR6 (j * 16 + 6) (by omega), List.getElem?_set_self (by omega)]
        have hf6' : w6.frozen? ⟨g, j * 16 + 6, none⟩ = false := World.ownsRow.frozenAt hR6 _
        have hgs := setOne_grown w6 g (j * 16 + 6) (.slice A5 (k + 1) C5)
        have HGn := Lib.hid (grown_trans hG6 hgs)
        have HRn := Lib.hid (show (w6.setCell ⟨g, j * 16 + 6, none⟩ (.slice A5 (k + 1) C5)).ownsRow w.heap.size 32 16 (.slice (some ⟨g, 0, none⟩) LN C) LN (xs.set (j * 16 + 6) (.slice A5 (k + 1) C5)) by
          have := (hR6.stored (j * 16 + 6) (.slice A5 (k + 1) C5)).1
          rw [List.set_set] at this
          exact this)
        have HOn := Lib.hid (show OwnN 3 Wi.heap.size (w6.setCell ⟨g, j * 16 + 6, none⟩ (.slice A5 (k + 1) C5)) (.slice A5 (k + 1) C5) (someA x (k + 1)) from World.ownsRow.kept (by rw [HA.out]; simpa [hAl] using hown) hgs (.inr (fun e => by have := hnb5 g e; have := HGi.out; omega)))
        have HEn := Lib.hid (show Ext w (w6.setCell ⟨g, j * 16 + 6, none⟩ (.slice A5 (k + 1) C5)) from (hEw.grown hg6 (fun b hb => by have := hnb b hb; have := HG1.out; have := HGi.out; omega)).setCell (p := ⟨g, j * 16 + 6, none⟩) HG1.out _)
        clear hown hg6 hat hnb hnb5 hR6 hG6 hgs hOx hRx hRg hGx hEw hsrc hEx HG HRw HO HE hc6 hf6
        try simp only [Act.put, List.setIfInBounds_toArray]
        refine take_w 14 (some 64) (v := ?_) (by kernel_rfl) (by kernel_rfl) (by kernel_rfl) (by kernel_rfl) (by kernel_rfl) (fun _ _ _ h => h) (by rfl) ?_ (by assumption) ?_
        rotate_left
        · (intro w hSw; go_simp; try with_reducible rfl)
        try simp only [Act.put]
        refine take_w 15 (some 65) (v := ?_) (by kernel_rfl) (by kernel_rfl) (by kernel_rfl) (by kernel_rfl) (by kernel_rfl) (fun _ _ _ h => h) (by rfl) ?_ (by assumption) ?_
        rotate_left
        · (intro w hSw; go_simp; try with_reducible rfl)
        try simp only [Act.put]
        refine ready_one 16 (by kernel_rfl) (by kernel_rfl) (by rfl) (fun Kc hKc => ?_)
        go_simp
        refine hKc.out _ _ trivial (fun _ => ?_)
        clear hKc Kc
        try simp only [Act.put, List.setIfInBounds_toArray, List.set_cons_zero, List.set_cons_succ]
        refine wpAnyH_done (by kernel_rfl) ?_ _
        go_wp2_with fail
        go_roundw
        case rel => exact ⟨k + 1, A5, C5, by omega, by go_num, HGn, HRn, HOn, HEn⟩
        case measure => simp [intOf]; omega
end Go.Proofs.YtbciamploeejiaaGreat

namespace Fm
open Go Go.RowKit

/-- What the law has met behind j of them. -/
noncomputable def metN (ls : List Nat) (j : Nat) : Int → Option Int := fun x => if x ∈ (ls.take j).map (fun (i : Nat) => (i : Int)) then some 1 else none
theorem metN_zero (ls : List Nat) : metN ls 0 = fun _ => none := by funext x; unfold metN; simp
theorem metN_succ {ls : List Nat} {j : Nat} (h : j < ls.length) : metN ls (j + 1) = fun t => if t = (ls[j] : Int) then some 1 else metN ls j t := by
  funext t
  unfold metN
  rw [List.take_add_one, List.getElem?_eq_getElem h]
  by_cases e : t = (ls[j] : Int)
  · rw [if_pos e, if_pos]
    exact List.mem_map.2 ⟨ls[j], List.mem_append_right _ (by simp), e.symm⟩
  · rw [if_neg e]
    have : (t ∈ (ls.take j ++ (some ls[j]).toList).map (fun (i : Nat) => (i : Int))) ↔ t ∈ (ls.take j).map (fun (i : Nat) => (i : Int)) := by
      rw [List.map_append, List.mem_append]
      refine ⟨fun h => h.elim id (fun h => ?_), .inl⟩
      simp at h
      exact absurd h e
    by_cases hm : t ∈ (ls.take j).map (fun (i : Nat) => (i : Int))
    · rw [if_pos hm, if_pos (this.2 hm)]
    · rw [if_neg hm, if_neg (fun h => hm (this.1 h))]
theorem metN_all (ls : List Nat) (x : Nat) : (metN ls ls.length (x : Int)).getD 0 = if x ∈ ls then 1 else 0 := by
  unfold metN
  rw [List.take_length]
  by_cases h : x ∈ ls
  · rw [if_pos (List.mem_map.2 ⟨x, h, rfl⟩), if_pos h]; rfl
  · rw [if_neg (fun hm => by
      obtain ⟨i, hi, e⟩ := List.mem_map.1 hm
      have : i = x := by exact_mod_cast e
      subst this
      exact h hi), if_neg h]; rfl
theorem wakesF_lt {l : List Nd} {i : Int} {x : Nat} (h : x ∈ wakesF l i) : x < l.length := by
  unfold wakesF at h
  split at h
  · exact List.mem_range.1 (List.mem_filter.1 h).1
  · cases h
theorem wakesF_up (l : List Nd) (i : Int) : (wakesF l i).Pairwise (· < ·) := by
  unfold wakesF
  split
  · exact List.pairwise_lt_range.filter _
  · exact List.Pairwise.nil
theorem wakesF_next {l : List Nd} {i : Int} {j : Nat} (h : j + 1 < (wakesF l i).length) : (wakesF l i)[j] < (wakesF l i)[j + 1] := List.pairwise_iff_getElem.1 (wakesF_up l i) j (j + 1) (by omega) h (by omega)
theorem wakesF_le (l : List Nd) (i : Int) : (wakesF l i).length ≤ l.length := by
  unfold wakesF
  split
  · exact Nat.le_trans (List.length_filter_le _ _) (by simp)
  · simp
theorem waitsF_le {l : List Nd} (hl : ∀ n, n ∈ l → n.after.length ≤ 100000) (i : Int) : (waitsF l i).length ≤ 100000 := by
  unfold waitsF
  by_cases h : placeF l i = true
  · rw [if_pos h]
    have hp : 0 ≤ i ∧ i < l.length := by unfold placeF at h; simpa using h
    obtain ⟨k, rfl⟩ : ∃ k : Nat, (k : Int) = i := ⟨i.toNat, by omega⟩
    have hk : k < l.length := by omega
    rw [nthF_at hk]
    have h2 : (sortF (l[k].after.filter (fun a => !doneF l a))).length ≤ (l[k].after.filter (fun a => !doneF l a)).length := by
      unfold sortF Lib.compact Lib.compactUpTo
      rw [List.length_map]
      refine Nat.le_trans (List.length_filter_le _ _) ?_
      simp [List.length_mergeSort]
    have := List.length_filter_le (fun a => !doneF l a) l[k].after
    have := hl _ (List.getElem_mem hk)
    omega
  · rw [if_neg h]; simp
/-- How many each waits for, of the first j. -/
def wasL (l : List Nd) (j : Nat) : List Int := (List.range j).map (fun (k : Nat) => ((waitsF l (k : Int)).length : Int))
theorem wasL_len (l : List Nd) (j : Nat) : (wasL l j).length = j := by unfold wasL; simp
theorem wasL_succ (l : List Nd) (j : Nat) : wasL l (j + 1) = wasL l j ++ [((waitsF l (j : Int)).length : Int)] := by unfold wasL; rw [List.range_succ, List.map_append]; rfl
theorem wasL_get (l : List Nd) {j k : Nat} (h : k < (wasL l j).length) : (wasL l j)[k] = ((waitsF l (k : Int)).length : Int) := by
  have h2 : k < j := by rw [wasL_len] at h; exact h
  have : (wasL l j)[k]? = some ((waitsF l (k : Int)).length : Int) := by
    unfold wasL
    rw [List.getElem?_map, List.getElem?_range h2]
    rfl
  rw [List.getElem?_eq_getElem h] at this
  injection this
theorem wasL_i64 {l : List Nd} (hl : ∀ n, n ∈ l → n.after.length ≤ 100000) (j : Nat) : ∀ z, z ∈ wasL l j → isI64 z := by
  intro z hz
  unfold wasL at hz
  obtain ⟨k, -, rfl⟩ := List.mem_map.1 hz
  have := waitsF_le hl (k : Int)
  unfold isI64
  omega
theorem dnAt_mem {l : List Nd} {i : Nat} (hl : ∀ n, n ∈ l → n.after.length ≤ 100000) : ∀ n, n ∈ dnAt l i → n.after.length ≤ 100000 := by
  intro n hn
  obtain ⟨k, hk, rfl⟩ := List.getElem_of_mem hn
  have hk2 : k < l.length := by rw [dnAt_len] at hk; exact hk
  rw [dnAt_get k hk2 hk]
  have := hl _ (List.getElem_mem hk2)
  split
  · exact this
  · exact this
theorem dnAt_set (l : List Nd) {i : Nat} (hi : i < l.length) : dnAt l i = l.set i { l[i] with stand := 4 } := by
  refine List.ext_getElem (by rw [dnAt_len, List.length_set]) (fun k h1 h2 => ?_)
  have hk : k < l.length := by rw [dnAt_len] at h1; exact h1
  rw [dnAt_get k hk h1, List.getElem_set]
  by_cases e : i = k
  · subst e; rw [if_pos rfl]
  · rw [if_neg e, if_neg e]
theorem dnAt_stand {l : List Nd} {i k : Nat} (hk : k < l.length) (hk2 : k < (dnAt l i).length) : (dnAt l i)[k].stand = if i = k then 4 else l[k].stand := by
  rw [dnAt_get k hk hk2]
  split <;> rfl
theorem dnAt_after2 {l : List Nd} {i k : Nat} (hk : k < l.length) (hk2 : k < (dnAt l i).length) : (dnAt l i)[k].after = l[k].after := by
  rw [dnAt_get k hk hk2]
  split <;> rfl
theorem has_more {af : List Int} {m : Nat} (h : m < af.length) (i : Int) : decide (i ∈ af.take (m + 1)) = (decide (i ∈ af.take m) || decide (af[m] = i)) := by
  rw [List.take_succ_eq_append_getElem h, Bool.eq_iff_iff]
  simp only [List.mem_append, List.mem_singleton, decide_eq_true_eq, Bool.or_eq_true]
  exact ⟨fun h => h.imp id Eq.symm, fun h => h.imp id Eq.symm⟩
end Fm

namespace Go.Proofs.YtbciamploeejiaaGreat
open Go Go.Proofs Fm Go.RowKit

/-- Block b is a map of numbers to numbers: what stands where, and how many there are (at most n). -/
def IMap (w : World) (b n : Nat) (f : Int → Option Int) (sz : Nat) : Prop :=
  ∃ D : DataW Unit, w.ownsMap Tryz.prog 3 (plainElem Tryz.prog 3) b n D ∧ Maps.size D = sz ∧ (∀ s, Maps.has D (.int .i64 s) = (f s).isSome) ∧ ∀ s, D.atKey (.int .i64 s) (.lit (.int .i64 0)) = .lit (.int .i64 ((f s).getD 0))
def iupd (f : Int → Option Int) (s : Int) (z : Int) : Int → Option Int := fun t => if t = s then some z else f t
theorem zero_int6 (w : World) : (zeroValue 3).run Tryz.prog w = .ok (.int .i64 0) w := Tryz.zeroValue3 w
theorem key_int6 {s : Int} (hs : isI64 s) : keyOf Tryz.prog 3 (.int .i64 s) = some (.int .i64 s) := by
  refine Maps.keyOf_int_mk Tryz.underlying3 ?_
  unfold isI64 at hs
  simp [Lit.wf, IntKind.min, IntKind.max, IntKind.signed, IntKind.bits]
  omega
theorem IMap.new (w : World) : IMap (w.alloc (.map #[] 0)) w.heap.size 0 (fun _ => none) 0 :=
  ⟨.map [], World.ownsMap_made w _ _ _, rfl, fun _ => rfl, fun _ => rfl⟩
theorem IMap.kept {w w' : World} {b n : Nat} {f : Int → Option Int} {sz : Nat} {row : Option Nat} (h : IMap w b n f sz) (hg : w.grownBy w' row) (hne : row ≠ some b) : IMap w' b n f sz := by
  obtain ⟨D, h1, h2⟩ := h
  exact ⟨D, h1.kept hg (fun e => hne e.symm), h2⟩
theorem IMap.ext {w w' : World} {b n : Nat} {f : Int → Option Int} {sz : Nat} (h : IMap w b n f sz) (hE : Ext w w') : IMap w' b n f sz := h.kept hE.grownBy (by simp)
theorem IMap.lt {w : World} {b n : Nat} {f : Int → Option Int} {sz : Nat} (h : IMap w b n f sz) : b < w.heap.size := by
  obtain ⟨D, h1, _⟩ := h
  exact h1.lt
theorem IMap.look {w : World} {b n : Nat} {f : Int → Option Int} {sz : Nat} (h : IMap w b n f sz) {s : Int} (hs : isI64 s) :
    (Instr.lookup 27 (.map (some b)) (.int .i64 s) false).run Tryz.prog w = .ok (.int .i64 ((f s).getD 0)) w := by
  obtain ⟨D, h1, h2, h3, h4⟩ := h
  obtain ⟨c, hrun, hat, _⟩ := h1.lookup_int (Maps.int_keyed Tryz.underlying3) Tryz.underlying27 Tryz.underlying3 (zero_int6 w) (key_int6 hs)
  rw [h4 s] at hat
  have hc : (f s).getD 0 = c := by
    simp only [DataW.lit.injEq, Lit.int.injEq] at hat
    exact hat.2
  rw [hrun, hc]
theorem IMap.len {w : World} {b n : Nat} {f : Int → Option Int} {sz : Nat} (h : IMap w b n f sz) (ty : TypeId) : (Builtin.len_ #[27] ty #[.map (some b)]).run Tryz.prog w = .ok (.int .i64 sz) w := by
  obtain ⟨D, h1, h2, _⟩ := h
  rw [h1.len Tryz.underlying27 ty, h2]
/-- A store into it. -/
theorem wpList_iput {w : World} {ops : Array Oper} {rest : List Oper} {o : Oper} {a : Act} {Q : Exit → Act → World → Prop} (hg : o.guard = none) (m x v : Operand) (hop : o.op = Op.mapUpdate 27 m x v)
    {b n : Nat} {f : Int → Option Int} {sz : Nat} (hm : a.eval m = .map (some b)) (h : IMap w b n f sz) (hn : n < 9223372036854775807) (s : Int) (hx : a.eval x = .int .i64 s) (hs : isI64 s) (z : Int) (hv : a.eval v = .int .i64 z) (hz : isI64 z)
    (hK : ∀ w', IMap w' b (n + 1) (iupd f s z) (if (f s).isSome then sz else sz + 1) → w.grownBy w' (some b) → wpList Tryz.prog ops Q rest (a.put o.dst undef) w') : wpList Tryz.prog ops Q (o :: rest) a w := by
  obtain ⟨D, h1, h2, h3, h4⟩ := h
  have hw : (Lit.int .i64 z).wf = true := by
    unfold isI64 at hz
    simp [Lit.wf, IntKind.min, IntKind.max, IntKind.signed, IntKind.bits]
    omega
  refine wpList_mapUpdate_own w hg m x v _ hop _ _ (Maps.int_keyed Tryz.underlying3) Tryz.underlying27 _ b n D hm h1 (by unfold maxLen; omega) _ _ (.int .i64 s) hx hv (key_int6 hs) (.lit (.int .i64 z)) [] (plainElem_int Tryz.underlying3 hw) (fun w' hown hgrow => hK w' ⟨_, hown, ?_, fun t => ?_, fun t => ?_⟩ hgrow)
  · rw [Maps.size_put (h1.tidy (Maps.int_keyed Tryz.underlying3)), h3, h2]
  · unfold iupd
    by_cases e : t = s
    · subst e
      rw [if_pos rfl, Maps.has_put_same h1.isMap (by trivial)]; rfl
    · rw [if_neg e, Maps.has_put_other (by simpa using e), h3]
  · unfold iupd
    by_cases e : t = s
    · subst e
      rw [if_pos rfl, Maps.atKey_put_same h1.isMap (by trivial)]; rfl
    · rw [if_neg e, Maps.atKey_put_other (by simpa using e), h4]
end Go.Proofs.YtbciamploeejiaaGreat

open Go.RowKit Go.Shelf
namespace Go.Proofs.YtbciamploeejiaaGreat
open Go Go.Proofs Fm
attribute [local go_sem] Oper.semAt_some

theorem waitsLen {e : TypeId} {base : Nat} {w : World} {v : Value} {l : List Int} (h : OwnN e base w v l) : ∃ a c, v = .slice a l.length c := by
  rcases h.2 with ⟨e1, e2⟩ | ⟨g, cap, cur, e1, -⟩
  · exact ⟨none, 0, by rw [e1, e2]⟩
  · exact ⟨_, _, e1⟩
theorem natsW_get (l : List Nat) (p : Nat) (hp : p < (natsI l).length) (hp2 : p < l.length) : (natsI l)[p] = ((l[p] : Nat) : Int) := List.getElem_map _
theorem dnAt_nil (i : Int) : wakesF [] i = [] := by unfold wakesF placeF; simp
set_option maxRecDepth 100000 in
set_option maxHeartbeats 16000000 in
theorem readyWakes_any (w : World) (l : List Int) (v : Value) (h : intE.Row w l v) (at0 : UInt8) :
    Calls Tryz.prog 3 #[v, .int .u8 (at0.toNat : Int)] w fun e w' => e = .returned (.bool true) ∧ Ext w w' := by
  have HS := Lib.hid (some_any l w v h)
  have HLe := someF_le l
  have HAf := Lib.hid (fun n (hn : n ∈ someF l) => (someF_mem hn).2)
  obtain ⟨F, hF⟩ : ∃ F, F = someF l := ⟨_, rfl⟩
  rw [← hF] at HS HLe HAf
  clear h hF
  obtain ⟨i0, hi0, hz0, hz1, hz2⟩ := info_parts infoint_F
  go_enter Tryz.func3, Tryz.ntmps3
  go_wp2_with fail
  refine HS.out.mono ?_
  rintro e w1 ⟨A, C, rfl, hh, hE1⟩
  have HH := Lib.hid hh
  have HR := Lib.hid hh.row
  have HE1 := Lib.hid hE1
  clear hh hE1 HS
  by_cases h0 : F.length = 0
  · have hFn : F = [] := List.eq_nil_of_length_eq_zero h0
    subst hFn
    clear h0
    have HR := Lib.hid (show ndE.Row w1 [] (.slice A 0 C) from HR.out)
    go_wp2_with fail
    refine (wakes_any [] (by decide) (by decide) 0 w1 _ HR.out).mono ?_
    rintro e w2 ⟨v2, rfl, ho, hE2⟩
    rw [dnAt_nil] at ho
    obtain ⟨a2, c2, rfl⟩ : ∃ a c, v2 = .slice a 0 c := waitsLen ho
    have HE2 := Lib.hid (HE1.out.trans hE2)
    clear ho hE2
    go_wp2_with fail
    refine (awake24_any w2 ⟨trivial⟩).mono ?_
    rintro e w3 ⟨rfl, hE3⟩
    have HE3 := Lib.hid (HE2.out.trans hE3)
    clear hE3
    go_wp2
    go_ret
    exact ⟨rfl, HE3.out⟩
  have hz : ((F.length : Int) == 0) = false := by rw [beq_eq_false_iff_ne]; omega
  obtain ⟨n, hn⟩ : ∃ n, n = F.length := ⟨_, rfl⟩
  have HN := Lib.hid hn
  rw [← hn] at HR HH hz h0 HLe ⊢
  obtain ⟨i, hi⟩ : ∃ i : Nat, i = at0.toNat % n := ⟨_, rfl⟩
  have hin : i < n := by rw [hi]; exact Nat.mod_lt _ (by omega)
  have ta : ((at0.toNat : Int)).tmod (n : Int) = (i : Int) := by rw [Int.tmod_eq_emod_of_nonneg (by omega), hi]; exact (Int.natCast_emod _ _).symm
  have ba := at0.toNat_lt
  have hn0 : (n : Int) ≠ 0 := by omega
  have hiF : i < F.length := by omega
  obtain ⟨g, C', hA, hg1, hg2⟩ := (HH.out.relen HN.out).form (by omega)
  injection hA with hA1 hA2 hA3
  subst hA1 hA3
  clear hi hn hA2
  generalize at0.toNat = an at *
  go_upto_region 5 with (fail)
  have hmm := @run_makeMap Tryz.prog
  have hM := IMap.new w1
  have hE2 := (Ext.refl w1).alloc (.map #[] 0)
  go_upto_region 6 with (fail)
  clear hmm
  have HM := Lib.hid (show IMap (w1.alloc (.map #[] 0)) w1.heap.size 0 (metN (wakesF F (i : Int)) 0) 0 by rw [metN_zero]; exact hM)
  have HE2 := Lib.hid hE2
  generalize w1.alloc (.map #[] 0) = W2 at *
  obtain ⟨MB, hMB⟩ : ∃ MB, MB = w1.heap.size := ⟨_, rfl⟩
  have HMB := Lib.hid hMB
  rw [← hMB] at HM ⊢
  clear hM hE2 hMB
  go_wp2_with fail
  refine (wakes_any F (by have := HN.out; omega) HAf.out (i : Int) W2 _ (HR.out.ext HE2.out)).mono ?_
  rintro e w3 ⟨v3, rfl, ho3, hE3⟩
  obtain ⟨a3, c3, rfl⟩ := waitsLen ho3
  have HIn := Lib.hid (fun x (hx : x ∈ wakesF F (i : Int)) => wakesF_lt hx)
  have hLl : (wakesF F (i : Int)).length ≤ 60 := Nat.le_trans (wakesF_le F (i : Int)) (by have := HN.out; omega)
  obtain ⟨L, hL⟩ : ∃ L, L = wakesF F (i : Int) := ⟨_, rfl⟩
  have HL := Lib.hid hL
  have HUp : Hid (∀ (j : Nat) (hj : j + 1 < L.length), L[j] < L[j + 1]) := Lib.hid (by subst hL; exact fun j hj => wakesF_next hj)
  rw [← hL] at ho3 HM HIn hLl ⊢
  obtain ⟨QN, hQN⟩ : ∃ QN, QN = L.length := ⟨_, rfl⟩
  have HQN := Lib.hid hQN
  rw [natsR_len, ← hQN] at ho3 ⊢
  rw [← hQN] at hLl
  have HO3 := Lib.hid ho3
  have HM3 := Lib.hid (HM.out.ext hE3)
  have HE3 := Lib.hid (HE2.out.trans hE3)
  have HZ2 := Lib.hid (show MB < W2.heap.size from HM.out.lt)
  clear hL hQN ho3 hE3 HM
  go_wp2_with fail
  go_loopw [43, 8] (fun k o wr => ∃ (j sz : Nat) (la : Int), j ≤ QN ∧ k = .int .i64 (j : Int) ∧ o = .int .i64 la ∧ Hid (Ext w1 wr) ∧ Hid (IMap wr MB j (metN L j) sz) ∧ Hid (OwnN 3 W2.heap.size wr (.slice a3 QN c3) (natsI L)) ∧ Hid (∀ (hj : j < L.length), la < (L[j] : Int))) (fun k _ _ => QN - (intOf k).toNat)
  case atStart => exact ⟨0, 0, -1, by omega, rfl, rfl, HE3, HM3, HO3, Lib.hid (fun hj => by omega)⟩
  case round =>
    clear HM3 HE3 HO3
    obtain ⟨j, sz, la, hj, rfl, rfl, HE, HM, HO, HLa⟩ := hrel
    by_cases hlt : j < QN
    case pos =>
      have hjL : j < L.length := by have := HQN.out; omega
      have hjl : j < (natsI L).length := by rw [natsR_len]; exact hjL
      obtain ⟨g3, off3, e3, hb3, hcell3, -⟩ := int_at (n := QN) (OwnN.row HO.out (natsI_i64 (n := 1000) (fun x hx => by have := HIn.out x hx; have := HN.out; omega) (by omega))) (Ext.refl _) j hjl
      subst e3
      rw [natsW_get L j hjl hjL] at hcell3
      have hla := HLa.out hjL
      have hsuc := metN_succ hjL
      have hxF := HIn.out _ (List.getElem_mem hjL)
      obtain ⟨x, hx⟩ : ∃ x, x = L[j] := ⟨_, rfl⟩
      have HUp1 : Hid (∀ (hj2 : j + 1 < L.length), x < L[j + 1]) := Lib.hid (fun h => by rw [hx]; exact HUp.out j h)
      rw [← hx] at hcell3 hla hsuc hxF
      have HSuc := Lib.hid hsuc
      have hxn : x < n := by have := HN.out; omega
      have hj0 : (0 : Int) ≤ (j : Int) := by omega
      have hj1 : (j : Int) < (QN : Int) := by omega
      have hle : ¬ ((x : Int) ≤ la) := by omega
      clear hsuc hx
      go_wp2_with (refine wpList_iput rfl _ _ _ rfl rfl HM.out (by omega) (x : Int) rfl (by unfold isI64; omega) 1 rfl (by unfold isI64; omega) ?_; intro w6 hM6 hg6)
      have HM6 := Lib.hid (show IMap w6 MB (j + 1) (metN L (j + 1)) _ by rw [HSuc.out]; exact hM6)
      have HE6 := Lib.hid (HE.out.grown hg6 (fun k e => by cases e; have := HMB.out; omega))
      have HO6 := Lib.hid (World.ownsRow.kept HO.out hg6 (.inr (fun e => by have := (World.ownsRow.lt HO.out MB e).1; have := HZ2.out; omega)))
      clear hM6 hg6 HM HE HO hcell3
      go_wp2_with fail
      go_roundw
      case rel => exact ⟨j + 1, _, (x : Int), by omega, by go_num, rfl, HE6, HM6, HO6, Lib.hid (fun hj2 => by have := HUp1.out hj2; omega)⟩
      case measure => simp [intOf]; omega
    have hjq : j = L.length := by have := HQN.out; omega
    have hjn : j ≤ 60 := by omega
    have HM4 := Lib.hid (show IMap wr MB j (metN L L.length) sz by rw [← hjq]; exact HM.out)
    clear hjq HM HLa HUp HO
    obtain ⟨bF, offF, eF, hbF, aa0, ma0, ca0, kk0, N0, s0, d0, ⟨-, -, -, -, -, -, -, -, -, x9, -⟩, -⟩ := nd_at16 HR.out HE.out i hiF
    injection eF with eF
    injection eF with eF1 eF2
    subst eF1 eF2
    rw [Nat.zero_add] at x9
    obtain ⟨st, hst⟩ : ∃ st, st = F[i].stand := ⟨_, rfl⟩
    rw [← hst] at x9
    have HSt := Lib.hid hst
    have hi0' : (0 : Int) ≤ (i : Int) := by omega
    have hi1' : (i : Int) < (n : Int) := by omega
    clear hst hbF
    go_wp2_with fail
    clear hlt
    generalize hwq : wr = wq at *
    clear x9
    have HZq := Lib.hid (show w1.heap.size ≤ wq.heap.size from HE.out.size)
    go_loopw [61, 12] (fun k o wx => ∃ (p : Nat) (A : Option Addr) (C : Nat), p ≤ n ∧ k = .int .i64 (p : Int) ∧ o = .slice A (wasL F p).length C ∧ Hid (Ext wq wx) ∧ Hid (OwnN 3 wq.heap.size wx (.slice A (wasL F p).length C) (wasL F p))) (fun k _ _ => n - (intOf k).toNat)
    case atStart => exact ⟨0, none, 0, by omega, rfl, rfl, Lib.hid (Ext.refl _), Lib.hid (OwnN.nil _ _ _)⟩
    case round =>
      obtain ⟨p, A, C2, hp, rfl, rfl, HEx, HOx⟩ := hrel
      obtain ⟨S, hS⟩ : ∃ S, S = wasL F p := ⟨_, rfl⟩
      rw [← hS] at HOx ⊢
      have HS := Lib.hid hS
      have HSl := Lib.hid (show S.length = p by rw [hS, wasL_len])
      have hSl : S.length ≤ 60 := by have := HSl.out; omega
      clear hS
      by_cases hlt : p < n
      case pos =>
        have hp0 : (0 : Int) ≤ (p : Int) := by omega
        have hp1 : (p : Int) < (n : Int) := by omega
        go_wp2_with fail
        refine (waits_any F HAf.out (p : Int) wr _ (HR.out.ext (HE.out.trans HEx.out))).mono ?_
        rintro e w5 ⟨v5, rfl, ho5, hE5⟩
        obtain ⟨a5, c5, rfl⟩ := waitsLen ho5
        have HSu := Lib.hid (wasL_succ F p)
        obtain ⟨x, hx⟩ : ∃ x, x = (waitsF F (p : Int)).length := ⟨_, rfl⟩
        rw [← hx] at HSu ⊢
        have HX5 := Lib.hid (show wasL F (p + 1) = S ++ [(x : Int)] by rw [HSu.out, HS.out])
        have HO5 := Lib.hid (HOx.out.ext hE5)
        have HE5 := Lib.hid (HEx.out.trans hE5)
        have hz5 := HE5.out.size
        clear hx ho5 hE5 HEx HOx HSu
        go_wp2_with (at_builtin; refine wpList_append_own _ rfl _ _ 22 rfl wq.heap.size 3 i0 (.int .i64 0) 1 8 Tryz.underlying22 hi0 hz0 hz1 hz2 rfl (by decide) _ _ _ rfl (World.ownsRow.alloc HO5.out _) ⟨w5.heap.size, 0, none⟩ 1 1 [.int .i64 (x : Int)] rfl rfl (cell_one_new _ _ _) (by simp [Value.oneCell']) (by unfold maxLen; omega) (by omega) (by simp; omega) ?_; intro v' w6 hown' hgrow _)
        obtain ⟨g', cap', rfl⟩ := ownsRow_succ hown'
        have HE6 := Lib.hid ((HE5.out.alloc (.cells #[.int .i64 (x : Int)] 3)).grown hgrow (fun k e => (World.ownsRow.lt HO5.out k e).1))
        have HO6 := Lib.hid (show OwnN 3 wq.heap.size w6 (.slice (some ⟨g', 0, none⟩) (wasL F (p + 1)).length cap') (wasL F (p + 1)) by rw [HX5.out]; unfold OwnN; simpa using hown')
        have HLX := Lib.hid (show S.length + 1 = (wasL F (p + 1)).length by rw [HX5.out]; simp)
        clear hown' hgrow
        go_wp2
        go_roundw
        case rel => exact ⟨p + 1, _, _, by omega, by go_num, by rw [HLX.out], HE6, HO6⟩
        case measure => simp [intOf]; omega
      have hpn : n = p := by omega
      subst hpn
      have hX := HE.out.trans HEx.out
      have hH3 := HH.out.ext hX
      obtain ⟨⟨u9, c9⟩, z9⟩ := (hH3.relen HN.out).spot hiF 9 (by omega)
      have hP := (hH3.relen HN.out).put hiF 9 (by omega) (.int .u8 4) { F[i] with stand := 4 } (fun w' C hC => ndV_stand hC 4)
      rw [← dnAt_set F hiF] at hP
      have hrow := hP.1.row
      rw [← HN.out] at hrow
      have HR6 := Lib.hid hrow
      have HV6 := Lib.hid (show OwnN 3 wq.heap.size (wr.setCell ⟨g, i * 16 + 9, none⟩ (.int .u8 4)) (.slice A S.length C2) S from World.ownsRow.kept HOx.out hP.2 (.inr (fun e => by have := (World.ownsRow.lt HOx.out g e).1; have := HZq.out; omega)))
      have HM6 := Lib.hid ((HM4.out.ext HEx.out).kept hP.2 (fun e => by injection e with e; have := HMB.out; omega))
      have HE6 := Lib.hid (show Ext w (wr.setCell ⟨g, i * 16 + 9, none⟩ (.int .u8 4)) from (HE1.out.trans hX).setCell (p := ⟨g, i * 16 + 9, none⟩) hg1 _)
      clear hX hH3 hP hrow HEx HOx HM4 HE HH HR hlt
      go_upto_region 23 with (fail)
      generalize wr.setCell ⟨g, i * 16 + 9, none⟩ (.int .u8 4) = W6 at *
      clear c9 z9
      have HML := Lib.hid (fun q (hq : q < 60) => metN_all L q)
      go_wp2_with fail
      go_loopw [78] (fun k wy => ∃ q : Nat, q ≤ n ∧ k = .int .i64 (q : Int) ∧ Hid (Ext W6 wy)) (fun k _ => n - (intOf k).toNat)
      case atStart => exact ⟨0, by omega, rfl, Lib.hid (Ext.refl _)⟩
      case round =>
        obtain ⟨q, hq, rfl, HEy⟩ := hrel
        by_cases hlt : q < n
        case neg =>
          go_wp2_with fail
          refine (awake24_any wr ⟨trivial⟩).mono ?_
          rintro e w9 ⟨rfl, hE9⟩
          have HE9 := Lib.hid (HE6.out.trans (HEy.out.trans hE9))
          clear hE9
          go_wp2
          go_ret
          exact ⟨rfl, HE9.out⟩
        have hqF : q < F.length := by have := HN.out; omega
        have hqD : q < (dnAt F i).length := by rw [dnAt_len]; exact hqF
        obtain ⟨bD, offD, Cs, aa, ma, ca, k0, n0, s0, a0, m0, c0, eD, hbD, hCs, hrg, hnv, hl16, hone⟩ := nd_rangeC HR6.out HEy.out q hqD
        injection eD with eD
        injection eD with eD1 eD2
        subst eD1 eD2
        rw [Nat.zero_add] at hrg
        have hai : intE.Row W6 (dnAt F i)[q].after (.slice aa ma ca) := by
          rw [hCs] at hnv
          obtain ⟨a', m', c', k', N', S', d', e, h2, -⟩ := hnv
          injection e with e
          injection e with e
          simp only [ndCells, List.cons.injEq] at e
          rw [e.2.2.2.2.2.2.1]
          exact h2
        rw [dnAt_after2 hqF hqD] at hai
        have hal := HAf.out _ (List.getElem_mem hqF)
        have HAI := Lib.hid hai
        have HRg := Lib.hid hrg
        have HLn : Hid ((Tryz.prog.info? 32).map (·.size) = some Cs.length) := Lib.hid (by rw [hl16]; exact sizenode_C)
        have HL16 := Lib.hid hl16
        have HN1 := Lib.hid hone
        have HCo : Hid (Cs[9]? = some (.int .u8 ((dnAt F i)[q].stand.toNat : Int)) ∧ Cs[6]? = some (.slice aa ma ca)) := Lib.hid (by rw [hCs]; exact ⟨rfl, rfl⟩)
        have hq0 : (0 : Int) ≤ (q : Int) := by omega
        have hq1 : (q : Int) < (n : Int) := by omega
        have HStq := Lib.hid (dnAt_stand hqF hqD)
        have HWt := Lib.hid (waits_less hiF hqF)
        have HWk := Lib.hid (wakes_then hiF hqF)
        obtain ⟨sc, hsc⟩ : ∃ sc, sc = (dnAt F i)[q].stand := ⟨_, rfl⟩
        rw [← hsc] at HCo HStq
        obtain ⟨af, haf⟩ : ∃ af, af = F[q].after := ⟨_, rfl⟩
        rw [← haf] at hal HAI HWk
        obtain ⟨AN, hAN⟩ : ∃ AN, AN = af.length := ⟨_, rfl⟩
        have HAN := Lib.hid hAN
        clear hrg hnv hCs hl16 hone hai hsc haf hbD
        go_upto_region 26 with (first | (refine wpList_load_mid rfl _ _ rfl _ _ rfl _ _ HRg.out Tryz.underlying32 rfl HLn.out ?_) | (refine wpList_storeBox rfl _ _ _ rfl _ _ _ _ rfl rfl rfl rfl sizenode_C rfl HL16.out HN1.out ?_))
        have hE7 := (Ext.refl wr).alloc (.cells Cs.toArray 32)
        have hB7 := BoxL.new wr Cs 32
        have HE7 := Lib.hid (HEy.out.trans hE7)
        generalize wr.alloc (.cells Cs.toArray 32) = W7 at *
        generalize wr.heap.size = NB at *
        have HB7 := Lib.hid hB7
        have q6 := hB7.cell 6 _ HCo.out.2
        clear hE7 hB7 HEy HRg HLn HN1 HL16
        have hma : ma = AN := by
          obtain ⟨a', c', e, -⟩ := HAI.out.slice
          injection e with _ e _
          rw [hAN]; exact e
        subst hma
        clear hAN
        go_wp2_with fail
        clear q6
        go_loopw [86, 16] (fun k o wz => ∃ m : Nat, m ≤ ma ∧ k = .int .i64 (m : Int) ∧ o = .bool (decide ((i : Int) ∈ af.take m)) ∧ Hid (Ext W7 wz)) (fun k _ _ => ma - (intOf k).toNat)
        case atStart => exact ⟨0, by omega, rfl, by simp, Lib.hid (Ext.refl _)⟩
        case round =>
          obtain ⟨m, hm, rfl, rfl, HEz⟩ := hrel
          by_cases hlt : m < ma
          case pos =>
            have hml : m < af.length := by have := HAN.out; omega
            obtain ⟨gA, offA, rfl, hbA, hcellA, -⟩ := int_at (n := ma) HAI.out (HE7.out.trans HEz.out) m hml
            have hmore := has_more hml (i : Int)
            have HMo := Lib.hid hmore
            obtain ⟨z, hz⟩ : ∃ z, z = af[m] := ⟨_, rfl⟩
            rw [← hz] at hcellA HMo
            obtain ⟨b2, hb2⟩ : ∃ b2, b2 = decide ((i : Int) ∈ af.take m) := ⟨_, rfl⟩
            rw [← hb2] at HMo ⊢
            have hm0 : (0 : Int) ≤ (m : Int) := by omega
            have hm1 : (m : Int) < (ma : Int) := by omega
            clear hmore hz hb2 hbA
            cases b2 with
            | true =>
              have HMo := Lib.hid (show decide ((i : Int) ∈ af.take (m + 1)) = true by rw [HMo.out]; rfl)
              go_wp2_with fail
              go_roundw
              case rel => exact ⟨m + 1, by omega, by go_num, by rw [HMo.out], HEz⟩
              case measure => simp [intOf]; omega
            | false =>
              by_cases hzi : z = (i : Int)
              · have HMo := Lib.hid (show decide ((i : Int) ∈ af.take (m + 1)) = true by rw [HMo.out]; simpa using hzi)
                have hze : (z == (i : Int)) = true := by simpa using hzi
                clear hzi
                go_wp2_with fail
                go_roundw
                case rel => exact ⟨m + 1, by omega, by go_num, by rw [HMo.out], HEz⟩
                case measure => simp [intOf]; omega
              · have HMo := Lib.hid (show decide ((i : Int) ∈ af.take (m + 1)) = false by rw [HMo.out]; simpa using hzi)
                have hze : (z == (i : Int)) = false := by simpa using hzi
                clear hzi
                go_wp2_with fail
                go_roundw
                case rel => exact ⟨m + 1, by omega, by go_num, by rw [HMo.out], HEz⟩
                case measure => simp [intOf]; omega
          have hall : af.take m = af := List.take_of_length_le (by have := HAN.out; omega)
          rw [hall]
          clear hall
          -- THE TEST
          have HEm := Lib.hid HEz.out
          have HEa := Lib.hid (HE7.out.trans HEz.out)
          clear HEz
          go_wp2_with fail
          clear hlt hm
          refine (waits_any (dnAt F i) (dnAt_mem HAf.out) (q : Int) wr _ (HR6.out.ext HEa.out)).mono ?_
          rintro e w8 ⟨v8, rfl, ho8, hE8⟩
          obtain ⟨a8, c8, rfl⟩ := waitsLen ho8
          have HE8 := Lib.hid (HEa.out.trans hE8)
          have q9 := (HB7.out.ext (HEm.out.trans hE8)).cell 9 _ HCo.out.1
          have hqS : q < S.length := by have := HSl.out; omega
          obtain ⟨bV, offV, eV, hbV, hcellV, -⟩ := int_at (n := S.length) (OwnN.row HV6.out (by rw [HS.out]; exact wasL_i64 HAf.out _)) HE8.out q hqS
          subst eV
          have hSq : S[q] = ((waitsF F (q : Int)).length : Int) := by
            have := wasL_get F (j := S.length) (k := q) (by rw [wasL_len]; exact hqS)
            rw [← this]
            congr 1
            rw [HSl.out]; exact HS.out
          rw [hSq] at hcellV
          have hlook := (HM6.out.ext HE8.out.drew).look (s := (q : Int)) (by unfold isI64; omega)
          have hlook2 := (HM6.out.ext HE8.out).look (s := (q : Int)) (by unfold isI64; omega)
          rw [HML.out q (by omega)] at hlook hlook2
          have hwt := HWt.out
          have hwk := HWk.out
          rw [← HL.out] at hwk
          have hx5 := waitsF_le HAf.out (q : Int)
          obtain ⟨y, hy⟩ : ∃ y, y = (waitsF (dnAt F i) (q : Int)).length := ⟨_, rfl⟩
          rw [← hy] at hwt hwk ⊢
          obtain ⟨x, hx⟩ : ∃ x, x = (waitsF F (q : Int)).length := ⟨_, rfl⟩
          rw [← hx] at hwt hcellV hx5
          have hyx : y ≤ x := hwt.1
          have hwr : IntKind.i64.wrap ((x : Int) - (y : Int)) = (x : Int) - (y : Int) := IntWalk.i64_in _ (by omega)
          have hg2 : (x : Int) - (y : Int) ≤ 1 := by omega
          have hsq := HStq.out
          have hks := u8_is (k := sc) 0
          have hkt := u8_is (k := st) 0
          rw [show (((0 : UInt8).toNat : Nat) : Int) = 0 from rfl] at hks hkt
          have hq2 : (q : Int) < (S.length : Int) := by omega
          have hst := HSt.out
          clear ho8 hE8 hSq hy hx hbV HEm HEa
          by_cases hqi : q = i
          · by_cases hw : q ∈ L
            · obtain ⟨h1, h2, h3⟩ := hwk.1 hw
              rw [if_pos hw] at hlook hlook2
              have d2 : decide ((i : Int) ∈ af) = true := by simpa using h2
              have ky : ((y : Int) == 0) = true := by rw [h3]; rfl
              have hb : F[q].stand = 0 := h1
              subst hqi
              rw [if_pos rfl] at hsq
              have hqe : ((q : Int) == (q : Int)) = true := by simp
              have k33 : ((sc.toNat : Int) == 0) = false := by rw [hks, hsq]; rfl
              have k35 : ((st.toNat : Int) == 0) = true := by rw [hkt, hst]; simpa using hb
              rw [d2]
              clear hks hkt hsq hst hwk hwt hb hw h1 h2 h3 d2
              go_wp2_with fail
              go_roundw
              case rel => exact ⟨q + 1, by omega, by go_num, HE8⟩
              case measure => simp [intOf]; omega
            · rw [if_neg hw] at hlook hlook2
              by_cases hb : F[q].stand = 0
              · cases d2 : decide ((i : Int) ∈ af) with
                | false =>
                  subst hqi
                  rw [if_pos rfl] at hsq
                  have hqe : ((q : Int) == (q : Int)) = true := by simp
                  have k33 : ((sc.toNat : Int) == 0) = false := by rw [hks, hsq]; rfl
                  have k35 : ((st.toNat : Int) == 0) = true := by rw [hkt, hst]; simpa using hb
                  clear hks hkt hsq hst hwk hwt hb hw
                  go_wp2_with fail
                  go_roundw
                  case rel => exact ⟨q + 1, by omega, by go_num, HE8⟩
                  case measure => simp [intOf]; omega
                | true =>
                  have ky : ((y : Int) == 0) = false := by rw [beq_eq_false_iff_ne]; intro e; exact hw (hwk.2 ⟨hb, by simpa using d2, by omega⟩)
                  subst hqi
                  rw [if_pos rfl] at hsq
                  have hqe : ((q : Int) == (q : Int)) = true := by simp
                  have k33 : ((sc.toNat : Int) == 0) = false := by rw [hks, hsq]; rfl
                  have k35 : ((st.toNat : Int) == 0) = true := by rw [hkt, hst]; simpa using hb
                  clear hks hkt hsq hst hwk hwt hb hw
                  go_wp2_with fail
                  go_roundw
                  case rel => exact ⟨q + 1, by omega, by go_num, HE8⟩
                  case measure => simp [intOf]; omega
              · subst hqi
                rw [if_pos rfl] at hsq
                have hqe : ((q : Int) == (q : Int)) = true := by simp
                have k33 : ((sc.toNat : Int) == 0) = false := by rw [hks, hsq]; rfl
                have k35 : ((st.toNat : Int) == 0) = false := by rw [hkt, hst]; simpa using hb
                clear hks hkt hsq hst hwk hwt hb hw
                go_wp2_with fail
                go_roundw
                case rel => exact ⟨q + 1, by omega, by go_num, HE8⟩
                case measure => simp [intOf]; omega
          · by_cases hw : q ∈ L
            · obtain ⟨h1, h2, h3⟩ := hwk.1 hw
              rw [if_pos hw] at hlook hlook2
              have d2 : decide ((i : Int) ∈ af) = true := by simpa using h2
              have ky : ((y : Int) == 0) = true := by rw [h3]; rfl
              have hb : F[q].stand = 0 := h1
              rw [if_neg (fun e => hqi e.symm)] at hsq
              have hqe : ((q : Int) == (i : Int)) = false := by rw [beq_eq_false_iff_ne]; omega
              have k33 : ((sc.toNat : Int) == 0) = true := by rw [hks, hsq]; simpa using hb
              rw [d2]
              clear hks hkt hsq hst hwk hwt hb hw h1 h2 h3 d2
              go_wp2_with fail
              go_roundw
              case rel => exact ⟨q + 1, by omega, by go_num, HE8⟩
              case measure => simp [intOf]; omega
            · rw [if_neg hw] at hlook hlook2
              by_cases hb : F[q].stand = 0
              · cases d2 : decide ((i : Int) ∈ af) with
                | false =>
                  rw [if_neg (fun e => hqi e.symm)] at hsq
                  have hqe : ((q : Int) == (i : Int)) = false := by rw [beq_eq_false_iff_ne]; omega
                  have k33 : ((sc.toNat : Int) == 0) = true := by rw [hks, hsq]; simpa using hb
                  clear hks hkt hsq hst hwk hwt hb hw
                  go_wp2_with fail
                  go_roundw
                  case rel => exact ⟨q + 1, by omega, by go_num, HE8⟩
                  case measure => simp [intOf]; omega
                | true =>
                  have ky : ((y : Int) == 0) = false := by rw [beq_eq_false_iff_ne]; intro e; exact hw (hwk.2 ⟨hb, by simpa using d2, by omega⟩)
                  rw [if_neg (fun e => hqi e.symm)] at hsq
                  have hqe : ((q : Int) == (i : Int)) = false := by rw [beq_eq_false_iff_ne]; omega
                  have k33 : ((sc.toNat : Int) == 0) = true := by rw [hks, hsq]; simpa using hb
                  clear hks hkt hsq hst hwk hwt hb hw
                  go_wp2_with fail
                  go_roundw
                  case rel => exact ⟨q + 1, by omega, by go_num, HE8⟩
                  case measure => simp [intOf]; omega
              · rw [if_neg (fun e => hqi e.symm)] at hsq
                have hqe : ((q : Int) == (i : Int)) = false := by rw [beq_eq_false_iff_ne]; omega
                have k33 : ((sc.toNat : Int) == 0) = false := by rw [hks, hsq]; simpa using hb
                clear hks hkt hsq hst hwk hwt hb hw
                go_wp2_with fail
                go_roundw
                case rel => exact ⟨q + 1, by omega, by go_num, HE8⟩
                case measure => simp [intOf]; omega
end Go.Proofs.YtbciamploeejiaaGreat

namespace Fm
open Go Go.RowKit Go.ChangeShapes Go.WideShapes Go.ChangeAt

/-- What the reading of a slice of integers says: as the guide's skeleton has it. -/
def IsRow (k : IntKind) (w : World) (a : Option Addr) (len cap : Nat) (zs : List Int) : Prop :=
  (a = none ∧ len = 0 ∧ cap = 0 ∧ zs = []) ∨
  ∃ x, a = some x ∧ len ≤ cap ∧ cap ≤ maxLen ∧ zs.length = cap ∧ (∀ i, i < zs.length → w.cell? (x.add i) = some (.int k (zs.getD i 0))) ∧ ∀ n ∈ zs, (Lit.int k n).wf = true

theorem u8_of_wf {n : Int} (h : (Lit.int .u8 n).wf = true) : ((UInt8.ofNat n.toNat).toNat : Int) = n := by
  have : 0 ≤ n ∧ n ≤ 255 := by
    simp [Lit.wf, IntKind.min, IntKind.max, IntKind.signed, IntKind.bits] at h
    omega
  rw [toNat_ofNat_lt (by omega)]; omega

theorem i64_of_wf {n : Int} (h : (Lit.int .i64 n).wf = true) : isI64 n := by
  simp [Lit.wf, IntKind.min, IntKind.max, IntKind.signed, IntKind.bits] at h
  unfold isI64; omega

theorem IsRow.bytes {w : World} {a : Option Addr} {len cap : Nat} {zs : List Int} (h : IsRow .u8 w a len cap zs) :
    ∃ xs : List UInt8, xs.length = len ∧ Bytes w (.slice a len cap) xs := by
  rcases h with ⟨rfl, rfl, rfl, rfl⟩ | ⟨x, rfl, hl, hm, hz, hc, hw⟩
  · exact ⟨[], rfl, Bytes.nil w⟩
  · refine ⟨(zs.take len).map fun n => UInt8.ofNat n.toNat, by simp; omega, ?_⟩
    have hlen : ((zs.take len).map fun n => UInt8.ofNat n.toNat).length = len := by simp; omega
    refine ⟨some x, cap, by rw [hlen], by omega, hm, (fun h => by cases h), fun ad had h0 => ?_⟩
    cases had
    have h00 := hc 0 (by omega)
    have e0 : x.add 0 = x := by unfold Addr.add; rw [if_pos rfl]
    rw [e0] at h00
    have hs : x.spot = none := by
      cases hsp : x.spot with
      | none => rfl
      | some s =>
        unfold World.cell? at h00
        cases hb : w.heap[x.block]? with
        | none => rw [hb] at h00; cases h00
        | some o => rw [hb] at h00; cases o <;> simp [hsp] at h00
    refine ⟨hs, World.block_lt_of_cell? w x h00, fun j hj => ?_⟩
    have hj' : j < zs.length := by omega
    have hjl : j < len := by omega
    have hcj := hc j hj'
    have ea : x.add j = ⟨x.block, x.off + j, none⟩ := by
      unfold Addr.add; split
      · obtain ⟨b, o, s⟩ := x; simp at hs ⊢; exact ⟨by omega, hs⟩
      · rw [← hs]
    rw [ea] at hcj
    rw [hcj]
    have hg : zs.getD j 0 = zs[j] := by simp [List.getD, hj']
    have hwf := hw zs[j] (List.getElem_mem hj')
    rw [hg]
    simp [bv, hjl, hj']
    have := u8_of_wf hwf
    simp at this
    exact this.symm
end Fm

namespace Fm
open Go Go.RowKit Go.ChangeShapes Go.WideShapes Go.ChangeAt

/-- What reads as data of that type lies so. -/
def Elem.Reads {α : Type} (E : Elem α) (P : Program) (T : TypeId) : Prop :=
  ∀ {H : Type} (enc : TypeId × Value → H) (W : World) (base : Nat) (spare : Nat → Bool) (held : Bool) (fuel : Nat) (cs : List Value) (x : DataW H × List MemPlace),
    DataW.trod enc P W base spare held fuel T cs = some x → ∃ a : α, E.R W a (fun j => cs.getD j .nilFunc)
theorem reads_int {P : Program} {T : TypeId} (hT : P.underlying T = some (.int .i64)) : intE.Reads P T := by
  intro H enc W base spare held fuel cs x h
  obtain ⟨n, rfl, -, hw⟩ := DataW.trod_int hT h
  exact ⟨n, rfl, i64_of_wf hw⟩
theorem reads_slice {α : Type} {E : Elem α} {P : Program} {T e : TypeId} (hT : P.underlying T = some (.slice e)) (hsz : P.cellsOf e = E.sz) (hE : E.Reads P e) (hp : 0 < E.sz) : (rowE E).Reads P T := by
  intro H enc W base spare held fuel cs x h
  rcases DataW.trod_slice hT h with ⟨rfl, -⟩ | ⟨a, len, cap, elems, rest, m, hm, rfl, -, hba, hlc, hcm, hel, hat, -, -⟩
  · exact ⟨[], Elem.Row.void E W none⟩
  · have key : ∀ k, k ≤ len → ∃ l : List α, l.length = k ∧ ∀ i (hi : i < l.length), ∃ c : Nat → Value, E.R W l[i] c ∧ ∀ j, j < E.sz → W.cell? ((a.add (i * E.sz)).add j) = some (c j) := by
      intro k
      induction k with
      | zero => exact fun _ => ⟨[], rfl, fun i hi => by simp at hi⟩
      | succ k ih =>
        intro hk
        obtain ⟨l, hl, hr⟩ := ih (by omega)
        have h1 := hat k (by omega)
        rw [hsz, List.getElem?_eq_getElem (by omega)] at h1
        obtain ⟨cs', hc', ht'⟩ := Option.bind_eq_some_iff.1 h1
        obtain ⟨t, ht⟩ := hE enc W base spare held m cs' _ ht'
        obtain ⟨_, hl4, hcell⟩ := World.cells?_some hc'
        refine ⟨l ++ [t], by simp [hl], fun i hi => ?_⟩
        by_cases hik : i < l.length
        · rw [List.getElem_append_left hik]; exact hr i hik
        · have e : i = l.length := by simp at hi; omega
          subst e
          rw [List.getElem_append_right (by omega)]
          simp only [Nat.sub_self, List.getElem_cons_zero]
          refine ⟨_, ht, fun j hj => ?_⟩
          rw [hl, hcell j hj, List.getD_eq_getElem?_getD, List.getElem?_eq_getElem (by omega)]
          rfl
    obtain ⟨l, hl, hr⟩ := key len (Nat.le_refl _)
    refine ⟨l, ?_⟩
    show E.Row W l (.slice (some a) len cap)
    by_cases h0 : len = 0
    · have : l = [] := List.eq_nil_of_length_eq_zero (by omega)
      subst this h0
      exact ⟨some a, cap, rfl, by simp, hcm, (fun h => by cases h), fun _ _ => .nilFunc, fun h => by simp at h, fun i hi => by simp at hi⟩
    · obtain ⟨c, _, h00⟩ := hr 0 (by omega)
      have h00 := h00 0 hp
      rw [Nat.zero_mul] at h00
      have ea : (a.add 0).add 0 = a := by unfold Addr.add; rw [if_pos rfl, if_pos rfl]
      rw [ea] at h00
      have hs0 : a.spot = none := by
        cases hsp : a.spot with
        | none => rfl
        | some s =>
          unfold World.cell? at h00
          cases hb : W.heap[a.block]? with
          | none => rw [hb] at h00; cases h00
          | some o => rw [hb] at h00; cases o <;> simp [hsp] at h00
      obtain ⟨b, off, spot⟩ := a
      simp only at hs0
      subst hs0
      refine Elem.Row.mk hl.symm (by omega) hcm (World.block_lt_of_cell? W _ h00) (fun i hi => ?_)
      obtain ⟨c, h1, h2⟩ := hr i hi
      refine ⟨c, h1, fun j hj => ?_⟩
      have := h2 j hj
      rw [Addr.add_lit, Addr.add_lit, Nat.add_assoc] at this
      exact this
/-- A slice that is handed in. -/
theorem row_of_val {α : Type} {E : Elem α} {P : Program} {T e : TypeId} (hT : P.underlying T = some (.slice e)) (hR : (rowE E).Reads P T)
    {H : Type} {enc : TypeId × Value → H} {W : World} {r : Reach} {b0 base : Nat} {spare : Nat → Bool} {held : Bool} {v : Value} {d : DataW H} {p : List MemPlace} (hv : Value.okWide P W r b0 T v)
    (h : DataW.Trod enc P W base spare held T v d p) : ∃ l, E.Row W l v := by
  obtain ⟨b, n, c, rfl⟩ := okWide_slice hT hv
  obtain ⟨fuel, hf⟩ := h
  obtain ⟨l, hl⟩ := hR enc W base spare held fuel _ _ hf
  exact ⟨l, hl⟩
end Fm

namespace Fm
open Go Go.RowKit
end Fm
namespace Go.Proofs.YtbciamploeejiaaGreat
open Go Go.Proofs Fm Go.RowKit Go.ChangeShapes Go.WideShapes Go.ChangeAt
theorem cells_intN : Tryz.prog.cellsOf 3 = 1 := by kernel_rfl
theorem reads_intsN : (rowE intE).Reads Tryz.prog 22 := reads_slice Tryz.underlying22 cells_intN (reads_int Tryz.underlying3) (by decide)
end Go.Proofs.YtbciamploeejiaaGreat
