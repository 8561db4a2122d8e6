/- The law of ready's ranks: plain facts. No program is imported. -/
import Derived.Test.YtbciamploeejiaaGreatDoorFr
import Derived.Test.YtbciamploeejiaaGreatDoorTake
import Derived.Test.YtbciamploeejiaaGreatDoorIdC
open Go.RowKit Go.Shelf
namespace Fm
open Go Go.RowKit
def ndXc (id : ByteArray) (st fl f o : Int) (af : Value) : List Value := [.string id, .string { data := #[] }, .int .u8 0, .int .i64 f, .int .i64 o, .int .i64 0, af, .int .i64 0, .int .i64 0, .int .u8 st, .int .i64 fl, .int .i64 0, .int .u8 0, .int .i64 0, .string { data := #[] }, .slice none 0 0]
theorem ndX_v {W : World} {id : List UInt8} {st : UInt8} {fl f o : Int} {af : List Int} {m c : Nat} {a : Option Addr} (h : intE.Row W af (.slice a m c)) (hi : id.length ≤ 9223372036854775807) (h1 : isI64 fl) (h2 : isI64 f) (h3 : isI64 o) : NdV W (ndX id st fl f o af) (.agg (ndXc (str id) (st.toNat : Int) fl f o (.slice a m c)).toArray) := by
  have z : isI64 0 := by unfold isI64; omega
  exact ⟨a, m, c, .int .u8 0, .int .i64 0, .string { data := #[] }, .slice none 0 0, rfl, h, zT_liesF W, hi, by simp [ndX], h2, h3, z, z, z, h1, z⟩
end Fm
namespace Go.Proofs.YtbciamploeejiaaGreatDoor
open Go Go.Proofs Fm
attribute [local go_sem] Oper.semAt_some

theorem take_more {l m : List Int} {j : Nat} (h : l.take j = m.take j) (h1 : j < l.length) (h2 : j < m.length) (he : l[j] = m[j]) : l.take (j + 1) = m.take (j + 1) := by
  rw [List.take_add_one, List.take_add_one, h, List.getElem?_eq_getElem h1, List.getElem?_eq_getElem h2, he]
set_option maxRecDepth 100000 in
set_option maxHeartbeats 4000000 in
theorem ints16_any (l m : List Int) (w : World) (v v' : Value) (h : intE.Row w l v) (h' : intE.Row w m v') :
    Calls Tryz.prog 11 #[v, v'] w fun e w' => e = .returned (.bool (decide (l = m))) ∧ Ext w w' := by
  have HR := Lib.hid h
  have HR' := Lib.hid h'
  obtain ⟨a, c, rfl, hc1, hc2⟩ := h.slice
  obtain ⟨a', c', rfl, hc1', hc2'⟩ := h'.slice
  clear h h'
  by_cases hlen : l.length = m.length
  case neg =>
    have hne : ((l.length : Int) != (m.length : Int)) = true := by simp; omega
    have HX := Lib.hid (show decide (l = m) = false by simp; intro e; exact hlen (by rw [e]))
    clear hlen
    go_enter Tryz.func11, Tryz.ntmps11
    go_wp2
    go_ret
    exact ⟨by rw [HX.out]; rfl, Ext.refl w⟩
  have hne : ((l.length : Int) != (m.length : Int)) = false := by simp; omega
  have HL := Lib.hid hlen
  go_enter Tryz.func11, Tryz.ntmps11
  go_wp2_with fail
  clear hne
  go_loopw [13] (fun i wr => ∃ j : Nat, j ≤ l.length ∧ i = .int .i64 (j : Int) ∧ Hid (Ext w wr) ∧ Hid (l.take j = m.take j)) (fun i _ => l.length - (intOf i).toNat)
  case atStart => exact ⟨0, by omega, rfl, Lib.hid (Ext.refl w), Lib.hid rfl⟩
  case round =>
    obtain ⟨j, hj, rfl, HE, HT⟩ := hrel
    by_cases hlt : j < l.length
    case neg =>
      have HX := Lib.hid (show decide (l = m) = true by
        have := HT.out
        rw [List.take_of_length_le (by omega), List.take_of_length_le (by omega)] at this
        simpa using this)
      go_wp2
      go_ret
      exact ⟨by rw [HX.out]; rfl, HE.out⟩
    have hlt' : j < m.length := by omega
    obtain ⟨b, off, rfl, hb, hcell, -⟩ := int_at HR.out HE.out j hlt
    obtain ⟨b', off', rfl, hb', hcell', -⟩ := int_at HR'.out HE.out j hlt'
    have hj0 : (0 : Int) ≤ (j : Int) := by omega
    have hj1 : (j : Int) < (l.length : Int) := by omega
    have hj2 : (j : Int) < (m.length : Int) := by omega
    have HM := Lib.hid (fun he : l[j] = m[j] => take_more HT.out hlt hlt' he)
    have HN := Lib.hid (fun he : l[j] ≠ m[j] => show decide (l = m) = false by simp only [decide_eq_false_iff_not]; rintro rfl; exact he rfl)
    obtain ⟨x, hx⟩ : ∃ x, x = l[j] := ⟨_, rfl⟩
    obtain ⟨y, hy⟩ : ∃ y, y = m[j] := ⟨_, rfl⟩
    rw [← hx] at hcell HM HN
    rw [← hy] at hcell' HM HN
    clear hx hy
    by_cases hxy : x = y
    · have hne : (x != y) = false := by simp [hxy]
      have HT2 := Lib.hid (HM.out hxy)
      clear hxy
      go_wp2_with fail
      go_region
      go_wp2_with fail
      go_roundw
      case rel => exact ⟨j + 1, by omega, by go_num, Lib.hid HE.out.drew, HT2⟩
      case measure => simp [intOf]; omega
    · have hne : (x != y) = true := by simp [hxy]
      have HX := Lib.hid (HN.out hxy)
      clear hxy
      go_wp2_with fail
      go_region
      go_wp2
      go_ret
      exact ⟨by rw [HX.out]; rfl, HE.out.drew⟩
theorem rowL_any (W : World) : ndE.Row (W.alloc (.cells (ndXc ⟨#[48, 47, 97]⟩ 1 1 0 (-1) (.slice none 0 0) ++ ndXc ⟨#[48, 47, 98]⟩ 1 0 0 (-1) (.slice none 0 0) ++ ndXc ⟨#[49, 47, 97]⟩ 1 0 1 (-1) (.slice none 0 0) ++ ndXc ⟨#[48, 47, 98, 47, 99]⟩ 1 0 0 1 (.slice none 0 0)).toArray 38)) awL (.slice (some ⟨W.heap.size, 0, none⟩) 4 4) := by
  have z : ∀ k : Int, -1 ≤ k → k ≤ 1 → isI64 k := fun k h1 h2 => by unfold isI64; omega
  have ho := World.ownsRow_lit W (ndXc ⟨#[48, 47, 97]⟩ 1 1 0 (-1) (.slice none 0 0) ++ ndXc ⟨#[48, 47, 98]⟩ 1 0 0 (-1) (.slice none 0 0) ++ ndXc ⟨#[49, 47, 97]⟩ 1 0 1 (-1) (.slice none 0 0) ++ ndXc ⟨#[48, 47, 98, 47, 99]⟩ 1 0 0 1 (.slice none 0 0)).toArray 4 (base := W.heap.size) (e := 38) (size := 16) (Nat.le_refl _) (by unfold maxLen; omega) rfl
  refine ndRow_parts (cs := [ndXc ⟨#[48, 47, 97]⟩ 1 1 0 (-1) (.slice none 0 0), ndXc ⟨#[48, 47, 98]⟩ 1 0 0 (-1) (.slice none 0 0), ndXc ⟨#[49, 47, 97]⟩ 1 0 1 (-1) (.slice none 0 0), ndXc ⟨#[48, 47, 98, 47, 99]⟩ 1 0 0 1 (.slice none 0 0)]) rfl (by simpa [awL] using ho) (fun i hi hc => ?_)
  have hi : i < 4 := hi
  rcases (by omega : i = 0 ∨ i = 1 ∨ i = 2 ∨ i = 3) with rfl | rfl | rfl | rfl
  · exact ⟨rfl, ndX_v (st := 1) (Elem.Row.void intE _ none) (by decide) (z 1 (by omega) (by omega)) (z 0 (by omega) (by omega)) (z (-1) (by omega) (by omega))⟩
  · exact ⟨rfl, ndX_v (st := 1) (Elem.Row.void intE _ none) (by decide) (z 0 (by omega) (by omega)) (z 0 (by omega) (by omega)) (z (-1) (by omega) (by omega))⟩
  · exact ⟨rfl, ndX_v (st := 1) (Elem.Row.void intE _ none) (by decide) (z 0 (by omega) (by omega)) (z 1 (by omega) (by omega)) (z (-1) (by omega) (by omega))⟩
  · exact ⟨rfl, ndX_v (st := 1) (Elem.Row.void intE _ none) (by decide) (z 0 (by omega) (by omega)) (z 0 (by omega) (by omega)) (z 1 (by omega) (by omega))⟩
theorem rowW_any {W : World} {base B b m c : Nat} (st : UInt8) (ho : W.ownsRow base 38 16 (.slice (some ⟨B, 0, none⟩) 3 3) 3 (ndXc ⟨#[48, 47, 98]⟩ (st.toNat : Int) 0 0 (-1) (.slice none 0 0) ++ ndXc ⟨#[48, 47, 99]⟩ 0 0 0 (-1) (.slice none 0 0) ++ ndXc ⟨#[48, 47, 100]⟩ 0 0 0 (-1) (.slice (some ⟨b, 0, none⟩) m c))) (h : intE.Row W [1, 0] (.slice (some ⟨b, 0, none⟩) m c)) :
    ndE.Row W [ndX [48, 47, 98] st 0 0 (-1) [], ndX [48, 47, 99] 0 0 0 (-1) [], ndX [48, 47, 100] 0 0 0 (-1) [1, 0]] (.slice (some ⟨B, 0, none⟩) 3 3) := by
  have z : ∀ k : Int, -1 ≤ k → k ≤ 1 → isI64 k := fun k h1 h2 => by unfold isI64; omega
  refine ndRow_parts (cs := [ndXc ⟨#[48, 47, 98]⟩ (st.toNat : Int) 0 0 (-1) (.slice none 0 0), ndXc ⟨#[48, 47, 99]⟩ 0 0 0 (-1) (.slice none 0 0), ndXc ⟨#[48, 47, 100]⟩ 0 0 0 (-1) (.slice (some ⟨b, 0, none⟩) m c)]) rfl (by simpa using ho) (fun i hi hc => ?_)
  have hi : i < 3 := hi
  rcases (by omega : i = 0 ∨ i = 1 ∨ i = 2) with rfl | rfl | rfl
  · exact ⟨rfl, ndX_v (Elem.Row.void intE _ none) (by decide) (z 0 (by omega) (by omega)) (z 0 (by omega) (by omega)) (z (-1) (by omega) (by omega))⟩
  · exact ⟨rfl, ndX_v (st := 0) (Elem.Row.void intE _ none) (by decide) (z 0 (by omega) (by omega)) (z 0 (by omega) (by omega)) (z (-1) (by omega) (by omega))⟩
  · exact ⟨rfl, ndX_v (st := 0) h (by decide) (z 0 (by omega) (by omega)) (z 0 (by omega) (by omega)) (z (-1) (by omega) (by omega))⟩
theorem litRow (W : World) (zs : List Int) (hz : ∀ z, z ∈ zs → isI64 z) (hl : zs.length ≤ 1000) : intE.Row (W.alloc (.cells (zs.map (Value.int .i64)).toArray 3)) zs (.slice (some ⟨W.heap.size, 0, none⟩) zs.length zs.length) := by
  have ho := World.ownsRow_lit W (zs.map (Value.int .i64)).toArray zs.length (base := W.heap.size) (e := 3) (size := 1) (Nat.le_refl _) (by unfold maxLen; omega) (by simp)
  exact OwnN.row (e := 3) (base := W.heap.size) (by unfold OwnN; simpa using ho) hz
theorem nextQ_aw : nextQ awL = 3 := nextQ_yes aw_all
set_option maxRecDepth 100000 in
set_option maxHeartbeats 8000000 in
theorem awake24_any (w : World) (hw : KW w) : Calls Tryz.prog 17 #[] w fun e w' => e = .returned (.bool true) ∧ Ext w w' := by
  have HW := Lib.hid hw
  clear hw
  have hL := rowL_any w
  have hE1 := (Ext.refl w).alloc (.cells (ndXc ⟨#[48, 47, 97]⟩ 1 1 0 (-1) (.slice none 0 0) ++ ndXc ⟨#[48, 47, 98]⟩ 1 0 0 (-1) (.slice none 0 0) ++ ndXc ⟨#[49, 47, 97]⟩ 1 0 1 (-1) (.slice none 0 0) ++ ndXc ⟨#[48, 47, 98, 47, 99]⟩ 1 0 0 1 (.slice none 0 0)).toArray 38)
  go_enter Tryz.func17, Tryz.ntmps17
  go_upto_region 2 with (fail)
  change Code.wp _ _ _ _ (w.alloc (.cells (ndXc ⟨#[48, 47, 97]⟩ 1 1 0 (-1) (.slice none 0 0) ++ ndXc ⟨#[48, 47, 98]⟩ 1 0 0 (-1) (.slice none 0 0) ++ ndXc ⟨#[49, 47, 97]⟩ 1 0 1 (-1) (.slice none 0 0) ++ ndXc ⟨#[48, 47, 98, 47, 99]⟩ 1 0 0 1 (.slice none 0 0)).toArray 38))
  generalize w.alloc (.cells (ndXc ⟨#[48, 47, 97]⟩ 1 1 0 (-1) (.slice none 0 0) ++ ndXc ⟨#[48, 47, 98]⟩ 1 0 0 (-1) (.slice none 0 0) ++ ndXc ⟨#[49, 47, 97]⟩ 1 0 1 (-1) (.slice none 0 0) ++ ndXc ⟨#[48, 47, 98, 47, 99]⟩ 1 0 0 1 (.slice none 0 0)).toArray 38) = W1 at *
  generalize w.heap.size = LB at *
  have HL := Lib.hid hL
  have HE1 := Lib.hid hE1
  clear hL hE1
  go_wp2_with fail
  refine (next_any awL awL_right (by decide) (by decide) W1 (HW.out.ext HE1.out) _ HL.out).mono ?_
  rintro e w2 ⟨rfl, hE2⟩
  rw [nextQ_aw, aw_all]
  have HE2 := Lib.hid (HE1.out.trans hE2)
  have HL2 := Lib.hid (HL.out.ext hE2)
  clear hE2 HE1 HL
  go_upto_region 3 with (fail)
  have hI := litRow w2 [1, 0] (by intro z hz; simp only [List.mem_cons, List.not_mem_nil, or_false] at hz; rcases hz with rfl | rfl <;> (unfold isI64; omega)) (by decide)
  have hE3 := (Ext.refl w2).alloc (.cells ([1, 0].map (Value.int .i64)).toArray 3)
  go_upto_region 4 with (fail)
  change Code.wp _ _ _ _ ((w2.alloc (.cells ([1, 0].map (Value.int .i64)).toArray 3)).alloc (.cells (ndXc ⟨#[48, 47, 98]⟩ 0 0 0 (-1) (.slice none 0 0) ++ ndXc ⟨#[48, 47, 99]⟩ 0 0 0 (-1) (.slice none 0 0) ++ ndXc ⟨#[48, 47, 100]⟩ 0 0 0 (-1) (.slice (some ⟨w2.heap.size, 0, none⟩) 2 2)).toArray 38))
  have hX : (w2.alloc (.cells ([1, 0].map (Value.int .i64)).toArray 3)).heap.size = w2.heap.size + 1 := by simp
  generalize w2.alloc (.cells ([1, 0].map (Value.int .i64)).toArray 3) = X1 at *
  generalize hIB : w2.heap.size = IB at *
  have ho := World.ownsRow_lit X1 (ndXc ⟨#[48, 47, 98]⟩ 0 0 0 (-1) (.slice none 0 0) ++ ndXc ⟨#[48, 47, 99]⟩ 0 0 0 (-1) (.slice none 0 0) ++ ndXc ⟨#[48, 47, 100]⟩ 0 0 0 (-1) (.slice (some ⟨IB, 0, none⟩) 2 2)).toArray 3 (base := X1.heap.size) (e := 38) (size := 16) (Nat.le_refl _) (by unfold maxLen; omega) rfl
  have hE4 := (Ext.refl X1).alloc (.cells (ndXc ⟨#[48, 47, 98]⟩ 0 0 0 (-1) (.slice none 0 0) ++ ndXc ⟨#[48, 47, 99]⟩ 0 0 0 (-1) (.slice none 0 0) ++ ndXc ⟨#[48, 47, 100]⟩ 0 0 0 (-1) (.slice (some ⟨IB, 0, none⟩) 2 2)).toArray 38)
  rw [hX] at ho
  generalize X1.alloc (.cells (ndXc ⟨#[48, 47, 98]⟩ 0 0 0 (-1) (.slice none 0 0) ++ ndXc ⟨#[48, 47, 99]⟩ 0 0 0 (-1) (.slice none 0 0) ++ ndXc ⟨#[48, 47, 100]⟩ 0 0 0 (-1) (.slice (some ⟨IB, 0, none⟩) 2 2)).toArray 38) = X2 at *
  have HO := Lib.hid (show X2.ownsRow (IB + 1) 38 16 (.slice (some ⟨IB + 1, 0, none⟩) 3 3) 3 (ndXc ⟨#[48, 47, 98]⟩ 0 0 0 (-1) (.slice none 0 0) ++ ndXc ⟨#[48, 47, 99]⟩ 0 0 0 (-1) (.slice none 0 0) ++ ndXc ⟨#[48, 47, 100]⟩ 0 0 0 (-1) (.slice (some ⟨IB, 0, none⟩) 2 2)) from ho)
  have HI := Lib.hid hI
  have HX1 := Lib.hid hX
  have HIBe := Lib.hid hIB
  have HE14 := Lib.hid hE4
  have HE24 := Lib.hid (hE3.trans hE4)
  have HRw := Lib.hid (show ndE.Row X2 awW (.slice (some ⟨IB + 1, 0, none⟩) 3 3) from rowW_any 0 ho (hI.ext hE4))
  have HE4 := Lib.hid ((HE2.out.trans hE3).trans hE4)
  have HZ2 := Lib.hid (show IB + 1 < X2.heap.size from (World.ownsRow.lt ho (IB + 1) rfl).2)
  have HIB := Lib.hid (show w.heap.size ≤ IB + 1 by have := (HE2.out.trans hE3).size; omega)
  clear hI hE3 hE4 ho hX hIB
  go_wp2_with fail
  refine (waits_any awW (by decide) 2 X2 _ HRw.out).mono ?_
  rintro e w3 ⟨v3, rfl, ho3, hE5⟩
  rw [aw_waits] at ho3
  obtain ⟨a3, c3, rfl⟩ : ∃ a c, v3 = .slice a 2 c := by
    obtain ⟨g, c, h, -⟩ := World.ownsRow.form ho3 (by decide)
    exact ⟨_, _, h⟩
  have HO3 := Lib.hid ho3
  have HE5 := Lib.hid hE5
  clear ho3 hE5
  go_wp2_with fail
  refine (wakes_any awW (by decide) (by decide) 1 w3 _ (HRw.out.ext HE5.out)).mono ?_
  rintro e w4 ⟨v4, rfl, ho4, hE6⟩
  rw [aw_wakes] at ho4
  obtain ⟨a4, c4, rfl⟩ : ∃ a c, v4 = .slice a 0 c := by
    rcases ho4.2 with ⟨e1, -⟩ | ⟨g, cap, cur, e1, -⟩
    · exact ⟨none, 0, e1⟩
    · exact ⟨_, _, e1⟩
  have HE6 := Lib.hid (HE5.out.trans hE6)
  have HO3 := Lib.hid (show OwnN 3 X2.heap.size w4 (.slice a3 2 c3) [0, 1] from hE6.own HO3.out)
  clear ho4 hE6 HE5
  have hst := (HE6.out.own HO.out)
  have hc9 : w4.cell? ⟨IB + 1, 9, none⟩ = some (.int .u8 0) := (World.ownsRow.cellAt hst 9 (by omega)).trans rfl
  have hf9 : w4.frozen? ⟨IB + 1, 9, none⟩ = false := World.ownsRow.frozenAt hst 9
  go_upto_region 6 with (fail)
  have HO5 := Lib.hid (show (w4.setCell ⟨IB + 1, 9, none⟩ (.int .u8 4)).ownsRow (IB + 1) 38 16 (.slice (some ⟨IB + 1, 0, none⟩) 3 3) 3 (ndXc ⟨#[48, 47, 98]⟩ 4 0 0 (-1) (.slice none 0 0) ++ ndXc ⟨#[48, 47, 99]⟩ 0 0 0 (-1) (.slice none 0 0) ++ ndXc ⟨#[48, 47, 100]⟩ 0 0 0 (-1) (.slice (some ⟨IB, 0, none⟩) 2 2)) from (hst.stored 9 (.int .u8 4)).1)
  have hg5 := setOne_grown w4 (IB + 1) 9 (.int .u8 4)
  have HE2w := Lib.hid (show Ext w2 (w4.setCell ⟨IB + 1, 9, none⟩ (.int .u8 4)) from (HE24.out.trans HE6.out).setCell (p := ⟨IB + 1, 9, none⟩) (by show w2.heap.size ≤ IB + 1; have := HIBe.out; omega) _)
  have HE1w := Lib.hid (show Ext X1 (w4.setCell ⟨IB + 1, 9, none⟩ (.int .u8 4)) from (HE14.out.trans HE6.out).setCell (p := ⟨IB + 1, 9, none⟩) (by show X1.heap.size ≤ IB + 1; have := HX1.out; omega) _)
  have HV3 := Lib.hid (show intE.Row (w4.setCell ⟨IB + 1, 9, none⟩ (.int .u8 4)) [0, 1] (.slice a3 2 c3) from OwnN.row (World.ownsRow.kept HO3.out hg5 (.inr (fun e => by have := (World.ownsRow.lt HO3.out (IB + 1) e).1; have := HZ2.out; omega))) (by intro z hz; simp only [List.mem_cons, List.not_mem_nil, or_false] at hz; rcases hz with rfl | rfl <;> (unfold isI64; omega)))
  clear hg5 hst hc9 hf9 HO3 HO HRw HE6 HE14 HE24
  generalize w4.setCell ⟨IB + 1, 9, none⟩ (.int .u8 4) = W5 at *
  have HE5 := Lib.hid (HE2.out.trans HE2w.out)
  have HL5 := Lib.hid (HL2.out.ext HE2w.out)
  have HR5 := Lib.hid (show ndE.Row W5 awV (.slice (some ⟨IB + 1, 0, none⟩) 3 3) from rowW_any 4 HO5.out (HI.out.ext HE1w.out))
  clear HE2w HE1w HL2 HE2 HO5 HI HX1 HIBe HZ2
  go_wp2_with fail
  refine (all_any awL awL_right (by decide) (by decide) W5 (HW.out.ext HE5.out) _ HL5.out).mono ?_
  rintro e w6 ⟨v6, rfl, ho6, hE6⟩
  rw [aw_all] at ho6
  have HO6 := Lib.hid ho6
  have HE6 := Lib.hid hE6
  clear ho6 hE6
  have hz4 : ∀ z, z ∈ natsI [3, 1, 2, 0] → isI64 z := by
    intro z hz
    obtain ⟨i, hi, rfl⟩ := List.mem_map.1 hz
    simp only [List.mem_cons, List.not_mem_nil, or_false] at hi
    rcases hi with rfl | rfl | rfl | rfl <;> (unfold isI64; omega)
  have hl6 := litRow w6 (natsI [3, 1, 2, 0]) hz4 (by decide)
  have hE7 := (Ext.refl w6).alloc (.cells ((natsI [3, 1, 2, 0]).map (Value.int .i64)).toArray 3)
  have HV6 := Lib.hid (OwnN.row (hE7.own HO6.out) hz4)
  have HL6 := Lib.hid hl6
  have HE7 := Lib.hid (HE6.out.trans hE7)
  clear hl6 hE7 HO6 HE6
  go_wp2_with fail
  refine (ints16_any (natsI [3, 1, 2, 0]) (natsI [3, 1, 2, 0]) _ _ _ HV6.out HL6.out).mono ?_
  rintro e w7 ⟨he, hE8⟩
  rw [decide_eq_true rfl] at he
  subst he
  have HE8 := Lib.hid (HE7.out.trans hE8)
  clear hE8 HE7 HV6 HL6
  have hz2 : ∀ z, z ∈ ([0, 1] : List Int) → isI64 z := by intro z hz; simp only [List.mem_cons, List.not_mem_nil, or_false] at hz; rcases hz with rfl | rfl <;> (unfold isI64; omega)
  have hl7 := litRow w7 [0, 1] hz2 (by decide)
  have hE9 := (Ext.refl w7).alloc (.cells (([0, 1] : List Int).map (Value.int .i64)).toArray 3)
  have HL7 := Lib.hid hl7
  have HE9 := Lib.hid (HE8.out.trans hE9)
  clear hl7 hE9 HE8
  go_wp2_with fail
  refine (ints16_any [0, 1] [0, 1] _ _ _ (HV3.out.ext HE9.out) HL7.out).mono ?_
  rintro e w8 ⟨he, hE10⟩
  rw [decide_eq_true rfl] at he
  subst he
  have HE10 := Lib.hid (HE9.out.trans hE10)
  clear hE10 HE9 HL7 HV3
  go_wp2_with fail
  refine (wakes_any awV (by decide) (by decide) 1 w8 _ (HR5.out.ext HE10.out)).mono ?_
  rintro e w9 ⟨v9, rfl, ho9, hE11⟩
  rw [aw_wakes2] at ho9
  have HO9 := Lib.hid ho9
  have HE11 := Lib.hid (HE10.out.trans hE11)
  clear ho9 hE11 HE10
  have hz9 : ∀ z, z ∈ natsI [2] → isI64 z := by
    intro z hz
    obtain ⟨i, hi, rfl⟩ := List.mem_map.1 hz
    simp only [List.mem_cons, List.not_mem_nil, or_false] at hi
    subst hi
    unfold isI64; omega
  have hl9 := litRow w9 (natsI [2]) hz9 (by decide)
  have hE12 := (Ext.refl w9).alloc (.cells ((natsI [2]).map (Value.int .i64)).toArray 3)
  have HV9 := Lib.hid (OwnN.row (hE12.own HO9.out) hz9)
  have HL9 := Lib.hid hl9
  have HE12 := Lib.hid (HE11.out.trans hE12)
  clear hl9 hE12 HO9 HE11
  go_wp2_with fail
  refine (ints16_any (natsI [2]) (natsI [2]) _ _ _ HV9.out HL9.out).mono ?_
  rintro e w10 ⟨he, hE13⟩
  rw [decide_eq_true rfl] at he
  subst he
  have HE13 := Lib.hid (HE5.out.trans (HE12.out.trans hE13))
  clear hE13 HE12 HV9 HL9
  go_wp2
  go_ret
  exact ⟨rfl, HE13.out⟩
end Go.Proofs.YtbciamploeejiaaGreatDoor

open Go.RowKit Go.Shelf
namespace Fm
open Go Go.RowKit
/-- No node is after anything: its slice is nil. -/
def Six (w : World) (A : Option Addr) (n : Nat) : Prop := ∀ b, A = some ⟨b, 0, none⟩ → ∀ k, k < n → w.cell? ⟨b, k * 16 + 6, none⟩ = some (.slice none 0 0)
theorem Six.ext {w w' : World} {A : Option Addr} {n : Nat} (h : Six w A n) (hE : Ext w w') (hl : ∀ b, A = some ⟨b, 0, none⟩ → b < w.heap.size) : Six w' A n := fun b hb k hk => (hE.cell (p := ⟨b, k * 16 + 6, none⟩) (hl b hb)).trans (h b hb k hk)
theorem Six.more {w w' : World} {A : Option Addr} {n C C' g base : Nat} {e : TypeId} {xs D : List Value} (h : Six w A n) (ho : w.ownsRow base e 16 (.slice A n C) n xs) (hn : w'.ownsRow base e 16 (.slice (some ⟨g, 0, none⟩) (n + 1) C') (n + 1) (xs ++ D)) (h6 : D[6]? = some (.slice none 0 0)) : Six w' (some ⟨g, 0, none⟩) (n + 1) := by
  intro b hb k hk
  injection hb with hb
  injection hb with hb
  subst hb
  have hxl : xs.length = n * 16 := ho.1
  rw [World.ownsRow.cellAt hn (k * 16 + 6) (by omega)]
  by_cases hkn : k < n
  · rw [List.getElem?_append_left (by omega)]
    obtain ⟨g0, c0, hA, -, -⟩ := World.ownsRow.form ho (by omega)
    injection hA with hA1 hA2 hA3
    subst hA1
    rw [← World.ownsRow.cellAt (cap := C) ho (k * 16 + 6) (by omega)]
    exact h g0 rfl k hkn
  · have : k = n := by omega
    subst this
    rw [List.getElem?_append_right (by omega), hxl, show k * 16 + 6 - k * 16 = 6 by omega]
    exact h6
end Fm
namespace Go.Proofs.YtbciamploeejiaaGreatDoor
open Go Go.Proofs Fm
attribute [local go_sem] Oper.semAt_some

set_option maxRecDepth 100000 in
set_option maxHeartbeats 4000000 in
theorem forestw_any (l : List Int) (w : World) (v : Value) (h : intE.Row w l v) :
    Calls Tryz.prog 20 #[v] w fun e w' => ∃ A C, e = .returned (.slice A (forestF l).length C) ∧ FreeN 38 w.heap.size w' (.slice A (forestF l).length C) (forestF l) ∧ Six w' A (forestF l).length ∧ Ext w w' := by
  have HR := Lib.hid h
  obtain ⟨a, c, rfl, hc1, hc2⟩ := h.slice
  obtain ⟨LN, hLN⟩ : ∃ LN, LN = min l.length 60 := ⟨_, rfl⟩
  have hmin : min (l.length : Int) 60 = (LN : Int) := by omega
  have hs := slice_int_to a l.length c LN (by omega)
  have hL60 : LN ≤ 60 := by omega
  have HLl := Lib.hid (show LN ≤ l.length by omega)
  have HLN := Lib.hid hLN
  clear h hLN hc1
  go_enter Tryz.func20, Tryz.ntmps20
  go_upto_region 2 with (fail)
  go_wp2_with fail
  clear hmin hs
  go_loopw [3, 14] (fun o i wr => ∃ (j : Nat) (A : Option Addr) (C : Nat), j ≤ LN ∧ i = .int .i64 j ∧ o = .slice A j C ∧ Hid (Ext w wr) ∧ Hid (FreeN 38 w.heap.size wr (.slice A j C) (forestTo l j)) ∧ Hid (Six wr A j)) (fun _ i _ => LN - (intOf i).toNat)
  case atStart => exact ⟨0, none, 0, by omega, rfl, rfl, Lib.hid (Ext.refl w), Lib.hid (FreeN.nil _ _ _), Lib.hid (fun b _ k hk => by omega)⟩
  case round =>
    obtain ⟨j, A, C, hj, rfl, rfl, HE, HO, HS6⟩ := hrel
    by_cases hlt : j < LN
    case neg =>
      have HX := Lib.hid (show forestTo l j = forestF l by unfold forestF; rw [← HLN.out, show j = LN by omega])
      go_wp2
      go_ret
      have hfl : j = (forestF l).length := by rw [forestF_len, ← HLN.out]; omega
      exact ⟨A, C, by rw [← hfl]; rfl, by rw [← hfl, ← HX.out]; exact HO.out, by rw [← hfl]; exact HS6.out, HE.out⟩
    have hi' : j < l.length := by have := HLl.out; omega
    obtain ⟨b, off, rfl, hb, hcell, hi6⟩ := int_at HR.out HE.out j hi'
    have hj0 : (0 : Int) ≤ (j : Int) := by omega
    have hj1 : (j : Int) < (LN : Int) := by omega
    have HSl := Lib.hid HO.out.lt
    have HT := Lib.hid (show forestTo l (j + 1) = forestTo l j ++ [forestN (forestTo l j) l[j]] by rw [forestTo, List.getD_eq_getElem?_getD, List.getElem?_eq_getElem hi', Option.getD_some])
    obtain ⟨x, hx⟩ : ∃ x, x = l[j] := ⟨_, rfl⟩
    rw [← hx] at hcell hi6 HT
    clear hx
    obtain ⟨y, hy⟩ : ∃ y, y = x % 256 := ⟨_, rfl⟩
    have hb2 : bits BinOp.and IntKind.i64 x 255 = y := by rw [and255, hy]
    have hy0 : 0 ≤ y ∧ y ≤ 255 := by
      have h1 := Int.emod_nonneg x (show (256 : Int) ≠ 0 by decide)
      have h2 := Int.emod_lt_of_pos x (show (0 : Int) < 256 by decide)
      omega
    obtain ⟨o, ho⟩ : ∃ o : Nat, (o : Int) = y % ((j : Int) + 3) := ⟨(y % ((j : Int) + 3)).toNat, by have := Int.emod_nonneg y (show (j : Int) + 3 ≠ 0 by omega); omega⟩
    have hm1 : y % ((j : Int) + 3) = (o : Int) := ho.symm
    have hm2 : y.tmod ((j : Int) + 3) = (o : Int) := by rw [Int.tmod_eq_emod_of_nonneg hy0.1]; exact hm1
    obtain ⟨f1, hf1⟩ : ∃ f1, f1 = x / 256 % 2 := ⟨_, rfl⟩
    have hb1 : bits BinOp.and IntKind.i64 (x / 256) 1 = f1 := by rw [and1, hf1]
    have hf0 : 0 ≤ f1 ∧ f1 ≤ 1 := by
      have h1 := Int.emod_nonneg (x / 256) (show (2 : Int) ≠ 0 by decide)
      have h2 := Int.emod_lt_of_pos (x / 256) (show (0 : Int) < 2 by decide)
      omega
    have HFN := Lib.hid (show forestN (forestTo l j) x = if o < j then ndFl (nthF (forestTo l j) o).flow o else ndFl f1 (-1) by
      unfold forestN
      rw [forestTo_len, ← hy, ← ho, ← hf1]
      by_cases h : o < j
      · rw [if_pos h, if_pos (by omega)]
      · rw [if_neg h, if_neg (by omega)])
    have HY := Lib.hid hy0
    have HF := Lib.hid hf0
    clear hy ho hf1
    obtain ⟨Cm, hCm⟩ : ∃ Cm, Cm = flC f1 (-1) := ⟨_, rfl⟩
    have HMG : Hid ((Value.agg #[.string { data := #[] }, .string { data := #[] }, .int .u8 0, .int .i64 f1, .int .i64 (-1), .int .i64 0, .slice none 0 0, .int .i64 0, .int .i64 0, .int .u8 0, .int .i64 0, .int .i64 0, .int .u8 0, .int .i64 0, .string { data := #[] }, .slice none 0 0]) = .agg Cm.toArray) := Lib.hid (by rw [hCm]; rfl)
    have HCm := Lib.hid hCm
    have HL16 := Lib.hid (show Cm.length = 16 by rw [hCm]; rfl)
    have HN1 := Lib.hid (show ∀ u, u ∈ Cm → u.oneCell' = true by rw [hCm]; intro u hu; simp only [flC, List.mem_cons, List.not_mem_nil, or_false] at hu; rcases hu with rfl | rfl | rfl | rfl | rfl | rfl | rfl | rfl | rfl | rfl | rfl | rfl | rfl | rfl | rfl | rfl <;> rfl)
    clear hCm
    go_upto_region 6 with (refine wpList_storeBox rfl _ _ _ rfl _ _ _ _ rfl rfl rfl (by exact HMG.out) sizenode_F rfl HL16.out HN1.out ?_)
    have hB1 := BoxL.new wr Cm 38
    have hE1 := (Ext.refl wr).alloc (.cells Cm.toArray 38)
    have hO1 := HO.out.ext hE1
    have HE1 := Lib.hid (HE.out.trans hE1)
    have hNB : w.heap.size ≤ wr.heap.size := HE.out.size
    have hNB2 : wr.heap.size < (wr.alloc (.cells Cm.toArray 38)).heap.size := by simp
    have hgl2 := HO.out.lt
    have HE01 := Lib.hid hE1
    generalize wr.alloc (.cells Cm.toArray 38) = W1 at *
    obtain ⟨NB, hNBe⟩ : ∃ NB, NB = wr.heap.size := ⟨_, rfl⟩
    rw [← hNBe] at hB1 hNB hNB2 hgl2 ⊢
    have HNBe := Lib.hid hNBe
    clear hNBe
    rw [HCm.out] at hB1
    have HB1 := Lib.hid hB1
    have HO1 := Lib.hid hO1
    clear hB1 hE1 HMG HN1 hO1
    by_cases hoj : o < j
    case' pos =>
      obtain ⟨g, cap, hA, hg1, hg2⟩ := HO1.out.form (by rw [forestTo_len]; omega)
      rw [forestTo_len] at hA
      injection hA with hA1 hA2 hA3
      subst hA1 hA3
      have hgN : g < NB := (hgl2 g rfl).2
      obtain ⟨b', off', e', hb', aa, ma, ca, kk, N, s, d, ⟨-, -, -, x3, -⟩, hnv⟩ := nd_at16 HO1.out.row (Ext.refl W1) o (by rw [forestTo_len]; exact hoj)
      injection e' with e'
      injection e' with e1' e2'
      subst e1' e2'
      have hfw := hnv.wf.2.2.1
      have hol : o < (forestTo l j).length := by rw [forestTo_len]; exact hoj
      have HFN2 := Lib.hid (show forestN (forestTo l j) x = ndFl (forestTo l j)[o].flow o by rw [HFN.out, if_pos hoj, nthF_at])
      obtain ⟨f2, hf2⟩ : ∃ f2, f2 = (forestTo l j)[o].flow := ⟨_, rfl⟩
      rw [← hf2] at x3 hfw HFN2
      rw [Nat.zero_add] at x3
      have hne1 : g ≠ NB := by omega
      have hne2 : NB ≠ g := by omega
      have y3 := HB1.out.cell 3 _ rfl
      have y4 := HB1.out.cell 4 _ rfl
      have z3 := HB1.out.free 3
      have z4 := HB1.out.free 4
      have HFW := Lib.hid hfw
      clear hf2 hnv hfw hb'
      go_wp2_with fail
      go_region
      have hE2 : Ext wr (((W1.setCell ⟨NB, 4, none⟩ (.int .i64 (o : Int))).setCell ⟨NB, 3, none⟩ (.int .i64 f2)).drew) := ((HE01.out.setCell (p := ⟨NB, 4, none⟩) (by show wr.heap.size ≤ NB; have := HNBe.out; omega) _).setCell (p := ⟨NB, 3, none⟩) (by show wr.heap.size ≤ NB; have := HNBe.out; omega) _).drew
      have hB2 := ((HB1.out.set 4 (by simp [flC]) (.int .i64 (o : Int))).set 3 (by simp [flC]) (.int .i64 f2)).ext (Ext.refl _).drew
      generalize ((W1.setCell ⟨NB, 4, none⟩ (.int .i64 (o : Int))).setCell ⟨NB, 3, none⟩ (.int .i64 f2)).drew = W2 at *
      have HB2 := Lib.hid (show BoxL W2 NB (flC f2 (o : Int)) from hB2)
      have HV2 := Lib.hid (fun W => ndFl_v HFW.out (show isI64 (o : Int) by unfold isI64; omega) W)
      have HO2 := Lib.hid (HO.out.ext hE2)
      have HS2 := Lib.hid (HS6.out.ext hE2 (fun b hb => by injection hb with hb; injection hb with hb; rw [← hb]; exact (HSl.out g rfl).2))
      have HC6 := Lib.hid (show (flC f2 (o : Int))[6]? = some (.slice none 0 0) from rfl)
      have HE2 := Lib.hid (HE.out.trans hE2)
      obtain ⟨A', hA'⟩ : ∃ A' : Option Addr, A' = some ⟨g, 0, none⟩ := ⟨_, rfl⟩
      obtain ⟨Cn, hCn⟩ : ∃ Cn, Cn = flC f2 (o : Int) := ⟨_, rfl⟩
      obtain ⟨nn, hnn⟩ : ∃ nn, nn = ndFl f2 (o : Int) := ⟨_, rfl⟩
      have hNN := HFN2.out.trans hnn.symm
      rw [← hCn] at HB2 HC6
      rw [← hCn, ← hnn] at HV2
      have hC16 : Cn.length = 16 := by rw [hCn]; rfl
      clear hB2 hE2 hCn hnn x3 y3 y4 z3 z4
    case' neg =>
      have hNN := HFN.out
      rw [if_neg hoj] at hNN
      have HV2 := Lib.hid (fun W => ndFl_v (show isI64 f1 by have := HF.out; unfold isI64; omega) (show isI64 (-1) by unfold isI64; omega) W)
      obtain ⟨W2, hW2⟩ : ∃ W2, W2 = W1 := ⟨_, rfl⟩
      have HO2 := Lib.hid (show FreeN 38 w.heap.size W2 (.slice A j C) (forestTo l j) by rw [hW2]; exact HO1.out)
      have HE2 := Lib.hid (show Ext w W2 by rw [hW2]; exact HE1.out)
      have HS2 := Lib.hid (show Six W2 A j by rw [hW2]; exact HS6.out.ext HE01.out (fun b hb => by rw [hb] at HSl; exact (HSl.out b rfl).2))
      have HC6 := Lib.hid (show (flC f1 (-1))[6]? = some (.slice none 0 0) from rfl)
      obtain ⟨Cn, hCn⟩ : ∃ Cn, Cn = flC f1 (-1) := ⟨_, rfl⟩
      have HB2 := Lib.hid (show BoxL W2 NB Cn by rw [hW2, hCn]; exact HB1.out)
      obtain ⟨nn, hnn⟩ : ∃ nn, nn = ndFl f1 (-1) := ⟨_, rfl⟩
      rw [← hnn] at hNN
      rw [← hCn, ← hnn] at HV2
      rw [← hCn] at HC6
      have hC16 : Cn.length = 16 := by rw [hCn]; rfl
      rw [← hW2]
      clear hCn hnn hW2
      go_upto_region 9 with (fail)
    all_goals
      have HNN := Lib.hid hNN
      have hN1 := (ndV_one (HV2.out W2)).2
      have HR2 : Hid (W2.rangeAt NB 0 Cn) := Lib.hid (fun p v hp => by rw [Nat.zero_add]; exact HB2.out.cell p v hp)
      have HLn' : Hid ((Tryz.prog.info? 38).map (·.size) = some Cn.length) := Lib.hid (by rw [hC16]; exact sizenode_F)
      have hEa := (Ext.refl W2).alloc (.cells Cn.toArray 38)
      obtain ⟨ts, hts, hmore⟩ := (HO2.out.ext hEa).rowOf
      rw [forestTo_len] at hts hmore
      have HTs := Lib.hid hts
      have HMore := Lib.hid hmore
      have HC16 := Lib.hid hC16
      have HC1 := Lib.hid hN1
      have HRb := Lib.hid (show (W2.alloc (.cells Cn.toArray 38)).rangeAt W2.heap.size 0 Cn from rangeAt_new W2 Cn 38)
      have HEb := Lib.hid (HE2.out.trans hEa)
      have HLt := Lib.hid (HO2.out.ext hEa).lt
      have HS3 := Lib.hid (HS2.out.ext hEa (fun b hb => by first | exact (HO2.out.lt b (by rw [hb]; rfl)).2 | (injection hb with hb; injection hb with hb; rw [← hb]; exact (HO2.out.lt g rfl).2)))
      clear hNN hN1 hC16 hEa hts hmore HO2 HB2 HO1 HB1 HO HE HE01 HE1 HCm HFN hb1 hb2 hm1 hm2 hcell
      go_wp2_with (first | (refine wpList_load_mid rfl _ _ rfl _ _ rfl _ _ HR2.out Tryz.underlying38 rfl HLn'.out ?_) | (refine wpList_nodesC (C := Cn) (by rfl) (.tmp 41) rfl rfl HC16.out ?_) | (at_builtin; refine wpList_appOneM elemnode_F rfl _ _ rfl rfl HTs.out rfl HRb.out HC16.out HC1.out (by omega) (by omega) HEb.out.size ?_))
      intro v' w5 hown' hgrow _
      obtain ⟨g', cap', rfl⟩ := ownsRow_succ hown'
      have HO5 := Lib.hid (HMore.out w5 (.slice (some ⟨g', 0, none⟩) (j + 1) cap') nn Cn HC16.out (by simpa using hown') HV2.out)
      have HE5 := Lib.hid (HEb.out.grown hgrow (fun k e => (HLt.out k e).1))
      have HT5 := Lib.hid (show forestTo l (j + 1) = forestTo l j ++ [nn] by rw [HT.out, HNN.out])
      have HS5 := Lib.hid (Six.more HS3.out HTs.out hown' HC6.out)
      clear hown' hgrow
      go_wp2
      go_roundw
      case rel => exact ⟨j + 1, _, _, by omega, by go_num, rfl, HE5, Lib.hid (by rw [HT5.out]; exact HO5.out), HS5⟩
      case measure => simp [intOf]; omega
end Go.Proofs.YtbciamploeejiaaGreatDoor

namespace Fm
open Go Go.RowKit

def someIds : List (List UInt8) := [[48, 47, 97], [48, 47, 98], [49, 47, 97, 91, 50, 93], [49, 47, 97, 91, 49, 48, 93], [48, 47, 97, 47, 99], [], [120], [50]]
def someA (x : Int) (k : Nat) : List Int := (List.range k).map (fun i => x / (2 ^ i : Nat) % 16 - 1)
def someG (l : List Int) (i : Nat) (n : Nd) : Nd :=
  { n with id := someIds.getD (l.getD i 0 / 4 % 8).toNat [], stand := UInt8.ofNat (l.getD i 0 / 16 % 8 % 7).toNat, fails := l.getD i 0 / 128 % 2, after := someA (l.getD i 0) (l.getD i 0 / 32 % 4).toNat }
def someF (l : List Int) : List Nd := chgF (someG l) (forestF l)
theorem someF_len (l : List Int) : (someF l).length = min l.length 60 := by unfold someF; rw [chgF_len, forestF_len]
theorem someF_right (l : List Int) : RightO (someF l) := chgF_right (forestTo_right l _) (fun _ _ => ⟨rfl, rfl⟩)
theorem someF_le (l : List Int) : (someF l).length ≤ 60 := by rw [someF_len]; omega
theorem someIds_le (k : Nat) : (someIds.getD k []).length ≤ 8 := by
  by_cases h : k < 8
  · rcases (by omega : k = 0 ∨ k = 1 ∨ k = 2 ∨ k = 3 ∨ k = 4 ∨ k = 5 ∨ k = 6 ∨ k = 7) with rfl | rfl | rfl | rfl | rfl | rfl | rfl | rfl <;> decide
  · rw [List.getD_eq_getElem?_getD, List.getElem?_eq_none (by simp [someIds]; omega)]
    decide
theorem someA_len (x : Int) (k : Nat) : (someA x k).length = k := by unfold someA; simp
theorem someA_succ (x : Int) (k : Nat) : someA x (k + 1) = someA x k ++ [x / (2 ^ k : Nat) % 16 - 1] := by
  unfold someA
  rw [List.range_succ, List.map_append]
  rfl
theorem someA_i64 (x : Int) (k : Nat) : ∀ z, z ∈ someA x k → isI64 z := by
  intro z hz
  unfold someA at hz
  obtain ⟨i, -, rfl⟩ := List.mem_map.1 hz
  have h1 := Int.emod_nonneg (x / (2 ^ i : Nat)) (show (16 : Int) ≠ 0 by decide)
  have h2 := Int.emod_lt_of_pos (x / (2 ^ i : Nat)) (show (0 : Int) < 16 by decide)
  unfold isI64
  omega
theorem someF_mem {l : List Int} {n : Nd} (h : n ∈ someF l) : n.id.length ≤ 1000000 ∧ n.after.length ≤ 100000 := by
  obtain ⟨i, hi, rfl⟩ := List.getElem_of_mem h
  have hl : i < (forestF l).length := by unfold someF at hi; rw [chgF_len] at hi; exact hi
  rw [show (someF l)[i] = someG l i (forestF l)[i] from chgF_at (someG l) (forestF l) i hi hl]
  refine ⟨Nat.le_trans (someIds_le _) (by omega), ?_⟩
  show (someA _ _).length ≤ 100000
  rw [someA_len]
  have := Int.emod_lt_of_pos (l.getD i 0 / 32) (show (0 : Int) < 4 by decide)
  omega
theorem ndV_idR {w : World} {n : Nd} {C : List Value} (h : NdV w n (.agg C.toArray)) {s : List UInt8} (hs : s.length ≤ 9223372036854775807) : NdV w { n with id := s } (.agg (C.set 0 (.string (str s))).toArray) := by
  obtain ⟨a, m, c, k, N, S, d, e, h1, h2, h3, h4, h5⟩ := h
  injection e with e
  injection e with e
  subst e
  exact ⟨a, m, c, k, N, S, d, rfl, h1, h2, hs, h4, h5⟩
theorem set_same {α : Type} {l : List α} {i : Nat} {v : α} (h : l[i]? = some v) : l.set i v = l := by
  obtain ⟨hi, rfl⟩ := List.getElem?_eq_some_iff.1 h
  exact List.set_getElem_self hi
/-- One node is after others now. -/
theorem HeldN.afterR {eN : TypeId} {base g cap : Nat} {w W : World} {l : List Nd} {cs : List (List Value)} (h1 : cs.length = l.length) (h3 : ∀ (i : Nat) (hi : i < l.length) (hc : i < cs.length), FarNd w (some g) l[i] cs[i]) {i : Nat} (hi : i < l.length)
    {a : Option Addr} {m c : Nat} {af : List Int} (hrow : W.ownsRow base eN 16 (.slice (some ⟨g, 0, none⟩) l.length cap) l.length (cs.flatten.set (i * 16 + 6) (.slice a m c))) (hg : w.grownBy W (some g)) (ha : ∀ w', W.grownBy w' (some g) → intE.Row w' af (.slice a m c)) :
    HeldN eN base W (.slice (some ⟨g, 0, none⟩) l.length cap) (l.set i { l[i] with after := af }) := by
  have h16 : ∀ D, D ∈ cs → D.length = 16 := fun D hD => by
    obtain ⟨k, hk, rfl⟩ := List.getElem_of_mem hD
    exact (h3 k (by omega) hk).1
  have hc : i < cs.length := by omega
  refine ⟨cs.set i (cs[i].set 6 (.slice a m c)), by simp [h1], ?_, fun k hk hd => ?_⟩
  · rw [List.length_set, ← flat16_set1 hc h16 (by omega)]
    exact hrow
  · have hk' : k < l.length := by simpa using hk
    have hd' : k < cs.length := by simpa using hd
    by_cases e : i = k
    · subst e
      rw [List.getElem_set_self, List.getElem_set_self]
      exact farNd_of (fun w' hw' => ndV_after ((h3 i hi hc).2.2 w' (grown_trans hg hw')) (ha w' hw'))
    · rw [List.getElem_set_ne e, List.getElem_set_ne e]
      exact (h3 k hk' hd').then hg (.inl rfl)
theorem HeldN.relen {eN : TypeId} {base n m cap : Nat} {w : World} {a : Option Addr} {l : List Nd} (h : HeldN eN base w (.slice a n cap) l) (e : n = m) : HeldN eN base w (.slice a m cap) l := by subst e; exact h
theorem HeldN.putSF {eN : TypeId} {base g cap n : Nat} {w : World} {l : List Nd} (h : HeldN eN base w (.slice (some ⟨g, 0, none⟩) n cap) l) (hn : l.length = n) {i : Nat} (hi : i < l.length) {z : Nat} (hz : z < 256) {fl : Int} (hf : isI64 fl) :
    HeldN eN base ((w.setCell ⟨g, i * 16 + 9, none⟩ (.int .u8 (z : Int))).setCell ⟨g, i * 16 + 10, none⟩ (.int .i64 fl)) (.slice (some ⟨g, 0, none⟩) n cap) (l.set i { l[i] with stand := UInt8.ofNat z, fails := fl }) ∧ w.grownBy ((w.setCell ⟨g, i * 16 + 9, none⟩ (.int .u8 (z : Int))).setCell ⟨g, i * 16 + 10, none⟩ (.int .i64 fl)) (some g) := by
  have hzz : (UInt8.ofNat z).toNat = z := UInt8.toNat_ofNat_of_lt' hz
  have h1 := (h.relen hn.symm).put hi 9 (by omega) (.int .u8 (z : Int)) { l[i] with stand := UInt8.ofNat z } (fun w' C hC => by have := ndV_stand hC (UInt8.ofNat z); rw [hzz] at this; exact this)
  have hi2 : i < (l.set i { l[i] with stand := UInt8.ofNat z }).length := by simpa using hi
  have h2 := (h1.1.relen (show l.length = (l.set i { l[i] with stand := UInt8.ofNat z }).length by simp)).put hi2 10 (by omega) (.int .i64 fl) { l[i] with stand := UInt8.ofNat z, fails := fl } (fun w' C hC => by
    rw [List.getElem_set_self] at hC
    exact ndV_fails hC hf)
  refine ⟨?_, grown_trans h1.2 h2.2⟩
  have := h2.1.relen (show (l.set i { l[i] with stand := UInt8.ofNat z }).length = n by simpa using hn)
  rw [List.set_set] at this
  exact this
theorem HeldN.putId {eN : TypeId} {base g cap n : Nat} {w : World} {l : List Nd} (h : HeldN eN base w (.slice (some ⟨g, 0, none⟩) n cap) l) (hn : l.length = n) {i : Nat} (hi : i < l.length) {s : List UInt8} (hs : s.length ≤ 9223372036854775807) :
    HeldN eN base (w.setCell ⟨g, i * 16, none⟩ (.string (str s))) (.slice (some ⟨g, 0, none⟩) n cap) (l.set i { l[i] with id := s }) ∧ w.grownBy (w.setCell ⟨g, i * 16, none⟩ (.string (str s))) (some g) := by
  have h1 := (h.relen hn.symm).put hi 0 (by omega) (.string (str s)) { l[i] with id := s } (fun w' C hC => ndV_idR hC hs)
  exact ⟨h1.1.relen hn, h1.2⟩
theorem six_put {w : World} {g o k : Nat} {u v : Value} (h : w.cell? ⟨g, k * 16 + 6, none⟩ = some v) (ho : o % 16 ≠ 6) : (w.setCell ⟨g, o, none⟩ u).cell? ⟨g, k * 16 + 6, none⟩ = some v := by
  rw [World.cell?_setCell_other _ _ _ _ (fun e => ho (by injection e with _ e _; omega)), h]
theorem six_row {base e n cap g p : Nat} {w W : World} {xs : List Value} {va v : Value} {k : Nat} (h : w.ownsRow base e 16 (.slice (some ⟨g, 0, none⟩) n cap) n xs) (h2 : W.ownsRow base e 16 (.slice (some ⟨g, 0, none⟩) n cap) n (xs.set p va)) (hk : k < n) (hp : p ≠ k * 16 + 6) (hc : w.cell? ⟨g, k * 16 + 6, none⟩ = some v) : W.cell? ⟨g, k * 16 + 6, none⟩ = some v := by
  rw [World.ownsRow.cellAt h2 (k * 16 + 6) (by omega), List.getElem?_set_ne hp, ← World.ownsRow.cellAt h (k * 16 + 6) (by omega)]
  exact hc
end Fm

open Go.RowKit Go.Shelf
namespace Go.Proofs.YtbciamploeejiaaGreatDoor
open Go Go.Proofs Fm
attribute [local go_sem] Oper.semAt_some

set_option maxRecDepth 100000 in
set_option maxHeartbeats 8000000 in
theorem some_any (l : List Int) (w : World) (v : Value) (h : intE.Row w l v) :
    Calls Tryz.prog 6 #[v] w fun e w' => ∃ A C, e = .returned (.slice A (someF l).length C) ∧ HeldN 38 w.heap.size w' (.slice A (someF l).length C) (someF l) ∧ Ext w w' := by
  have HR := Lib.hid h
  have HF := Lib.hid (forestw_any l w v h)
  obtain ⟨a, c, rfl, hc1, hc2⟩ := h.slice
  obtain ⟨LN, hLN⟩ : ∃ LN, LN = min l.length 60 := ⟨_, rfl⟩
  have HLN := Lib.hid hLN
  have HFl := Lib.hid (show (forestF l).length = LN by rw [forestF_len, hLN])
  have hL60 : LN ≤ 60 := by omega
  have hLl : LN ≤ l.length := by omega
  have HSl := Lib.hid (show (someF l).length = LN by rw [someF_len, hLN])
  rw [HFl.out] at HF
  rw [HSl.out]
  clear h hLN
  go_enter Tryz.func6, Tryz.ntmps6
  go_wp2_with fail
  refine HF.out.mono ?_
  rintro e w1 ⟨A, C, rfl, hfr, hsix, hE1⟩
  have HH0 := Lib.hid (show HeldN 38 w.heap.size w1 (.slice A LN C) (chgTo (someG l) (forestF l) 0) by rw [chgTo_zero]; exact hfr.held)
  have HS0 := Lib.hid hsix
  have HE1 := Lib.hid hE1
  clear hfr hsix hE1 HF
  go_wp2_with fail
  go_loopw [11] (fun i wr => ∃ j : Nat, j ≤ LN ∧ i = .int .i64 (j : Int) ∧ Hid (Ext w wr) ∧ Hid (HeldN 38 w.heap.size wr (.slice A LN C) (chgTo (someG l) (forestF l) j)) ∧ Hid (∀ b, A = some ⟨b, 0, none⟩ → ∀ k, j ≤ k → k < LN → wr.cell? ⟨b, k * 16 + 6, none⟩ = some (.slice none 0 0))) (fun i _ => LN - (intOf i).toNat)
  case atStart => exact ⟨0, by omega, rfl, HE1, HH0, Lib.hid (fun b hb k _ hk => HS0.out b hb k hk)⟩
  case round =>
    clear HH0 HS0 HE1
    obtain ⟨j, hj, rfl, HE, HH, HS⟩ := hrel
    by_cases hlt : j < LN
    case neg =>
      have HX := Lib.hid (show HeldN 38 w.heap.size wr (.slice A LN C) (someF l) by
        have := HH.out
        rw [show j = (forestF l).length by rw [HFl.out]; omega, chgTo_all] at this
        exact this)
      go_wp2
      go_ret
      exact ⟨A, C, rfl, HX.out, HE.out⟩
    have hjl : j < l.length := by omega
    have hjF : j < (forestF l).length := by rw [HFl.out]; exact hlt
    have hcl : (chgTo (someG l) (forestF l) j).length = LN := by rw [chgTo_len, HFl.out]
    obtain ⟨bx, offx, rfl, hbx, hcell, hx6⟩ := int_at HR.out HE.out j hjl
    obtain ⟨g, C', hA, hg1, hg2⟩ := HH.out.form (by rw [hcl]; omega)
    rw [hcl] at hA
    injection hA with hA1 hA2 hA3
    subst hA1 hA3
    have hj0 : (0 : Int) ≤ (j : Int) := by omega
    have hj1 : (j : Int) < (LN : Int) := by omega
    have hj2 : (j : Int) < (l.length : Int) := by omega
    obtain ⟨x, hx⟩ : ∃ x, x = l[j] := ⟨_, rfl⟩
    have HXg := Lib.hid (show l.getD j 0 = x by rw [List.getD_eq_getElem?_getD, List.getElem?_eq_getElem hjl, Option.getD_some, hx])
    rw [← hx] at hcell hx6
    clear hx
    -- the numbers
    obtain ⟨y, hy⟩ : ∃ y : Nat, (y : Int) = x / 16 % 8 := ⟨(x / 16 % 8).toNat, by have := Int.emod_nonneg (x / 16) (show (8 : Int) ≠ 0 by decide); omega⟩
    have hy8 : y < 8 := by have := Int.emod_lt_of_pos (x / 16) (show (0 : Int) < 8 by decide); omega
    obtain ⟨z, hz⟩ : ∃ z : Nat, z = y % 7 := ⟨_, rfl⟩
    have hz7 : z < 7 := by omega
    obtain ⟨fl, hfl⟩ : ∃ fl, fl = x / 128 % 2 := ⟨_, rfl⟩
    have hfl2 : 0 ≤ fl ∧ fl ≤ 1 := by
      have h1 := Int.emod_nonneg (x / 128) (show (2 : Int) ≠ 0 by decide)
      have h2 := Int.emod_lt_of_pos (x / 128) (show (0 : Int) < 2 by decide)
      omega
    obtain ⟨q, hq⟩ : ∃ q : Nat, (q : Int) = x / 4 % 8 := ⟨(x / 4 % 8).toNat, by have := Int.emod_nonneg (x / 4) (show (8 : Int) ≠ 0 by decide); omega⟩
    have hq8 : q < 8 := by have := Int.emod_lt_of_pos (x / 4) (show (0 : Int) < 8 by decide); omega
    obtain ⟨cn, hcn⟩ : ∃ cn : Nat, (cn : Int) = x / 32 % 4 := ⟨(x / 32 % 4).toNat, by have := Int.emod_nonneg (x / 32) (show (4 : Int) ≠ 0 by decide); omega⟩
    have hcn4 : cn < 4 := by have := Int.emod_lt_of_pos (x / 32) (show (0 : Int) < 4 by decide); omega
    have b1 : bits BinOp.and IntKind.i64 (x / 16) 7 = (y : Int) := by rw [and7, hy]
    have b2 : bits BinOp.and IntKind.i64 (x / 128) 1 = fl := by rw [and1, hfl]
    have b3 : bits BinOp.and IntKind.i64 (x / 4) 7 = (q : Int) := by rw [and7, hq]
    have b4 : bits BinOp.and IntKind.i64 (x / 32) 3 = (cn : Int) := by rw [and3, hcn]
    have b5 : (y : Int).tmod 7 = (z : Int) := by rw [Int.tmod_eq_emod_of_nonneg (by omega)]; omega
    have HH1 := Lib.hid (show HeldN 38 w.heap.size wr (.slice (some ⟨g, 0, none⟩) LN C) (chgTo (someG l) (forestF l) j) from HH.out)
    have hjc : j < (chgTo (someG l) (forestF l) j).length := by rw [hcl]; exact hlt
    obtain ⟨⟨u9, c9⟩, z9⟩ := (HH1.out.relen hcl.symm).spot hjc 9 (by omega)
    obtain ⟨⟨u10, c10⟩, z10⟩ := (HH1.out.relen hcl.symm).spot hjc 10 (by omega)
    have hgx : g ≠ bx := by omega
    have HSF := Lib.hid (HH1.out.putSF hcl hjc (show z < 256 by omega) (show isI64 fl by unfold isI64; omega))
    have HS1 := Lib.hid (fun k (h1 : j ≤ k) (h2 : k < LN) => six_put (u := .int .i64 fl) (six_put (u := .int .u8 (z : Int)) (HS.out g rfl k h1 h2) (show (j * 16 + 9) % 16 ≠ 6 by omega)) (show (j * 16 + 10) % 16 ≠ 6 by omega))
    have HZ := Lib.hid hz
    have HY := Lib.hid hy
    have HFl2 := Lib.hid hfl
    have HQ := Lib.hid hq
    have HCN := Lib.hid hcn
    have HG1 := Lib.hid hg1
    clear hz hy hfl hq hcn HH HS hg1
    have HWc := Lib.hid (show w.heap.size ≤ wr.heap.size from HE.out.size)
    go_upto_region 7 with (fail)
    have hE2 : Ext w ((wr.setCell ⟨g, j * 16 + 9, none⟩ (.int .u8 (z : Int))).setCell ⟨g, j * 16 + 10, none⟩ (.int .i64 fl)) := HE.out.grown HSF.out.2 (fun k hk => by injection hk with hk; rw [← hk]; exact HG1.out)
    obtain ⟨W2, hW2⟩ : ∃ W2, W2 = (wr.setCell ⟨g, j * 16 + 9, none⟩ (.int .u8 (z : Int))).setCell ⟨g, j * 16 + 10, none⟩ (.int .i64 fl) := ⟨_, rfl⟩
    rw [← hW2] at HSF HS1 hE2 ⊢
    have hg3 : g < W2.heap.size := by rw [hW2]; simpa using hg2
    have hg4 : g ≠ W2.heap.size := by omega
    have HE2 := Lib.hid hE2
    have HH2 := Lib.hid HSF.out.1
    clear hE2 hW2 HSF HH1 c9 z9 c10 z10 hcell b1 b2 b5 HE
    obtain ⟨L2, hL2⟩ : ∃ L2, L2 = (chgTo (someG l) (forestF l) j).set j { (chgTo (someG l) (forestF l) j)[j] with stand := UInt8.ofNat z, fails := fl } := ⟨_, rfl⟩
    rw [← hL2] at HH2
    have hl2 : L2.length = LN := by rw [hL2, List.length_set]; exact hcl
    have hj2c : j < L2.length := by omega
    have HL2 := Lib.hid hL2
    clear hL2
    obtain ⟨sI, hsI⟩ : ∃ sI, sI = someIds.getD q [] := ⟨_, rfl⟩
    have hsl : sI.length ≤ 9223372036854775807 := by rw [hsI]; have := someIds_le q; omega
    have hB := BoxL.new W2 (someIds.map fun s => Value.string (str s)) 9
    have hq : (someIds.map fun s => Value.string (str s))[q]? = some (.string (str sI)) := by
      rw [List.getElem?_map, hsI, List.getD_eq_getElem?_getD, List.getElem?_eq_getElem (show q < someIds.length from hq8)]
      rfl
    have hcq := hB.cell q _ hq
    have HSI := Lib.hid hsI
    obtain ⟨⟨u0, c0⟩, z0⟩ := (HH2.out.relen hl2.symm).spot hj2c 0 (by omega)
    have c0 : W2.cell? ⟨g, j * 16, none⟩ = some u0 := c0
    have z0 : W2.frozen? ⟨g, j * 16, none⟩ = false := z0
    have hq0 : (0 : Int) ≤ (q : Int) := by omega
    have hq1 : (q : Int) < 8 := by omega
    have HPI := Lib.hid (HH2.out.putId hl2 hj2c hsl)
    have HSP := Lib.hid (fun k (h1 : j ≤ k) (h2 : k < LN) => six_put (u := .string (str sI)) (HS1.out k h1 h2) (show (j * 16) % 16 ≠ 6 by omega))
    clear hB HS1 hq hsI
    rw [show (W2.alloc (.cells (someIds.map fun s => Value.string (str s)).toArray 9)) = W2.alloc (.cells #[.string { data := #[48, 47, 97] }, .string { data := #[48, 47, 98] }, .string { data := #[49, 47, 97, 91, 50, 93] }, .string { data := #[49, 47, 97, 91, 49, 48, 93] }, .string { data := #[48, 47, 97, 47, 99] }, .string { data := #[] }, .string { data := #[120] }, .string { data := #[50] }] 9) from rfl] at hcq
    go_upto_region 8 with (fail)
    have hE3 : Ext w (W2.setCell ⟨g, j * 16, none⟩ (.string (str sI))) := HE2.out.grown HPI.out.2 (fun k hk => by injection hk with hk; rw [← hk]; exact HG1.out)
    have hg5 : g < (W2.setCell ⟨g, j * 16, none⟩ (.string (str sI))).heap.size := by simpa using hg3
    obtain ⟨W3, hW3⟩ : ∃ W3, W3 = W2.setCell ⟨g, j * 16, none⟩ (.string (str sI)) := ⟨_, rfl⟩
    rw [← hW3] at HPI HSP hE3 hg5 ⊢
    have hEb := (Ext.refl W3).alloc (.cells #[.string { data := #[48, 47, 97] }, .string { data := #[48, 47, 98] }, .string { data := #[49, 47, 97, 91, 50, 93] }, .string { data := #[49, 47, 97, 91, 49, 48, 93] }, .string { data := #[48, 47, 97, 47, 99] }, .string { data := #[] }, .string { data := #[120] }, .string { data := #[50] }] 9)
    obtain ⟨L3, hL3⟩ : ∃ L3, L3 = L2.set j { L2[j] with id := sI } := ⟨_, rfl⟩
    rw [← hL3] at HPI
    have hl3 : L3.length = LN := by rw [hL3, List.length_set]; exact hl2
    have hj3c : j < L3.length := by omega
    have HL3 := Lib.hid hL3
    have hHi := HPI.out.1.ext hEb
    have hSi : ∀ k, j ≤ k → k < LN → _ := fun k h1 h2 => (hEb.cell (p := ⟨g, k * 16 + 6, none⟩) hg5).trans (HSP.out k h1 h2)
    have hEi := hE3.trans hEb
    have hgi := Nat.lt_of_lt_of_le hg5 hEb.size
    generalize W3.alloc (.cells #[.string { data := #[48, 47, 97] }, .string { data := #[48, 47, 98] }, .string { data := #[49, 47, 97, 91, 50, 93] }, .string { data := #[49, 47, 97, 91, 49, 48, 93] }, .string { data := #[48, 47, 97, 47, 99] }, .string { data := #[] }, .string { data := #[120] }, .string { data := #[50] }] 9) = Wi at *
    clear hL3 hW3 hEb hE3 HPI HSP HE2 HH2 hcq c0 z0
    have HSi := Lib.hid hSi
    have HEi := Lib.hid hEi
    have HGi := Lib.hid hgi
    obtain ⟨cs, h1, h2, h3⟩ := hHi
    rw [hl3] at h2
    have hxs : cs.flatten.length = LN * 16 := h2.1
    have h6s : cs.flatten[j * 16 + 6]? = some (.slice none 0 0) := by
      rw [← World.ownsRow.cellAt h2 (j * 16 + 6) (by omega)]
      exact hSi j (Nat.le_refl _) hlt
    have HR0 := Lib.hid (show Wi.ownsRow w.heap.size 38 16 (.slice (some ⟨g, 0, none⟩) LN C) LN (cs.flatten.set (j * 16 + 6) (.slice none 0 0)) by rw [set_same h6s]; exact h2)
    have HROW := Lib.hid h2
    have H1 := Lib.hid h1
    have H3 := Lib.hid h3
    obtain ⟨xs, hxs'⟩ : ∃ xs, xs = cs.flatten := ⟨_, rfl⟩
    rw [← hxs'] at HR0 HROW hxs
    have HXS := Lib.hid hxs'
    clear h1 h2 h3 h6s hxs' hSi hEi hgi
    go_wp2_with fail
    go_loopw [47] (fun i wr => ∃ (k : Nat) (aa : Option Addr) (mc : Nat), k ≤ cn ∧ i = .int .i64 (k : Int) ∧ Hid (Wi.grownBy wr (some g)) ∧ Hid (wr.ownsRow w.heap.size 38 16 (.slice (some ⟨g, 0, none⟩) LN C) LN (xs.set (j * 16 + 6) (.slice aa k mc))) ∧ Hid (OwnN 3 Wi.heap.size wr (.slice aa k mc) (someA x k)) ∧ Hid (Ext w wr)) (fun i _ => cn - (intOf i).toNat)
    case atStart => exact ⟨0, none, 0, by omega, rfl, Lib.hid (grown_ext (Ext.refl _) _), HR0, Lib.hid (OwnN.nil _ _ _), HEi⟩
    case round =>
      clear HR0 HEi
      obtain ⟨k, aa, mc, hk, rfl, HG, HRw, HO, HE⟩ := hrel
      by_cases hkc : k < cn
      case neg =>
        have hkk : k = cn := by omega
        have HX := Lib.hid (show HeldN 38 w.heap.size wr (.slice (some ⟨g, 0, none⟩) LN C) (L3.set j { L3[j]'hj3c with after := someA x cn }) by
          have := HeldN.afterR (W := wr) (base := w.heap.size) (eN := 38) (cap := C) H1.out H3.out hj3c (a := aa) (m := k) (c := mc) (af := someA x cn) (by rw [hl3, ← HXS.out]; exact HRw.out) HG.out (fun w' hw' => OwnN.row (World.ownsRow.kept (show OwnN 3 Wi.heap.size wr (.slice aa k mc) (someA x cn) by rw [← hkk]; exact HO.out) hw' (.inr (fun e => by have := (World.ownsRow.lt HO.out g e).1; have := HGi.out; omega))) (someA_i64 x cn))
          exact this.relen hl3)
        have HLx := Lib.hid (show L3.set j { L3[j]'hj3c with after := someA x cn } = chgTo (someG l) (forestF l) (j + 1) by
          rw [chgTo_succ _ _ _ hjF]
          have hat : (chgTo (someG l) (forestF l) j)[j] = (forestF l)[j] := chgTo_at _ _ _ _ hjF
          have e3 : L3[j]'hj3c = { L2[j]'hj2c with id := sI } := by simp only [HL3.out, List.getElem_set_self]
          have e2 : L2[j]'hj2c = { (chgTo (someG l) (forestF l) j)[j] with stand := UInt8.ofNat z, fails := fl } := by simp only [HL2.out, List.getElem_set_self]
          rw [e3, HL3.out, e2, HL2.out, List.set_set, List.set_set, hat]
          unfold someG
          rw [HXg.out, show (x / 4 % 8).toNat = q by have := HQ.out; omega, show (x / 16 % 8 % 7).toNat = z by have := HY.out; have := HZ.out; omega, show (x / 32 % 4).toNat = cn by have := HCN.out; omega, ← HFl2.out, ← HSI.out])
        have HX := Lib.hid (show HeldN 38 w.heap.size wr (.slice (some ⟨g, 0, none⟩) LN C) (chgTo (someG l) (forestF l) (j + 1)) by rw [← HLx.out]; exact HX.out)
        have HSn : Hid (∀ b, (some ⟨g, 0, none⟩ : Option Addr) = some ⟨b, 0, none⟩ → ∀ k', j + 1 ≤ k' → k' < LN → wr.cell? ⟨b, k' * 16 + 6, none⟩ = some (.slice none 0 0)) := Lib.hid (fun b hb k' h1 h2 => by
          injection hb with hb
          injection hb with hb
          subst hb
          exact six_row HROW.out HRw.out h2 (by omega) (HSi.out k' (by omega) h2))
        clear HG HRw HO
        go_wp2_with fail
        go_roundw
        case rel => exact ⟨j + 1, by omega, by go_num, HE, HX, HSn⟩
        case measure => simp [intOf]; omega
      obtain ⟨yk, hyk⟩ : ∃ yk, yk = x / 2 ^ k % 16 := ⟨_, rfl⟩
      have hyk2 : 0 ≤ yk ∧ yk ≤ 15 := by
        have h1 := Int.emod_nonneg (x / 2 ^ k) (show (16 : Int) ≠ 0 by decide)
        have h2 := Int.emod_lt_of_pos (x / 2 ^ k) (show (0 : Int) < 16 by decide)
        omega
      have b6 : bits BinOp.and IntKind.i64 (x / 2 ^ k) 15 = yk := by rw [and15, hyk]
      have b7 : IntKind.i64.wrap (yk - 1) = yk - 1 := IntWalk.i64_in _ (by omega)
      have hgw : g < wr.heap.size := (World.ownsRow.lt HRw.out g rfl).2
      have hgne : g ≠ wr.heap.size := by omega
      have HA := Lib.hid (show someA x (k + 1) = someA x k ++ [yk - 1] by rw [someA_succ, hyk]; simp)
      have hAl := someA_len x k
      clear hyk
      have hc6 : wr.cell? ⟨g, j * 16 + 6, none⟩ = some (.slice aa k mc) := by
        rw [World.ownsRow.cellAt HRw.out (j * 16 + 6) (by omega), List.getElem?_set_self (by omega)]
      have hf6 : wr.frozen? ⟨g, j * 16 + 6, none⟩ = false := World.ownsRow.frozenAt HRw.out _
      have hk0 : (0 : Int) ≤ (k : Int) := by omega
      have hk1 : (k : Int) < (cn : Int) := by omega
      go_upto_region 11 with (fail)
      refine wp_region_held_drew (S := fun _ => True) (by kernel_rfl) trivial (fun hHeld => ?_)
      refine take_w 0 (some 50) (v := ?_) (by kernel_rfl) (by kernel_rfl) (by kernel_rfl) (by kernel_rfl) (by kernel_rfl) (fun _ _ _ h => h) (by rfl) ?_ (by assumption) ?_
      rotate_left
      · (intro w hSw; go_simp; try with_reducible rfl)
      try simp only [Act.put, List.setIfInBounds_toArray, List.set_cons_zero, List.set_cons_succ]
      refine take_w 1 (some 51) (v := ?_) (by kernel_rfl) (by kernel_rfl) (by kernel_rfl) (by kernel_rfl) (by kernel_rfl) (fun _ _ _ h => h) (by rfl) ?_ (by assumption) ?_
      rotate_left
      · (intro w hSw; go_simp; try with_reducible rfl)
      try simp only [Act.put, List.setIfInBounds_toArray, List.set_cons_zero, List.set_cons_succ]
      refine take_w 2 (some 52) (v := ?_) (by kernel_rfl) (by kernel_rfl) (by kernel_rfl) (by kernel_rfl) (by kernel_rfl) (fun _ _ _ h => h) (by rfl) ?_ (by assumption) ?_
      rotate_left
      · (intro w hSw; go_simp; try with_reducible rfl)
      try simp only [Act.put, List.setIfInBounds_toArray, List.set_cons_zero, List.set_cons_succ]
      refine take_w 3 (some 53) (v := ?_) (by kernel_rfl) (by kernel_rfl) (by kernel_rfl) (by kernel_rfl) (by kernel_rfl) (fun _ _ _ h => h) (by rfl) ?_ (by assumption) ?_
      rotate_left
      · (intro w hSw; go_simp; try with_reducible rfl)
      try simp only [Act.put, List.setIfInBounds_toArray, List.set_cons_zero, List.set_cons_succ]
      refine take_w 4 (some 54) (v := ?_) (by kernel_rfl) (by kernel_rfl) (by kernel_rfl) (by kernel_rfl) (by kernel_rfl) (fun _ _ _ h => h) (by rfl) ?_ (by assumption) ?_
      rotate_left
      · (intro w hSw; go_simp; try with_reducible rfl)
      try simp only [Act.put, List.setIfInBounds_toArray, List.set_cons_zero, List.set_cons_succ]
      refine take_w 5 (some 55) (v := ?_) (by kernel_rfl) (by kernel_rfl) (by kernel_rfl) (by kernel_rfl) (by kernel_rfl) (fun _ _ _ h => h) (by rfl) ?_ (by assumption) ?_
      rotate_left
      · (intro w hSw; go_simp; try with_reducible rfl)
      try simp only [Act.put, List.setIfInBounds_toArray, List.set_cons_zero, List.set_cons_succ]
      refine take_w 7 (some 57) (v := ?_) (by kernel_rfl) (by kernel_rfl) (by kernel_rfl) (by kernel_rfl) (by kernel_rfl) (fun _ _ _ h => h) (by rfl) ?_ (by assumption) ?_
      rotate_left
      · (intro w hSw; go_simp; try with_reducible rfl)
      try simp only [Act.put, List.setIfInBounds_toArray, List.set_cons_zero, List.set_cons_succ]
      refine take_w 8 (some 58) (v := ?_) (by kernel_rfl) (by kernel_rfl) (by kernel_rfl) (by kernel_rfl) (by kernel_rfl) (fun _ _ _ h => h) (by rfl) ?_ (by assumption) ?_
      rotate_left
      · (intro w hSw; go_simp; try with_reducible rfl)
      try simp only [Act.put, List.setIfInBounds_toArray, List.set_cons_zero, List.set_cons_succ]
      refine take_w 9 (some 59) (v := ?_) (by kernel_rfl) (by kernel_rfl) (by kernel_rfl) (by kernel_rfl) (by kernel_rfl) (fun _ _ _ h => h) (by rfl) ?_ (by assumption) ?_
      rotate_left
      · (intro w hSw; go_simp; try with_reducible rfl)
      try simp only [Act.put, List.setIfInBounds_toArray, List.set_cons_zero, List.set_cons_succ]
      refine take_w 10 (some 60) (v := ?_) (by kernel_rfl) (by kernel_rfl) (by kernel_rfl) (by kernel_rfl) (by kernel_rfl) (fun _ _ _ h => h) (by rfl) ?_ (by assumption) ?_
      rotate_left
      · (intro w hSw; go_simp; try with_reducible rfl)
      try simp only [Act.put, List.setIfInBounds_toArray, List.set_cons_zero, List.set_cons_succ]
      refine take_w 11 (some 61) (v := ?_) (by kernel_rfl) (by kernel_rfl) (by kernel_rfl) (by kernel_rfl) (by kernel_rfl) (fun _ _ _ h => h) (by rfl) ?_ (by assumption) ?_
      rotate_left
      · (intro w hSw; go_simp; try with_reducible rfl)
      try simp only [Act.put, List.setIfInBounds_toArray, List.set_cons_zero, List.set_cons_succ]
      refine ready_two 6 12 (by kernel_rfl) (by kernel_rfl) (by kernel_rfl) (by rfl) (by rfl) (fun Kc hKc => ?_) (fun Kc hKc => ?_)
      case' refine_1 =>
        go_simp
        refine hKc.out _ _ trivial (fun _ => ?_)
        clear hKc Kc
        try simp only [Act.put, List.setIfInBounds_toArray, List.set_cons_zero, List.set_cons_succ]
        refine ready_one 12 (by kernel_rfl) (by kernel_rfl) (by rfl) (fun Kc hKc => ?_)
        go_simp
        refine hKc.out _ _ trivial (fun _ => ?_)
        clear hKc Kc
      case' refine_2 =>
        go_simp
        refine hKc.out _ _ trivial (fun _ => ?_)
        clear hKc Kc
        try simp only [Act.put, List.setIfInBounds_toArray, List.set_cons_zero, List.set_cons_succ]
        refine ready_one 6 (by kernel_rfl) (by kernel_rfl) (by rfl) (fun Kc hKc => ?_)
        go_simp
        refine hKc.out _ _ trivial (fun _ => ?_)
        clear hKc Kc
      all_goals
        try simp only [Act.put, List.setIfInBounds_toArray, List.set_cons_zero, List.set_cons_succ]
        have hEx : Ext wr ((wr.alloc (.cells #[.int .i64 (yk - 1)] 3)).drew) := ((Ext.refl wr).alloc _).drew
        have hOx := hEx.own HO.out
        have hRx := hEx.own HRw.out
        have hRg : ((wr.alloc (.cells #[.int .i64 (yk - 1)] 3)).drew).rangeAt wr.heap.size 0 [.int .i64 (yk - 1)] := (World.rangeAt_drew _ _ _ _).2 (rangeAt_new wr [.int .i64 (yk - 1)] 3)
        have hGx := grown_trans HG.out (grown_ext hEx (some g))
        have hEw := HE.out.trans hEx
        have hzx := hEx.size
        have hzw := HG.out.size
        generalize (wr.alloc (.cells #[.int .i64 (yk - 1)] 3)).drew = W5 at *
        have hsrc : Src Tryz.prog 1 22 (.slice (some ⟨wr.heap.size, 0, none⟩) 1 1) 1 [.int .i64 (yk - 1)] W5 := Src.ofSlice W5 Tryz.underlying22 _ _ _ _ (by simp) (fun j u hu => by rw [Addr.add_lit]; exact hRg j u hu) (by simp [Value.oneCell'])
        refine ready_one 13 (by kernel_rfl) (by kernel_rfl) (by rfl) (fun Kc hKc => ?_)
        refine wp_appendS (.tmp 56) (.tmp 62) 22 (by rfl) elemint_F Wi.heap.size (.slice aa k mc) k ((someA x k).map (Value.int .i64)) (by rfl) (by have := hOx; unfold OwnN at this; rw [hAl] at this; exact this) _ 1 [.int .i64 (yk - 1)] (by rfl) hsrc (by unfold maxLen; omega) (by omega) (by omega) ?_
        intro A5 C5 w6 hown hg6 hat
        refine hKc.out _ _ trivial (fun _ => ?_)
        clear hKc Kc
        have hnb : ∀ b, (Value.slice aa k mc).ownBlock = some b → Wi.heap.size ≤ b := fun b hb => (World.ownsRow.lt hOx b hb).1
        have hnb5 : ∀ b, (Value.slice A5 (k + 1) C5).ownBlock = some b → Wi.heap.size ≤ b := fun b hb => (World.ownsRow.lt hown b hb).1
        have hR6 := World.ownsRow.kept hRx hg6 (.inr (fun e => by have := hnb g e.symm; have := HGi.out; omega))
        have hG6 : Wi.grownBy w6 (some g) := grown_row' hGx hg6 hnb
        have hc6' : w6.cell? ⟨g, j * 16 + 6, none⟩ = some (.slice aa k mc) := by
          rw [World.ownsRow.cellAt hR6 (j * 16 + 6) (by omega), List.getElem?_set_self (by omega)]
        have hf6' : w6.frozen? ⟨g, j * 16 + 6, none⟩ = false := World.ownsRow.frozenAt hR6 _
        have hgs := setOne_grown w6 g (j * 16 + 6) (.slice A5 (k + 1) C5)
        have HGn := Lib.hid (grown_trans hG6 hgs)
        have HRn := Lib.hid (show (w6.setCell ⟨g, j * 16 + 6, none⟩ (.slice A5 (k + 1) C5)).ownsRow w.heap.size 38 16 (.slice (some ⟨g, 0, none⟩) LN C) LN (xs.set (j * 16 + 6) (.slice A5 (k + 1) C5)) by
          have := (hR6.stored (j * 16 + 6) (.slice A5 (k + 1) C5)).1
          rw [List.set_set] at this
          exact this)
        have HOn := Lib.hid (show OwnN 3 Wi.heap.size (w6.setCell ⟨g, j * 16 + 6, none⟩ (.slice A5 (k + 1) C5)) (.slice A5 (k + 1) C5) (someA x (k + 1)) from World.ownsRow.kept (by rw [HA.out]; simpa [hAl] using hown) hgs (.inr (fun e => by have := hnb5 g e; have := HGi.out; omega)))
        have HEn := Lib.hid (show Ext w (w6.setCell ⟨g, j * 16 + 6, none⟩ (.slice A5 (k + 1) C5)) from (hEw.grown hg6 (fun b hb => by have := hnb b hb; have := HG1.out; have := HGi.out; omega)).setCell (p := ⟨g, j * 16 + 6, none⟩) HG1.out _)
        clear hown hg6 hat hnb hnb5 hR6 hG6 hgs hOx hRx hRg hGx hEw hsrc hEx HG HRw HO HE hc6 hf6
        try simp only [Act.put, List.setIfInBounds_toArray]
        refine take_w 14 (some 64) (v := ?_) (by kernel_rfl) (by kernel_rfl) (by kernel_rfl) (by kernel_rfl) (by kernel_rfl) (fun _ _ _ h => h) (by rfl) ?_ (by assumption) ?_
        rotate_left
        · (intro w hSw; go_simp; try with_reducible rfl)
        try simp only [Act.put]
        refine take_w 15 (some 65) (v := ?_) (by kernel_rfl) (by kernel_rfl) (by kernel_rfl) (by kernel_rfl) (by kernel_rfl) (fun _ _ _ h => h) (by rfl) ?_ (by assumption) ?_
        rotate_left
        · (intro w hSw; go_simp; try with_reducible rfl)
        try simp only [Act.put]
        refine ready_one 16 (by kernel_rfl) (by kernel_rfl) (by rfl) (fun Kc hKc => ?_)
        go_simp
        refine hKc.out _ _ trivial (fun _ => ?_)
        clear hKc Kc
        try simp only [Act.put, List.setIfInBounds_toArray, List.set_cons_zero, List.set_cons_succ]
        refine wpAnyH_done (by kernel_rfl) ?_ _
        go_wp2_with fail
        go_roundw
        case rel => exact ⟨k + 1, A5, C5, by omega, by go_num, HGn, HRn, HOn, HEn⟩
        case measure => simp [intOf]; omega
end Go.Proofs.YtbciamploeejiaaGreatDoor

open Go.RowKit Go.Shelf
namespace Go.Proofs.YtbciamploeejiaaGreatDoor
open Go Go.Proofs Fm
attribute [local go_sem] Oper.semAt_some

def overO (l : List Nd) (a b : Int) : Bool := (upL l b).any (fun o => decide ((o : Int) = a))
/-- The rounds of Over. -/
def ORnd (w : World) (a : Int) (pre : List Nat) (W : World) : Prop := Ext w W ∧ w.heap.size + 4 ≤ W.heap.size ∧ BoxL W w.heap.size [.int .i64 a] ∧ BoxL W (w.heap.size + 1) [.bool false] ∧ ∀ o, o ∈ pre → (o : Int) ≠ a
theorem ORnd.own (w : World) (a : Int) : OwnFrom (w.heap.size + 4) (ORnd w a) := by
  rintro pre X Y row ⟨h1, h2, h3, h4, h5⟩ hg hr
  exact ⟨h1.grown hg (fun k e => by have := (hr k e).1; omega), Nat.le_trans h2 hg.size, h3.kept hg (fun e => by have := (hr _ e).1; omega), h4.kept hg (fun e => by have := (hr _ e).1; omega), h5⟩
theorem over_boxes (w : World) (a : Int) (s : Option Addr) (m c : Nat) (i : Int) (W : World) (hW : (((w.alloc (.cells #[.int .i64 a] 3)).alloc (.cells #[.bool false] 4)).alloc (.cells #[.slice s m c] 23)).alloc (.cells #[.int .i64 i] 3) = W) :
    W.heap.size = w.heap.size + 4 ∧ ORnd w a [] W ∧ W.cell? ⟨w.heap.size + 2, 0, none⟩ = some (.slice s m c) ∧ W.cell? ⟨w.heap.size + 3, 0, none⟩ = some (.int .i64 i) := by
  have b1 := BoxL.new w [.int .i64 a] 3
  have b2 := BoxL.new (w.alloc (.cells #[.int .i64 a] 3)) [.bool false] 4
  have b3 := BoxL.new ((w.alloc (.cells #[.int .i64 a] 3)).alloc (.cells #[.bool false] 4)) [.slice s m c] 23
  have b4 := BoxL.new (((w.alloc (.cells #[.int .i64 a] 3)).alloc (.cells #[.bool false] 4)).alloc (.cells #[.slice s m c] 23)) [.int .i64 i] 3
  have e1 := (Ext.refl w).alloc (.cells #[.int .i64 a] 3)
  have e2 := (Ext.refl (w.alloc (.cells #[.int .i64 a] 3))).alloc (.cells #[.bool false] 4)
  have e3 := (Ext.refl ((w.alloc (.cells #[.int .i64 a] 3)).alloc (.cells #[.bool false] 4))).alloc (.cells #[.slice s m c] 23)
  have e4 := (Ext.refl (((w.alloc (.cells #[.int .i64 a] 3)).alloc (.cells #[.bool false] 4)).alloc (.cells #[.slice s m c] 23))).alloc (.cells #[.int .i64 i] 3)
  simp only [World.size_alloc, Nat.add_assoc, Nat.reduceAdd] at b2 b3 b4
  subst hW
  refine ⟨by simp only [World.size_alloc], ⟨((e1.trans e2).trans e3).trans e4, by simp only [World.size_alloc]; omega, ((b1.ext e2).ext e3).ext e4, (b2.ext e3).ext e4, fun o ho => by cases ho⟩, ?_, ?_⟩
  · exact (b3.ext e4).cell 0 _ rfl
  · exact b4.cell 0 _ rfl
theorem over_leave {w W : World} {x : Bool} {D R : Nat} (tmps : Array Value) (h2 : tmps[6]?.getD undef = .pointer (some ⟨R, 0, none⟩)) (hE : Ext w W) (bR : BoxL W R [.bool x]) (hD : w.heap.size ≤ D) (hRD : R ≠ D) (hK : W.heap[D]? = some (.deferred (some []))) :
    bodyPostM Fence.wide 3 Tryz.prog Tryz.f19 (fun e w' => e = .returned (.bool x) ∧ Ext w w') .ret { tmps := tmps, defers := [{ target := .collected D, args := #[] }] } W := by
  refine ⟨by simp, .inl ⟨_, _, rfl, run_takeDeferred hK, ?_⟩⟩
  have hg := grownBy_putObj' W D (.deferred none)
  have e1 := bR.kept hg (fun e => by injection e with e; omega)
  have hP := hE.grown hg (fun k e => by injection e with e; omega)
  generalize W.putObj D (.deferred none) = W' at *
  have y0 := e1.cell 0 _ rfl
  exact ⟨_, by simp [results, Tryz.results19, go_sem, h2, y0], rfl, hP⟩
set_option maxRecDepth 100000 in
set_option maxHeartbeats 4000000 in
theorem over_any (nd : List Nd) (a i : Int) (hO : RightO nd) (w : World) (v : Value) (h : ndE.Row w nd v) :
    Calls Tryz.prog 19 #[v, .int .i64 a, .int .i64 i] w fun e w' => e = .returned (.bool (overO nd a i)) ∧ Ext w w' := by
  have hfn : ∀ f, Fence.wide.fn f := fun _ => trivial
  have hdp : Fence.wide.depth.isSome = false := rfl
  obtain ⟨s, c, rfl, hc1, hc2⟩ := h.slice
  have HR := Lib.hid h
  have HO := Lib.hid hO
  clear h hO
  refine (callsIn_wide (n := 3)).1 ?_
  refine callsIn_of_wp_marks Tryz.func19 rfl trivial ?_ rfl
  simp only [Tryz.ntmps19, List.size_toArray, List.length_cons, List.length_nil, Nat.reduceAdd, Nat.reduceSub, Array.replicate_succ, Array.replicate_zero, List.push_toArray, List.append_toArray, List.nil_append, List.cons_append]
  obtain ⟨W3, hW3⟩ : ∃ x, (((w.alloc (.cells #[.int .i64 a] 3)).alloc (.cells #[.bool false] 4)).alloc (.cells #[.slice s nd.length c] 23)).alloc (.cells #[.int .i64 i] 3) = x := ⟨_, rfl⟩
  obtain ⟨hz3, hD3, hL3, hI3⟩ := over_boxes w a s _ c i W3 hW3
  have HW3 := Lib.hid hW3
  clear hW3
  gi_wp2_with (gi_at_call 41; refine (callsIn_wide.2 (up_any s _ c i _)).mono ?_; rintro e w' ⟨rfl, rfl⟩)
  rw [HW3.out]
  simp only [Nat.add_assoc, Nat.reduceAdd]
  refine wpIn_rangeFunc_ab rfl (by decide) (gf := 54) (lb := #[.pointer (some ⟨w.heap.size + 2, 0, none⟩), .pointer (some ⟨w.heap.size + 3, 0, none⟩)]) rfl trivial (enters_of Tryz.func54 (by kernel_rfl) rfl)
    (up1_stops _ _ _ nd _ i HO.out w W3 HR.out hD3.1 (by omega) (by omega) hL3 hI3) (Below.refl _ _) (fun _ => rfl)
    (fun _ _ h => h.elim) (fun h k => h.trans k) (fun X l o o' hl ho hc => KpU.put X l o o' (by omega) (by omega) ho)
    (ORnd w a) (fun c _ X => c = .ret ∧ Ext w X ∧ BoxL X (w.heap.size + 1) [.bool true] ∧ overO nd a i = true) (by rw [hz3]; exact ORnd.own w a) (by rintro c pre X Y row ⟨h0, h1, h2, h3⟩ hg hr; exact ⟨h0, h1.grown hg (fun k e => by have := (hr k e).1; omega), h2.kept hg (fun e => by have := (hr _ e).1; omega), h3⟩) (fun _ _ _ _ h => h.elim) (fun _ _ _ _ _ h => h.elim) hD3
    (fun x => { tmps := #[.slice s nd.length c, .int .i64 a, .int .i64 i, undef, .pointer (some ⟨w.heap.size, 0, none⟩), undef, .pointer (some ⟨w.heap.size + 1, 0, none⟩), .int .i64 (x : Int), .slice s nd.length c, .int .i64 i, .func (.func 54) #[] #[.pointer (some ⟨w.heap.size + 2, 0, none⟩), .pointer (some ⟨w.heap.size + 3, 0, none⟩)], .int .i64 (x : Int), undef, undef, undef], defers := [] }) ?assign ?body ?done ?stop
  case assign =>
    intro l x W K hK
    gi_wp2
    exact hK
  case body =>
    rintro l pre x W ⟨hE, hz, hb1, hb2, hno⟩ ⟨post, hp⟩
    have c0 := hb1.cell 0 _ rfl
    have d0 := hb2.cell 0 _ rfl
    have d1 := hb2.free 0
    by_cases hx : (x : Int) = a
    · have ht : ((x : Int) == a) = true := by simp [hx]
      have HV := Lib.hid (show overO nd a i = true by unfold overO; rw [hp]; simp [hx])
      have HE := Lib.hid hE
      have HB := Lib.hid hb2
      clear hx hE hz hb1 hb2 hno hp hD3 hL3 hI3
      gi_wp2
      rw [hz3]
      refine ⟨KeepsFrom.of_grownBy (row := some (w.heap.size + 1)) (grown_setI W (w.heap.size + 1) 0 (.bool true)) (fun j e => by injection e with e; omega), rfl, HE.out.setCell (p := ⟨w.heap.size + 1, 0, none⟩) (Nat.le_succ _) _, ?_, HV.out⟩
      exact HB.out.set 0 (by simp) _
    · have ht : ((x : Int) == a) = false := by simp [hx]
      have HD := Lib.hid (show ORnd w a (pre ++ [x]) W from ⟨hE, hz, hb1, hb2, fun o ho => by
        rcases List.mem_append.1 ho with h | h
        · exact hno o h
        · rw [List.mem_singleton] at h; rw [h]; exact hx⟩)
      clear hx hE hz hb1 hb2 hno hp hD3 hL3 hI3
      gi_wp2
      rw [hz3]
      exact ⟨KeepsFrom.of_grownBy (row := none) ((Ext.refl W).grownBy) (fun j e => by cases e), ⟨Below.refl _ _, rfl⟩, HD.out⟩
  case done =>
    rintro D xs W hD rfl ⟨hE, hz, hb1, hb2, hno⟩ hK
    have c0 := hb2.cell 0 _ rfl
    have c1 := hb2.free 0
    have HX := Lib.hid (show overO nd a i = false by
      unfold overO
      rw [List.any_eq_false]
      intro o ho
      simpa using hno o ho)
    have HE := Lib.hid hE
    have HR2 := Lib.hid hb2
    have HK := Lib.hid hK
    rw [hz3] at hD
    clear hE hz hb1 hb2 hno hK hD3 hL3 hI3
    gi_wp2
    have hg := setOne_grown W (w.heap.size + 1) 0 (.bool false)
    refine over_leave (x := overO nd a i) _ rfl (HE.out.setCell (p := ⟨w.heap.size + 1, 0, none⟩) (Nat.le_succ _) _) ?_ (D := D) (by omega) (by omega) ?_
    · rw [HX.out]
      exact HR2.out.set 0 (by simp) _
    · exact (hg.block D (Array.getElem?_eq_some_iff.1 HK.out).1 (fun e => by injection e with e; omega)).trans HK.out
  case stop =>
    rintro D cd pre W hD - ⟨rfl, hE, bR, hv⟩ hK
    rw [hz3] at hD
    gi_wp2
    rw [hv]
    exact over_leave _ rfl hE bR (by omega) (by omega) hK
end Go.Proofs.YtbciamploeejiaaGreatDoor

namespace Fm
open Go Go.RowKit
theorem aheadF_nat {l : List Nd} {i k : Nat} (hi : i < l.length) (hk : k < l.length) : aheadF l (i : Int) (k : Int) = ltR (rankF l i) (rankF l k) := by
  unfold aheadF
  rw [show placeF l (i : Int) = true by unfold placeF; simp [hi], show placeF l (k : Int) = true by unfold placeF; simp [hk]]
  rfl
theorem readyN_len (l : List Nd) : ∀ n, (readyN l n).length ≤ n
  | 0 => by simp [readyN]
  | n + 1 => by
    have := readyN_len l n
    have hi : ∀ (out : List Nat), (insR l n out).length = out.length + 1 := fun out => by
      induction out with
      | nil => rfl
      | cons k out ih =>
        unfold insR
        split
        · rfl
        · rw [List.length_cons, ih, List.length_cons]
    unfold readyN
    split
    · rw [hi]; omega
    · omega
theorem allQ_len (l : List Nd) : (allQ l).length ≤ l.length := readyN_len l l.length
end Fm

namespace Fm
open Go Go.RowKit
/-- Whoever is in a chain is less deep. -/
theorem chain_less {l : List Nd} (hO : RightO l) : ∀ (i : Nat), i < l.length → ∀ o, o ∈ chainO l i → o < l.length ∧ (chainO l o).length < (chainO l i).length := by
  intro i
  induction i using Nat.strongRecOn with
  | ind i ih =>
    intro hi o ho
    obtain ⟨h1, h2, -⟩ := hO i hi
    by_cases h0 : 0 ≤ l[i].owner
    · have hq : ∃ q : Nat, (q : Int) = l[i].owner := ⟨l[i].owner.toNat, by omega⟩
      obtain ⟨q, hq⟩ := hq
      have hqi : q < i := by omega
      rw [chainO_some hO hi hq.symm] at ho ⊢
      rcases List.mem_cons.1 ho with rfl | h
      · exact ⟨by omega, by simp⟩
      · have := ih q hqi (by omega) o h
        exact ⟨this.1, by rw [List.length_cons]; omega⟩
    · rw [chainO_none hi (by omega)] at ho
      cases ho
theorem rank_fails {l : List Nd} {i k : Nat} (hi : i < l.length) (hk : k < l.length) (h : l[i].fails < l[k].fails) : aheadF l (i : Int) (k : Int) = true := by
  rw [aheadF_nat hi hk]
  refine ltR_fails ?_
  show (nthF l i).fails < (nthF l k).fails
  rw [nthF_at hi, nthF_at hk]
  exact h
theorem rank_deep {l : List Nd} {i k : Nat} (hi : i < l.length) (hk : k < l.length) (h : l[i].fails = l[k].fails) (h2 : deepF l (k : Int) < deepF l (i : Int)) : aheadF l (i : Int) (k : Int) = true := by
  rw [aheadF_nat hi hk]
  refine ltR_up ?_ ?_
  · show (nthF l i).fails = (nthF l k).fails
    rw [nthF_at hi, nthF_at hk]
    exact h
  · show -(deepF l (i : Int)) < -(deepF l (k : Int))
    omega
theorem deep_nat {l : List Nd} {i : Nat} (hi : i < l.length) : deepF l (i : Int) = ((chainO l i).length : Int) + 1 := by
  unfold deepF
  rw [show placeF l (i : Int) = true by unfold placeF; simp [hi], if_pos rfl, Int.toNat_natCast]
theorem nth_owner {l m : List Nd} (hlen : l.length = m.length) (ho : ∀ (k : Nat) (h1 : k < l.length) (h2 : k < m.length), m[k].owner = l[k].owner) (k : Int) : (nthF m k).owner = (nthF l k).owner := by
  unfold nthF
  rw [List.getD_eq_getElem?_getD, List.getD_eq_getElem?_getD]
  by_cases hi : k.toNat < l.length
  · have hi' : k.toNat < m.length := by omega
    rw [List.getElem?_eq_getElem hi, List.getElem?_eq_getElem hi']
    exact ho _ hi hi'
  · rw [List.getElem?_eq_none (by omega), List.getElem?_eq_none (by omega)]
theorem chain_alike {l m : List Nd} (ho : ∀ k : Int, (nthF m k).owner = (nthF l k).owner) : ∀ (f i : Nat), chainOn f m i = chainOn f l i
  | 0, _ => rfl
  | f + 1, i => by
    unfold chainOn
    rw [ho]
    split
    · rw [chain_alike ho f]
    · rfl
theorem deep_alike {l m : List Nd} (hlen : l.length = m.length) (ho : ∀ (k : Nat) (h1 : k < l.length) (h2 : k < m.length), m[k].owner = l[k].owner) (k : Int) : deepF m k = deepF l k := by
  unfold deepF chainO
  rw [chain_alike (nth_owner hlen ho), show placeF m k = placeF l k by unfold placeF; rw [hlen]]
theorem right_alike {l m : List Nd} (hlen : l.length = m.length) (ho : ∀ (k : Nat) (h1 : k < l.length) (h2 : k < m.length), m[k].owner = l[k].owner ∧ m[k].flow = l[k].flow) (h : RightO l) : RightO m := by
  intro i hi
  have hi' : i < l.length := by omega
  obtain ⟨h1, h2, h3⟩ := h i hi'
  rw [(ho i hi' hi).1, (ho i hi' hi).2]
  refine ⟨h1, h2, fun j hj hjl => ?_⟩
  rw [(ho j (by omega) hjl).2]
  exact h3 j hj (by omega)
/-- One of them runs now. -/
def runAt (l : List Nd) (i : Nat) (hi : i < l.length) : List Nd := l.set i { l[i] with stand := 2 }
theorem runAt_len {l : List Nd} {i : Nat} (hi : i < l.length) : (runAt l i hi).length = l.length := by unfold runAt; rw [List.length_set]
theorem runAt_get {l : List Nd} {i : Nat} (hi : i < l.length) (k : Nat) (hk : k < l.length) (hk2 : k < (runAt l i hi).length) : (runAt l i hi)[k] = if i = k then { l[i] with stand := 2 } else l[k] := by
  show (l.set i { l[i] with stand := 2 })[k]'(by simpa [runAt] using hk2) = _
  rw [List.getElem_set]
theorem runAt_owner {l : List Nd} {i : Nat} (hi : i < l.length) (k : Nat) (h1 : k < l.length) (h2 : k < (runAt l i hi).length) : (runAt l i hi)[k].owner = l[k].owner ∧ (runAt l i hi)[k].flow = l[k].flow ∧ (runAt l i hi)[k].fails = l[k].fails ∧ (runAt l i hi)[k].id = l[k].id := by
  rw [runAt_get hi k h1]
  by_cases e : i = k
  · subst e
    rw [if_pos rfl]
    exact ⟨rfl, rfl, rfl, rfl⟩
  · rw [if_neg e]
    exact ⟨rfl, rfl, rfl, rfl⟩
theorem runAt_right {l : List Nd} {i : Nat} (hi : i < l.length) (h : RightO l) : RightO (runAt l i hi) :=
  right_alike (runAt_len hi).symm (fun k h1 h2 => ⟨(runAt_owner hi k h1 h2).1, (runAt_owner hi k h1 h2).2.1⟩) h
theorem runAt_all {l : List Nd} {i : Nat} (hi : i < l.length) : allQ (runAt l i hi) = (allQ l).filter (fun x => decide (x ≠ i)) := by
  refine allQ_less (runAt_len hi).symm (fun k hk => ?_) (fun k hk => ?_)
  · have hk2 : k < (runAt l i hi).length := by rw [runAt_len]; exact hk
    have ho := runAt_owner hi k hk hk2
    unfold rankF
    rw [nthF_at hk, nthF_at hk2, ho.2.2.1, ho.2.2.2, deep_alike (runAt_len hi).symm (fun k h1 h2 => (runAt_owner hi k h1 h2).1)]
  · have hk2 : k < (runAt l i hi).length := by rw [runAt_len]; exact hk
    unfold readyB
    rw [nthF_at hk, nthF_at hk2, runAt_get hi k hk]
    by_cases e : i = k
    · subst e
      rw [if_pos rfl]
      simp
    · rw [if_neg e]
      have : ¬ k = i := fun h => e h.symm
      simp [this]
/-- Those of the first j that are not i: where one has come to in what is left. -/
def cntQ (l : List Nat) (i j : Nat) : Nat := ((l.take j).filter (fun x => decide (x ≠ i))).length
theorem cntQ_same {l : List Nat} {i j : Nat} (hj : j < l.length) (h : l[j] = i) : cntQ l i (j + 1) = cntQ l i j := by
  unfold cntQ
  rw [List.take_add_one, List.getElem?_eq_getElem hj, List.filter_append]
  simp [h]
theorem cntQ_next {l : List Nat} {i j : Nat} (hj : j < l.length) (h : l[j] ≠ i) : cntQ l i (j + 1) = cntQ l i j + 1 ∧ ∃ h2 : cntQ l i j < (l.filter (fun x => decide (x ≠ i))).length, (l.filter (fun x => decide (x ≠ i)))[cntQ l i j] = l[j] := by
  have e : l.filter (fun x => decide (x ≠ i)) = (l.take j).filter (fun x => decide (x ≠ i)) ++ (l[j] :: (l.drop (j + 1)).filter (fun x => decide (x ≠ i))) := by
    rw [← List.filter_cons_of_pos (l := l.drop (j + 1)) (p := fun x => decide (x ≠ i)) (by simpa using h), ← List.filter_append, ← List.drop_eq_getElem_cons hj, List.take_append_drop]
  refine ⟨?_, ?_⟩
  · unfold cntQ
    rw [List.take_add_one, List.getElem?_eq_getElem hj, List.filter_append]
    simp [h]
  · have hl : cntQ l i j < (l.filter (fun x => decide (x ≠ i))).length := by
      rw [e, List.length_append, List.length_cons]
      unfold cntQ
      omega
    refine ⟨hl, ?_⟩
    rw [List.getElem_of_eq e, List.getElem_append_right (by unfold cntQ; omega)]
    simp [cntQ]
theorem cntQ_all (l : List Nat) (i : Nat) : cntQ l i l.length = (l.filter (fun x => decide (x ≠ i))).length := by unfold cntQ; rw [List.take_length]
end Fm
