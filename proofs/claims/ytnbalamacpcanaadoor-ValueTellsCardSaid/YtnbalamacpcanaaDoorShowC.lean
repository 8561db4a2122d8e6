/- Walks: show, Show. -/
import Derived.Test.YtnbalamacpcanaaDoorShowB
open Go.RowKit Go.Shelf
namespace Go.Proofs.YtnbalamacpcanaaDoor
open Go Go.Proofs Fm

theorem escB_ge : ∀ s : List UInt8, s.length ≤ (escB s).length
  | [] => by simp
  | c :: s => by
    have h1 : 1 ≤ (escC c).length := by unfold escC; split <;> simp
    have h2 := escB_ge s
    have e : escB (c :: s) = escC c ++ escB s := by simp [escB]
    rw [e, List.length_append, List.length_cons]; omega

set_option maxRecDepth 100000 in
set_option maxHeartbeats 4000000 in
theorem show_any (t : Tr) : ∀ (w0 w : World) (B b : Nat) (xs : List UInt8) (v : Value), Ext w0 w → w0.heap.size ≤ B → B ≤ w.heap.size → Tab w0 → Bld B b xs w → Lies w0 t v → xs.length + (showT t).length ≤ 1000000000 →
    Calls Tryd.prog 71 #[.pointer (some ⟨b, 0, none⟩), v] w (WrotePost B b (xs ++ showT t) w (.tuple #[])) := by
  induction t using Tr.ind with
  | h k n s l ih =>
  intro w0 w B b xs v hE hwB hB hT hb hv hlen
  obtain ⟨d, rfl, hn, hs, hl⟩ := hv.parts
  have ⟨a, cap, hd, h1, h2, h3, C, h4, h5⟩ := hl
  subst hd
  rw [showT_node] at hlen ⊢
  by_cases hk0 : k = 0
  · rw [if_pos hk0]
    subst hk0
    exact show_num hE hB hT hb n hn (str s) a l.length cap (by omega)
  rw [if_neg hk0] at hlen ⊢
  by_cases hk1 : k = 1
  · rw [if_pos hk1] at hlen ⊢
    subst hk1
    have := escB_ge s
    simp at hlen
    exact show_text hB hb n s a l.length cap (by omega) (by omega)
  rw [if_neg hk1] at hlen ⊢
  have IH := Lib.hid ih
  have H4 := Lib.hid h4; have H5 := Lib.hid h5
  have hll : l.length ≤ 9223372036854775807 := by unfold maxLen at h2; omega
  have e0 := u8_eq k 0
  have e1 := u8_eq k 1
  rw [show ((0 : UInt8).toNat : Int) = 0 from rfl] at e0
  rw [show ((1 : UInt8).toNat : Int) = 1 from rfl] at e1
  have f0 : ((k.toNat : Int) == 0) = false := by rw [e0]; simpa using hk0
  have f1 : ((k.toNat : Int) == 1) = false := by rw [e1]; simpa using hk1
  have HL : Hid (xs.length + (91 :: (showL l ++ [93])).length ≤ 1000000000) := hlen
  have hxl : xs.length ≤ 1000000000 := by omega
  clear h1 h2 h3 h4 h5 hl hn hv hs ih e0 e1 hk0 hk1 hlen
  generalize (k.toNat : Int) = K at *
  have HB := Lib.hid hb
  have hbl := hb.lt.2
  have hap := hb.apart (.cells #[.int .u8 K, .int .i64 n, .string (str s), .slice a l.length cap] 24)
  have HT := Lib.hid hT
  have HE := Lib.hid hE
  clear hb hT hE
  go_enter Tryd.func71, Tryd.ntmps71
  go_wp2_with fail
  have hE1 := (Ext.refl w).alloc (.cells #[.int .u8 K, .int .i64 n, .string (str s), .slice a l.length cap] 24)
  have hb1 := Box4.new w (.int .u8 K) (.int .i64 n) (.string (str s)) (.slice a l.length cap)
  refine (wbyte_lit (HB.out.ext hE1) 91 91 rfl (by omega) (Nat.le_trans hB hE1.size)).mono ?_
  intro e w2 hw
  have hb2 := hap.box hw.2.2.2 hb1
  have hw2 := hw.of hE1 hB hbl
  obtain ⟨rfl, -, -, -⟩ := hw
  obtain ⟨-, hu2, hB2, hK2⟩ := hw2
  obtain ⟨p0, p1, p2, p3⟩ := hb2.cells
  have HU2 := Lib.hid hu2
  have HK2 := Lib.hid hK2
  clear hE1 hb1 hap hb2 hu2 hK2
  go_wp2_with fail
  go_loopw [15] (fun i wr => ∃ j : Nat, j ≤ l.length ∧ i = .int .i64 j ∧ Hid (BldU B b (xs ++ 91 :: showL (l.take j)) wr) ∧ Below B w wr ∧ Hid (Keep b w wr)) (fun i _ => l.length - (intOf i).toNat)
  case atStart => exact ⟨0, by omega, rfl, HU2, hB2, HK2⟩
  case round =>
    obtain ⟨j, hj, rfl, HU, hBw, HK⟩ := hrel
    clear HU2 HK2 p0 p1 p2 p3 hB2
    have hBr : B ≤ wr.heap.size := Nat.le_trans hB hBw.size
    have hE0 := HE.out.then (hBw.mono hwB)
    have hsl := showL_take_le l j
    by_cases hlt : j < l.length
    · obtain ⟨bb, off, rfl, hbb, hc⟩ := H4.out (by omega)
      obtain ⟨k0, n0, s0, a0, m0, c0, e0, e1, e2, e3, hx⟩ := elem4o hE0 hbb hc H5.out j hlt
      have hat := showL_at l j hlt
      have hsl2 := showL_take_le l (j + 1)
      have hlen2 : xs.length + (91 :: showL (l.take j)).length + (if j = 0 then ([] : List UInt8) else [44]).length + (showT l[j]).length ≤ 1000000000 := by
        have := HL.out
        rw [hat] at hsl2
        simp only [List.length_append, List.length_cons] at *
        omega
      have hap := HU.out.apart (.cells #[.int .u8 k0, .int .i64 n0, .string s0, .slice a0 m0 c0] 24)
      have hE1 := (Ext.refl wr).alloc (.cells #[.int .u8 k0, .int .i64 n0, .string s0, .slice a0 m0 c0] 24)
      have hb1 := Box4.new wr (.int .u8 k0) (.int .i64 n0) (.string s0) (.slice a0 m0 c0)
      have IHj := Lib.hid (IH.out l[j] (List.getElem_mem hlt))
      have Hx := Lib.hid hx
      have hj0 : (0 : Int) ≤ (j : Int) := by omega
      have hj1 : (j : Int) < (l.length : Int) := by omega
      clear hx hc
      by_cases hj00 : j = 0
      · have hjz : ¬ (0 : Int) < (j : Int) := by omega
        rw [if_pos hj00] at hat hlen2
        have HAT : Hid (xs ++ 91 :: showL (l.take (j + 1)) = (xs ++ 91 :: showL (l.take j)) ++ showT l[j]) := Lib.hid (by rw [hat]; simp)
        clear hat hj00
        go_wp2_with fail
        refine (IHj.out w0 _ B b _ _ (hE0.trans hE1) hwB (Nat.le_trans hBr hE1.size) HT.out (HU.out.ext hE1).bld Hx.out (by simp at hlen2 ⊢; omega)).mono ?_
        intro e w4 hw
        have hw2 := hw.of hE1 hBr HU.out.lt.2
        obtain ⟨rfl, -, -, -⟩ := hw
        obtain ⟨-, hu4, hB4, hK4⟩ := hw2
        have HU4 : Hid (BldU B b (xs ++ 91 :: showL (l.take (j + 1))) w4) := Lib.hid (by rw [HAT.out]; exact hu4)
        have hB5 := hBw.trans hB4
        have HK5 := Lib.hid (HK.out.trans hK4)
        clear hu4 hB4 hK4 hBw HK HU HAT hBr hE1 hb1 hap IHj Hx e0 e1 e2 e3 hE0
        go_wp2
        go_roundw
        case rel => exact ⟨j + 1, by omega, by go_num, HU4, hB5, HK5⟩
        case measure => simp [intOf]; omega
      · have hjp : (0 : Int) < (j : Int) := by omega
        rw [if_neg hj00] at hat hlen2
        have HAT : Hid (xs ++ 91 :: showL (l.take (j + 1)) = (xs ++ 91 :: showL (l.take j)) ++ [44] ++ showT l[j]) := Lib.hid (by rw [hat]; simp)
        clear hat
        go_wp2_with fail
        refine (wbyte_lit (HU.out.ext hE1).bld 44 44 rfl (by simp at hlen2 ⊢; omega) (Nat.le_trans hBr hE1.size)).mono ?_
        intro e w3 hw
        have hb3 := hap.box hw.2.2.2 hb1
        have hw2 := hw.of hE1 hBr HU.out.lt.2
        obtain ⟨rfl, -, -, -⟩ := hw
        obtain ⟨-, hu3, hB3, hK3⟩ := hw2
        obtain ⟨q0, q1, q2, q3⟩ := hb3.cells
        have hBr3 : B ≤ w3.heap.size := Nat.le_trans hBr hB3.size
        have hE3 := HE.out.then ((hBw.trans hB3).mono hwB)
        clear hE1 hb1 hap hb3
        go_wp2_with fail
        refine (IHj.out w0 _ B b _ _ hE3 hwB hBr3 HT.out hu3.bld Hx.out (by simp at hlen2 ⊢; omega)).mono ?_
        rintro e w4 ⟨rfl, hu4, hB4, hK4⟩
        have HU4 : Hid (BldU B b (xs ++ 91 :: showL (l.take (j + 1))) w4) := Lib.hid (by rw [HAT.out]; exact hu4)
        have hB5 := hBw.trans (hB3.trans hB4)
        have HK5 := Lib.hid (HK.out.trans (hK3.trans hK4))
        clear hu4 hB4 hK4 hBw HK HU HAT hBr IHj Hx e0 e1 e2 e3 hE0 q0 q1 q2 q3 hu3 hB3 hK3 hBr3 hE3
        go_wp2
        go_roundw
        case rel => exact ⟨j + 1, by omega, by go_num, HU4, hB5, HK5⟩
        case measure => simp [intOf]; omega
    · obtain rfl : j = l.length := by omega
      have hU := HU.out
      rw [List.take_length] at hU
      have hll2 : (xs ++ 91 :: showL l).length ≤ 1000000000000 := by have := HL.out; simp at this ⊢; omega
      clear H4
      go_wp2_with fail
      refine (wbyte_lit hU.bld 93 93 rfl hll2 hBr).mono ?_
      rintro e w4 ⟨rfl, hu4, hB4, hK4⟩
      have HX : Hid (WrotePost B b (xs ++ 91 :: (showL l ++ [93])) w (.tuple #[]) (.returned (.tuple #[])) w4) := Lib.hid ⟨rfl, by simpa using hu4, hBw.trans hB4, HK.out.trans hK4⟩
      clear hu4 hB4 hK4 hBw HK HU hU hBr
      go_wp2
      go_end0
      exact HX.out

set_option maxRecDepth 100000 in
set_option maxHeartbeats 4000000 in
theorem vshow_any (t : Tr) (w : World) (v : Value) (hT : Tab w) (hv : Lies w t v) (hlen : (showT t).length ≤ 1000000000) :
    Calls Tryd.prog 26 #[v] w fun e w' => e = .returned (.string (str (showT t))) ∧ Ext w w' := by
  have HV := Lib.hid hv
  have HT := Lib.hid hT
  have HLN := Lib.hid hlen
  cases t with
  | node k n s l =>
  obtain ⟨d, rfl, -, -, a, cap, rfl, -⟩ := hv.parts
  clear hv hT hlen
  generalize (k.toNat : Int) = K at *
  generalize l.length = ll at *
  go_enter Tryd.func26, Tryd.ntmps26
  go_wp2_with fail
  have hE1 : Ext w ((w.alloc (.cells #[.int .u8 K, .int .i64 n, .string (str s), .slice a ll cap] 24)).alloc (.cells #[.pointer none, .slice none 0 0] 107)) := ((Ext.refl w).alloc _).alloc _
  have hfb := Lib.fresh_isBuilder 107 5 (w.alloc (.cells #[.int .u8 K, .int .i64 n, .string (str s), .slice a ll cap] 24))
  have hz1 : (w.alloc (.cells #[.int .u8 K, .int .i64 n, .string (str s), .slice a ll cap] 24)).heap.size = w.heap.size + 1 := by simp
  rw [hz1] at hfb
  have hB1 : Bld (w.heap.size + 1) (w.heap.size + 1) [] ((w.alloc (.cells #[.int .u8 K, .int .i64 n, .string (str s), .slice a ll cap] 24)).alloc (.cells #[.pointer none, .slice none 0 0] 107)) := hfb
  refine (show_any _ w _ _ _ [] _ hE1 (by omega) (by have := hB1.lt; omega) HT.out hB1 HV.out (by have := HLN.out; simpa using this)).mono ?_
  rintro e w2 ⟨rfl, hu, hB, hK⟩
  have hE2 := hE1.then (hB.mono (by omega))
  clear hK hfb hz1
  go_wp2_with fail
  refine (bstring_any hu.bld (by have := hu.lt; omega)).mono ?_
  rintro e w3 ⟨rfl, hB3⟩
  have hE3 := hE2.then (hB3.mono (show w.heap.size ≤ w.heap.size + 1 by omega))
  clear hu hB hB3 hE2 hB1
  go_wp2
  go_ret
  exact ⟨rfl, hE3⟩
end Go.Proofs.YtnbalamacpcanaaDoor
