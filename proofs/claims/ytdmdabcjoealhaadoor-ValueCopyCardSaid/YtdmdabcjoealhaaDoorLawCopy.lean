/- ValueCopy answers true at every input. -/
import Derived.Test.YtdmdabcjoealhaaDoorAwakeA
import Derived.Test.YtdmdabcjoealhaaDoorChange
open Go.RowKit Go.Shelf
namespace Go.Proofs.YtdmdabcjoealhaaDoor
open Go Go.Proofs Fm

theorem spot_of_own {W : World} {base b kb : Nat} {t : Tr} {c0 c1 c2 c3 : Value} {F : Nat → Prop} {c : Int} (hO : Owns 25 W base t (.agg #[c0, c1, c2, c3]) F) (hb : Box4 W b c0 c1 c2 c3) (hnb : ¬ F b) (hnk : ¬ F kb) (hbk : b ≠ kb)
    (hck : W.cell? ⟨kb, 0, none⟩ = some (.int .i64 c)) (hfk : W.frozen? ⟨kb, 0, none⟩ = false) : ∃ k n s l d, t = .node k n s l ∧ Spot 25 W base b 0 kb c k n s l d F := by
  obtain ⟨k, n, s, l⟩ := t
  obtain ⟨d, hd, hn, hs, hr⟩ := hO.parts
  injection hd with hd
  injection hd with hd
  injection hd with e0 hd
  injection hd with e1 hd
  injection hd with e2 hd
  injection hd with e3 hd
  subst e0 e1 e2 e3
  obtain ⟨p0, p1, p2, p3⟩ := hb.cells
  exact ⟨k, n, s, l, _, rfl, ⟨p0, p1, p2, p3, hb.frozen.2.1, hn, hs, hr, hnb, hnk, hbk, hck, hfk⟩⟩
theorem changed_ext {w W w' : World} {b kb : Nat} {t : Tr} {F : Nat → Prop} (hE : Ext w W) (hc : Changed W b 0 kb t F w') (hF : ∀ g, F g → w.heap.size ≤ g) (hb : w.heap.size ≤ b) (hk : w.heap.size ≤ kb) : Ext w w' :=
  have hz := hE.size
  ⟨hc.2.2.2.1.trans hE.os, hc.2.2.2.2.1.trans hE.tape, hc.2.2.2.2.2.1.trans hE.output, Nat.le_trans hE.size hc.2.2.2.2.2.2,
    fun g hg => (hc.2.1 g (by omega) (fun h => by have := hF g h; omega) (by omega) (by omega)).trans (hE.block g hg)⟩
theorem changed_box {W w' : World} {b kb g : Nat} {t : Tr} {F : Nat → Prop} {c0 c1 c2 c3 : Value} (hc : Changed W b 0 kb t F w') (h : Box4 W g c0 c1 c2 c3) (hF : ¬ F g) (hgb : g ≠ b) (hgk : g ≠ kb) : Box4 w' g c0 c1 c2 c3 :=
  (hc.2.1 g h.lt hF hgb hgk).trans h
theorem changed_own {e : TypeId} {W w' : World} {b kb base : Nat} {t t2 : Tr} {v : Value} {F F2 : Nat → Prop} (hc : Changed W b 0 kb t F w') (h : Owns e W base t2 v F2) (hd : ∀ g, F2 g → ¬ F g ∧ g ≠ b ∧ g ≠ kb) : Owns e w' base t2 v F2 :=
  h.kept fun g hg => hc.2.1 g (h.bounds g hg).2 (hd g hg).1 (hd g hg).2.1 (hd g hg).2.2

set_option maxRecDepth 100000 in
set_option maxHeartbeats 4000000 in
theorem valueCopy_any (w : World) (t : Tr) (v : Value) (hv : Lies w t v) (at_ : Int) (h0 : 0 ≤ at_) (h1 : at_ ≤ 65535) (hT : Tab w) :
    Calls Tryd.prog 7 #[v, .int .u16 at_] w fun e w' => e = .returned (.bool true) ∧ Ext w w' := by
  have HT := Lib.hid hT
  have HV := Lib.hid hv
  have HFW := Lib.hid (fewT_light 20 t)
  have hvp : ∃ (k : Int) (n : Int) (s : ByteArray) (a : Option Addr) (m c : Nat), v = .agg #[.int .u8 k, .int .i64 n, .string s, .slice a m c] := by
    obtain ⟨k, n, s, l⟩ := t
    obtain ⟨dd, rfl, hn, hs, hl⟩ := hv.parts
    obtain ⟨a, cap, rfl, _⟩ := hl
    exact ⟨_, _, _, _, _, _, rfl⟩
  clear hT hv
  obtain ⟨k, n, s, ad, md, cd, rfl⟩ := hvp
  go_enter Tryd.func7, Tryd.ntmps7
  go_wp2_with fail
  have hE0 := (Ext.refl w).alloc (.cells #[.int .u8 k, .int .i64 n, .string s, .slice ad md cd] 25)
  have hb0 : Box4 (w.alloc (.cells #[.int .u8 k, .int .i64 n, .string s, .slice ad md cd] 25)) w.heap.size (.int .u8 k) (.int .i64 n) (.string s) (.slice ad md cd) := Box4.new w _ _ _ _
  change Calls _ _ _ (w.alloc (.cells #[.int .u8 k, .int .i64 n, .string s, .slice ad md cd] 25)) _
  generalize w.alloc (.cells #[.int .u8 k, .int .i64 n, .string s, .slice ad md cd] 25) = W0 at *
  refine (Few_any t W0 _ (HV.out.ext hE0)).mono ?_
  rintro e w1 ⟨rfl, hE1⟩
  have HE1 := Lib.hid (hE0.trans hE1)
  have HB1 := Lib.hid (hb0.ext hE1)
  obtain ⟨p0, p1, p2, p3⟩ := HB1.out.cells
  clear hE0 hb0 hE1
  by_cases hf : fewT 20 t ≤ 600
  · have hfd : decide (fewT 20 t ≤ 600) = true := decide_eq_true hf
    obtain ⟨hpt, hdt⟩ := HFW.out hf
    have hpt6 : partsT t ≤ 600 := by omega
    rw [hfd]
    clear hfd hf hpt hdt HFW
    go_wp2_with fail
    refine (copy_any t w1 _ (HV.out.ext HE1.out) (by omega)).mono ?_
    rintro e w2 ⟨v1, rfl, hE2, hO1⟩
    obtain ⟨k1, n1, s1, a1, m1, c1, rfl⟩ := ownT_four hO1
    have HE2 := Lib.hid (HE1.out.trans hE2)
    have HB2 := Lib.hid (HB1.out.ext hE2)
    obtain ⟨F1, hO1⟩ := hO1
    have HO1 := Lib.hid hO1
    have HF1 := Lib.hid hO1.bounds
    have hlt1 := HB1.out.lt
    clear hE2 hO1 p0 p1 p2 p3
    go_wp2_with fail
    have hE2a := HE2.out.alloc (.cells #[.int .u8 k1, .int .i64 n1, .string s1, .slice a1 m1 c1] 25)
    have hx2 := (Ext.refl w2).alloc (.cells #[.int .u8 k1, .int .i64 n1, .string s1, .slice a1 m1 c1] 25)
    have hb2 : Box4 (w2.alloc (.cells #[.int .u8 k1, .int .i64 n1, .string s1, .slice a1 m1 c1] 25)) w2.heap.size (.int .u8 k1) (.int .i64 n1) (.string s1) (.slice a1 m1 c1) := Box4.new w2 _ _ _ _
    have hz2 : (w2.alloc (.cells #[.int .u8 k1, .int .i64 n1, .string s1, .slice a1 m1 c1] 25)).heap.size = w2.heap.size + 1 := by simp
    have hlt2 := HB2.out.lt
    generalize w2.alloc (.cells #[.int .u8 k1, .int .i64 n1, .string s1, .slice a1 m1 c1] 25) = W2 at *
    refine (copy_any t W2 _ (HO1.out.ext hx2).lies (by omega)).mono ?_
    rintro e w3 ⟨v2, rfl, hE3, hO2⟩
    obtain ⟨k2, n2, s2, a2, m2, c2, rfl⟩ := ownT_four hO2
    have HE3 := Lib.hid (hE2a.trans hE3)
    have HB3 := Lib.hid ((HB2.out.ext hx2).ext hE3)
    have HC3 := Lib.hid (hb2.ext hE3)
    have HO1b := Lib.hid (HO1.out.ext (hx2.trans hE3))
    obtain ⟨F2, hO2⟩ := hO2
    have HO2 := Lib.hid hO2
    have HF2 := Lib.hid hO2.bounds
    have hlt3 := HC3.out.lt
    have hz3 := hE3.size
    clear hE2a hx2 hb2 hE3 hO2
    go_wp2_with fail
    have HE3a := Lib.hid (HE3.out.alloc (.cells #[.int .u8 k2, .int .i64 n2, .string s2, .slice a2 m2 c2] 25))
    have hx3 := (Ext.refl w3).alloc (.cells #[.int .u8 k2, .int .i64 n2, .string s2, .slice a2 m2 c2] 25)
    have hb3 : Box4 (w3.alloc (.cells #[.int .u8 k2, .int .i64 n2, .string s2, .slice a2 m2 c2] 25)) w3.heap.size (.int .u8 k2) (.int .i64 n2) (.string s2) (.slice a2 m2 c2) := Box4.new w3 _ _ _ _
    have hz3b : (w3.alloc (.cells #[.int .u8 k2, .int .i64 n2, .string s2, .slice a2 m2 c2] 25)).heap.size = w3.heap.size + 1 := by simp
    generalize w3.alloc (.cells #[.int .u8 k2, .int .i64 n2, .string s2, .slice a2 m2 c2] 25) = W3 at *
    have hB3 := HB3.out.ext hx3
    have hC3 := HC3.out.ext hx3
    have hD3 := hb3
    have hO1c := HO1b.out.ext hx3
    have hO2c := HO2.out.ext hx3
    clear HB3 HC3 HO1b HO2 hb3 hx3 HO1 HB2 HE2 HB1 HE1 HE3
    have HS : Hid (∀ w', Ext W3 w' → (w'.cell? ⟨w.heap.size, 0, none⟩ = some (.int .u8 k) ∧ w'.cell? ⟨w.heap.size, 1, none⟩ = some (.int .i64 n) ∧ w'.cell? ⟨w.heap.size, 2, none⟩ = some (.string s) ∧ w'.cell? ⟨w.heap.size, 3, none⟩ = some (.slice ad md cd) ∧ w'.cell? ⟨w2.heap.size, 0, none⟩ = some (.int .u8 k1) ∧ w'.cell? ⟨w2.heap.size, 1, none⟩ = some (.int .i64 n1) ∧ w'.cell? ⟨w2.heap.size, 2, none⟩ = some (.string s1) ∧ w'.cell? ⟨w2.heap.size, 3, none⟩ = some (.slice a1 m1 c1))) := Lib.hid (fun w' h => by
      obtain ⟨a0, a1, a2, a3⟩ := (hB3.ext h).cells
      obtain ⟨b0, b1, b2, b3⟩ := (hC3.ext h).cells
      exact ⟨a0, a1, a2, a3, b0, b1, b2, b3⟩)
    have HLc : Hid (∀ wx, Ext W3 wx → Lies wx t (.agg #[.int .u8 k1, .int .i64 n1, .string s1, .slice a1 m1 c1])) := Lib.hid (fun wx h => (hO1c.ext h).lies)
    have HLd : Hid (∀ wx, Ext W3 wx → Lies wx t (.agg #[.int .u8 k2, .int .i64 n2, .string s2, .slice a2 m2 c2])) := Lib.hid (fun wx h => (hO2c.ext h).lies)
    have HLv : Hid (∀ wx, Ext W3 wx → Lies wx t (.agg #[.int .u8 k, .int .i64 n, .string s, .slice ad md cd])) := Lib.hid (fun wx h => HV.out.ext (HE3a.out.trans h))
    have HB3 := Lib.hid hB3
    have HC3 := Lib.hid hC3
    have HD3 := Lib.hid hD3
    have HO1 := Lib.hid hO1c
    have HO2 := Lib.hid hO2c
    have hltD := hD3.lt
    have HEQ := Lib.hid (eqT_self t)
    have HP := Lib.hid hpt6
    have hpp := partsT_pos t
    have HDr : Hid (Ext W3 W3.drew) := Lib.hid (Ext.refl W3).drew
    clear hB3 hC3 hD3 hO1c hO2c hpt6
    go_region_held3 (fun w' => w'.cell? ⟨w.heap.size, 0, none⟩ = some (.int .u8 k) ∧ w'.cell? ⟨w.heap.size, 1, none⟩ = some (.int .i64 n) ∧ w'.cell? ⟨w.heap.size, 2, none⟩ = some (.string s) ∧ w'.cell? ⟨w.heap.size, 3, none⟩ = some (.slice ad md cd) ∧ w'.cell? ⟨w2.heap.size, 0, none⟩ = some (.int .u8 k1) ∧ w'.cell? ⟨w2.heap.size, 1, none⟩ = some (.int .i64 n1) ∧ w'.cell? ⟨w2.heap.size, 2, none⟩ = some (.string s1) ∧ w'.cell? ⟨w2.heap.size, 3, none⟩ = some (.slice a1 m1 c1))
      (first | exact HS.out _ HDr.out | exact HS.out _ E1.out | exact HS.out _ E2.out | exact HS.out _ E3.out | exact HS.out _ E4.out)
      (first
        | (go_at_call_of 15 (#[Value.agg #[Value.int IntKind.u8 k1, Value.int IntKind.i64 n1, Value.string s1, Value.slice a1 m1 c1], Value.agg #[Value.int IntKind.u8 k, Value.int IntKind.i64 n, Value.string s, Value.slice ad md cd]] : Array Value)
           refine (vsame_any t t _ _ _ (HLc.out _ HDr.out) (HLv.out _ HDr.out)).mono ?_
           rw [HEQ.out]
           rintro e y1 ⟨rfl, hE⟩
           have E1 := Lib.hid (HDr.out.trans hE)
           clear hE)
        | (go_at_call_of 15 (#[Value.agg #[Value.int IntKind.u8 k, Value.int IntKind.i64 n, Value.string s, Value.slice ad md cd], Value.agg #[Value.int IntKind.u8 k1, Value.int IntKind.i64 n1, Value.string s1, Value.slice a1 m1 c1]] : Array Value)
           refine (vsame_any t t _ _ _ (HLv.out _ E1.out) (HLc.out _ E1.out)).mono ?_
           rw [HEQ.out]
           rintro e y2 ⟨rfl, hE⟩
           have E2 := Lib.hid (E1.out.trans hE)
           clear hE)
        | (go_at_call_of 20 (Value.agg #[Value.int IntKind.u8 k1, Value.int IntKind.i64 n1, Value.string s1, Value.slice a1 m1 c1])
           refine (vparts_any t _ _ (HLc.out _ E2.out) (by have := HP.out; omega)).mono ?_
           rintro e y3 ⟨rfl, hE⟩
           have E3 := Lib.hid (E2.out.trans hE)
           clear hE)
        | (go_at_call_of 20 (Value.agg #[Value.int IntKind.u8 k, Value.int IntKind.i64 n, Value.string s, Value.slice ad md cd])
           refine (vparts_any t _ _ (HLv.out _ E3.out) (by have := HP.out; omega)).mono ?_
           rintro e y4 ⟨rfl, hE⟩
           have E4 := Lib.hid (E3.out.trans hE)
           clear hE))
    clear HS E1 E2 E3 HDr
    obtain ⟨q0, q1, q2, q3⟩ := (HC3.out.ext E4.out).cells
    have hpne : ((partsT t : Nat) : Int) ≠ 0 := by omega
    have hpm : IntKind.i64.wrap (at_.tmod (partsT t : Int)) = at_.tmod (partsT t : Int) := by
      refine IntWalk.i64_in _ ?_
      have := Int.tmod_nonneg (partsT t : Int) h0
      have := Int.tmod_lt_of_pos at_ (show (0 : Int) < (partsT t : Int) by omega)
      have := HP.out
      omega
    have hwa : IntKind.i64.wrap at_ = at_ := IntWalk.i64_in _ (by omega)
    go_wp2_with fail
    refine (vparts_any t _ _ (HLc.out _ E4.out) (by have := HP.out; omega)).mono ?_
    rintro e w5 ⟨rfl, hE5⟩
    have E5 := Lib.hid (E4.out.trans hE5)
    clear hE5 q0 q1 q2 q3
    go_wp2_with fail
    have hE5 := Lib.hid (E5.out.alloc (.cells #[.int .i64 (at_ % (partsT t : Int))] 3))
    have hb7 := blk_new w5 #[.int .i64 (at_ % (partsT t : Int))] 3
    have hz5 := E5.out.size
    generalize w5.alloc (.cells #[.int .i64 (at_ % (partsT t : Int))] 3) = W5 at *
    have hlt5 := (Array.getElem?_eq_some_iff.1 hb7).1
    have nk1 : ¬ F1 w2.heap.size := fun h => by have := (HF1.out _ h).2; omega
    have nk2 : ¬ F1 w5.heap.size := fun h => by have := (HF1.out _ h).2; omega
    obtain ⟨kk, nn, ss, ll, dd, ht, hsp⟩ := spot_of_own (HO1.out.ext hE5.out) (HC3.out.ext hE5.out) nk1 nk2 (by omega) (blk_cell hb7 0) (blk_free hb7 0)
    have hm0 : 0 ≤ at_ % (partsT t : Int) := Int.emod_nonneg _ (by omega)
    have hm1 : at_ % (partsT t : Int) < (partsT t : Int) := Int.emod_lt_of_pos _ (by omega)
    refine (change_any t W5 _ _ _ _ _ _ _ _ _ _ _ ht hsp hm0 (by have := HP.out; omega) (by have := HP.out; omega)).mono ?_
    intro e w6 hp6
    unfold ChPost at hp6
    rw [if_pos hm1] at hp6
    obtain ⟨rfl, hch⟩ := hp6
    have hB6 := changed_box hch (HB3.out.ext hE5.out) (fun h => by have := (HF1.out _ h).1; omega) (by omega) (by omega)
    have hD6 := changed_box hch (HD3.out.ext hE5.out) (fun h => by have := (HF1.out _ h).2; omega) (by omega) (by omega)
    have hO6 := changed_own hch (HO2.out.ext hE5.out) (fun g hg => by
      have := HF2.out g hg
      refine ⟨fun h => ?_, ?_, ?_⟩
      · have := (HF1.out _ h).2; omega
      · omega
      · omega)
    have hE6 := changed_ext (HE3a.out.trans hE5.out) hch (fun g h => by have := (HF1.out _ h).1; omega) (by omega) (by omega)
    obtain ⟨⟨t', x0, x1, x2, x3, hne, r0, r1, r2, r3, hl6⟩, -⟩ := hch
    have HX : Hid (eqT t' t = false) := Lib.hid (eqT_ne hne)
    obtain ⟨u0, u1, u2, u3⟩ := hD6.cells
    have HD6 := Lib.hid hD6
    have HB6 := Lib.hid hB6
    have HE6 := Lib.hid hE6
    have HO6 := Lib.hid hO6
    clear hsp ht nk1 nk2 hm0 hm1 hne hb7 hE5 hD6 hB6 hE6 hO6 HO1 HO2 HB3 HC3 HD3 hpm hwa
    go_wp2_with fail
    refine (vsame_any t' t _ _ _ hl6 HO6.out.lies).mono ?_
    rw [HX.out]
    rintro e w7 ⟨rfl, hE7⟩
    obtain ⟨y0, y1, y2, y3⟩ := (HD6.out.ext hE7).cells
    obtain ⟨z0, z1, z2, z3⟩ := (HB6.out.ext hE7).cells
    have HE7 := Lib.hid (HE6.out.trans hE7)
    have HO7 := Lib.hid (HO6.out.ext hE7)
    clear hE7 r0 r1 r2 r3 u0 u1 u2 u3 hl6
    go_wp2_with fail
    refine (vsame_any t t _ _ _ HO7.out.lies (HV.out.ext HE7.out)).mono ?_
    rw [HEQ.out]
    rintro e w8 ⟨rfl, hE8⟩
    have HE8 := Lib.hid (HE7.out.trans hE8)
    clear hE8 y0 y1 y2 y3 z0 z1 z2 z3
    go_wp2_with fail
    have hE9 := HE8.out.alloc (.cells #[] 25)
    have hn1 : Lies (w8.alloc (.cells #[] 25)) (.node 2 0 [] []) (.agg #[.int .u8 2, .int .i64 0, .string { data := #[] }, .slice none 0 0]) := lies_list (LiesS.nil _ none)
    have hn2 : Lies (w8.alloc (.cells #[] 25)) (.node 2 0 [] []) (.agg #[.int .u8 2, .int .i64 0, .string { data := #[] }, .slice (some ⟨w8.heap.size, 0, none⟩) 0 0]) := lies_list (LiesS.nil _ (some ⟨w8.heap.size, 0, none⟩))
    generalize w8.alloc (.cells #[] 25) = W9 at *
    refine (vsame_any _ _ _ _ _ hn2 hn1).mono ?_
    rw [eqT_self]
    rintro e w10 ⟨rfl, hE10⟩
    have HE10 := Lib.hid (hE9.trans hE10)
    have HTa := Lib.hid (HT.out.ext (hE9.trans hE10))
    clear hE9 hn1 hn2 hE10
    go_wp2_with fail
    refine (awake08 _ HTa.out).mono ?_
    rintro e w11 ⟨rfl, hE11⟩
    have HE11 := Lib.hid (HE10.out.trans hE11)
    clear hE11
    go_wp2
    go_ret
    exact ⟨rfl, HE11.out⟩
  · have hfd : decide (fewT 20 t ≤ 600) = false := decide_eq_false hf
    rw [hfd]
    clear hfd hf HFW
    have HTa := Lib.hid (HT.out.ext HE1.out)
    clear p0 p1 p2 p3
    go_wp2_with fail
    refine (awake08 _ HTa.out).mono ?_
    rintro e w2 ⟨rfl, hE2⟩
    have HE2 := Lib.hid (HE1.out.trans hE2)
    clear hE2
    go_wp2
    go_ret
    exact ⟨rfl, HE2.out⟩
end Go.Proofs.YtdmdabcjoealhaaDoor
