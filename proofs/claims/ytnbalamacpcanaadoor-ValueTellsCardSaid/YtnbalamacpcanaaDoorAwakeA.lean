/- Walks: num, text, list; the chapter's examples, first part. -/
import Derived.Test.YtnbalamacpcanaaDoorShowC
import Derived.Test.YtnbalamacpcanaaDoorValQ
import Derived.Test.YtnbalamacpcanaaDoorTreeE
open Go.RowKit Go.Shelf
namespace Go.Proofs.YtnbalamacpcanaaDoor
open Go Go.Proofs Fm

/-- A value by its four cells. -/
def val4 (k n : Int) (s : ByteArray) (d : Value) : Value := .agg #[.int .u8 k, .int .i64 n, .string s, d]

set_option maxRecDepth 100000 in
set_option maxHeartbeats 1000000 in
theorem hnum_any (n : Int) (w : World) : Calls Tryd.prog 61 #[.int .i64 n] w fun e w' => e = .returned (.agg #[.int .u8 0, .int .i64 n, .string { data := #[] }, .slice none 0 0]) ∧ Ext w w' := by
  go_enter Tryd.func61, Tryd.ntmps61
  go_wp2
  exact bodyPost_ret (v := .agg #[.int .u8 0, .int .i64 n, .string { data := #[] }, .slice none 0 0]) (by simp [results, Tryd.results61, go_sem]) rfl ⟨rfl, (Ext.refl w).alloc _⟩
set_option maxRecDepth 100000 in
set_option maxHeartbeats 1000000 in
theorem htext_any (s : ByteArray) (w : World) : Calls Tryd.prog 62 #[.string s] w fun e w' => e = .returned (.agg #[.int .u8 1, .int .i64 0, .string s, .slice none 0 0]) ∧ Ext w w' := by
  go_enter Tryd.func62, Tryd.ntmps62
  go_wp2
  exact bodyPost_ret (v := .agg #[.int .u8 1, .int .i64 0, .string s, .slice none 0 0]) (by simp [results, Tryd.results62, go_sem]) rfl ⟨rfl, (Ext.refl w).alloc _⟩
set_option maxRecDepth 100000 in
set_option maxHeartbeats 1000000 in
theorem hlist_any (a : Option Addr) (m c : Nat) (w : World) : Calls Tryd.prog 63 #[.slice a m c] w fun e w' => e = .returned (.agg #[.int .u8 2, .int .i64 0, .string { data := #[] }, .slice a m c]) ∧ Ext w w' := by
  go_enter Tryd.func63, Tryd.ntmps63
  go_wp2
  exact bodyPost_ret (v := .agg #[.int .u8 2, .int .i64 0, .string { data := #[] }, .slice a m c]) (by simp [results, Tryd.results63, go_sem]) rfl ⟨rfl, (Ext.refl w).alloc _⟩

theorem lies_num (w : World) {n : Int} (h : isI64 n) : Lies w (.node 0 n [] []) (.agg #[.int .u8 0, .int .i64 n, .string { data := #[] }, .slice none 0 0]) := Lies.mk (k := 0) (s := []) h (by simp) (LiesS.nil w none)
theorem lies_text (w : World) {s : List UInt8} (h : s.length ≤ 9223372036854775807) : Lies w (.node 1 0 s []) (.agg #[.int .u8 1, .int .i64 0, .string (str s), .slice none 0 0]) := Lies.mk (k := 1) (n := 0) (by unfold isI64; omega) h (LiesS.nil w none)
theorem lies_list {w : World} {l : List Tr} {d : Value} (h : LiesS w l d) : Lies w (.node 2 0 [] l) (.agg #[.int .u8 2, .int .i64 0, .string { data := #[] }, d]) := Lies.mk (k := 2) (n := 0) (s := []) (by unfold isI64; omega) (by simp) h
/-- A literal of two values. -/
theorem lies_two {W : World} {t u : Tr} {x0 x1 x2 x3 y0 y1 y2 y3 : Value} (ht : Lies W t (.agg #[x0, x1, x2, x3])) (hu : Lies W u (.agg #[y0, y1, y2, y3])) {w : World} {b : Nat} {e : TypeId} (hE : Ext W w) (hb : w.heap[b]? = some (.cells #[x0, x1, x2, x3, y0, y1, y2, y3] e (0, 0))) :
    LiesS w [t, u] (.slice (some ⟨b, 0, none⟩) 2 2) := by
  let C : Nat → Nat → Value := fun i j => (#[x0, x1, x2, x3, y0, y1, y2, y3] : Array Value).getD (i * 4 + j) undef
  refine ⟨_, 2, rfl, by simp, by unfold maxLen; omega, (fun h => by cases h), C, fun _ => ⟨b, 0, rfl, (Array.getElem?_eq_some_iff.1 hb).1, fun i j hi hj => ?_⟩, fun i hi => ?_⟩
  · rw [Nat.zero_add, blk_cell hb]
    simp at hi
    have : i * 4 + j < 8 := by omega
    simp [C, Array.getD, this]
  · simp at hi
    match i, hi with
    | 0, _ => exact ht.ext hE
    | 1, _ => exact hu.ext hE
/-- A literal of one value. -/
theorem lies_one {W : World} {t : Tr} {x0 x1 x2 x3 : Value} (ht : Lies W t (.agg #[x0, x1, x2, x3])) {w : World} {b : Nat} {e : TypeId} (hE : Ext W w) (hb : w.heap[b]? = some (.cells #[x0, x1, x2, x3] e (0, 0))) :
    LiesS w [t] (.slice (some ⟨b, 0, none⟩) 1 1) := by
  let C : Nat → Nat → Value := fun _ j => (#[x0, x1, x2, x3] : Array Value).getD j undef
  refine ⟨_, 1, rfl, by simp, by unfold maxLen; omega, (fun h => by cases h), C, fun _ => ⟨b, 0, rfl, (Array.getElem?_eq_some_iff.1 hb).1, fun i j hi hj => ?_⟩, fun i hi => ?_⟩
  · rw [Nat.zero_add, blk_cell hb]
    simp at hi
    subst hi
    match j, hj with
    | 0, _ => rfl
    | 1, _ => rfl
    | 2, _ => rfl
    | 3, _ => rfl
  · simp at hi
    subst hi
    exact ht.ext hE

set_option maxRecDepth 100000 in
set_option maxHeartbeats 4000000 in
theorem awake08 (w : World) (hT : Tab w) : Calls Tryd.prog 16 #[] w fun e w' => e = .returned (.bool true) ∧ Ext w w' := by
  have HT := Lib.hid hT
  clear hT
  go_enter Tryd.func16, Tryd.ntmps16
  go_wp2_with fail
  refine (hnum_any 5 w).mono ?_
  rintro e w1 ⟨rfl, hE1⟩
  go_wp2_with fail
  refine (htext_any _ _).mono ?_
  rintro e w2 ⟨rfl, hE2⟩
  go_wp2_with fail
  refine (hnum_any (-1) _).mono ?_
  rintro e w3 ⟨rfl, hE3⟩
  go_wp2_with fail
  refine (hlist_any none 0 0 _).mono ?_
  rintro e w4 ⟨rfl, hE4⟩
  go_wp2_with fail
  refine (hlist_any _ _ _ _).mono ?_
  rintro e w5 ⟨rfl, hE5⟩
  go_wp2_with fail
  have b1 : Bytes w2 (.slice (some ⟨w1.heap.size, 0, none⟩) 2 2) [0, 10] := (bytes_new w1 _ _ _ _ [0, 10] rfl rfl rfl (by decide)).ext hE2
  have b2 : Bytes w3 (.slice (some ⟨w2.heap.size, 0, none⟩) 4 4) [2, 4, 97, 37] := (bytes_new w2 _ _ _ _ [2, 4, 97, 37] rfl rfl rfl (by decide)).ext hE3
  have hL : LiesS w5 [.node 0 (-1) [] [], .node 2 0 [] []] (.slice (some ⟨w4.heap.size, 0, none⟩) 2 2) :=
    lies_two (lies_num w4 (by unfold isI64; omega)) (lies_list (LiesS.nil w4 none)) (((Ext.refl w4).alloc _).trans hE5) (blk_ext (blk_new w4 _ _) hE5)
  have b3 : Bytes (w5.alloc (.cells #[.int .u8 4, .int .u8 4, .int .u8 0, .int .u8 1, .int .u8 4, .int .u8 0] 5)) (.slice (some ⟨w5.heap.size, 0, none⟩) 6 6) [4, 4, 0, 1, 4, 0] := bytes_new w5 _ _ _ _ [4, 4, 0, 1, 4, 0] rfl rfl rfl (by decide)
  have hz6 : (w5.alloc (.cells #[.int .u8 4, .int .u8 4, .int .u8 0, .int .u8 1, .int .u8 4, .int .u8 0] 5)).heap.size = w5.heap.size + 1 := by simp
  have hE6 : Ext w5 (w5.alloc (.cells #[.int .u8 4, .int .u8 4, .int .u8 0, .int .u8 1, .int .u8 4, .int .u8 0] 5)) := (Ext.refl w5).alloc _
  generalize hw6 : (w5.alloc (.cells #[.int .u8 4, .int .u8 4, .int .u8 0, .int .u8 1, .int .u8 4, .int .u8 0] 5)) = w6 at *
  clear hw6
  have hTb := blk_new w6 #[.int .u8 0, .int .i64 5, .string { data := #[] }, .slice none 0 0, .slice (some ⟨w1.heap.size, 0, none⟩) 2 2, .string { data := #[53] },
          .int .u8 1, .int .i64 0, .string { data := #[97, 37] }, .slice none 0 0, .slice (some ⟨w2.heap.size, 0, none⟩) 4 4, .string { data := #[34, 97, 37, 50, 53, 34] },
          .int .u8 2, .int .i64 0, .string { data := #[] }, .slice (some ⟨w4.heap.size, 0, none⟩) 2 2, .slice (some ⟨w5.heap.size, 0, none⟩) 6 6, .string { data := #[91, 45, 49, 44, 91, 93, 93] }] 93
  rw [hz6] at hTb
  have hE7 : Ext w6 (w6.alloc (.cells #[.int .u8 0, .int .i64 5, .string { data := #[] }, .slice none 0 0, .slice (some ⟨w1.heap.size, 0, none⟩) 2 2, .string { data := #[53] },
          .int .u8 1, .int .i64 0, .string { data := #[97, 37] }, .slice none 0 0, .slice (some ⟨w2.heap.size, 0, none⟩) 4 4, .string { data := #[34, 97, 37, 50, 53, 34] },
          .int .u8 2, .int .i64 0, .string { data := #[] }, .slice (some ⟨w4.heap.size, 0, none⟩) 2 2, .slice (some ⟨w5.heap.size, 0, none⟩) 6 6, .string { data := #[91, 45, 49, 44, 91, 93, 93] }] 93)) := (Ext.refl w6).alloc _
  generalize hw7 : w6.alloc (.cells #[.int .u8 0, .int .i64 5, .string { data := #[] }, .slice none 0 0, .slice (some ⟨w1.heap.size, 0, none⟩) 2 2, .string { data := #[53] },
          .int .u8 1, .int .i64 0, .string { data := #[97, 37] }, .slice none 0 0, .slice (some ⟨w2.heap.size, 0, none⟩) 4 4, .string { data := #[34, 97, 37, 50, 53, 34] },
          .int .u8 2, .int .i64 0, .string { data := #[] }, .slice (some ⟨w4.heap.size, 0, none⟩) 2 2, .slice (some ⟨w5.heap.size, 0, none⟩) 6 6, .string { data := #[91, 45, 49, 44, 91, 93, 93] }] 93) = W0 at *
  clear hw7
  have hE12 : Ext w w2 := (hE1.alloc _).trans hE2
  have hE23 : Ext w2 w3 := ((Ext.refl w2).alloc _).trans hE3
  have hE45 : Ext w4 w5 := ((Ext.refl w4).alloc _).trans hE5
  have hE57 : Ext w5 W0 := hE6.trans hE7
  have hE37 : Ext w3 W0 := (hE4.trans hE45).trans hE57
  have hE0 : Ext w W0 := (hE12.trans hE23).trans hE37
  have c1 := b1.ext (hE23.trans hE37)
  have c2 := b2.ext hE37
  have c3 := b3.ext hE7
  have hL0 := hL.ext hE57
  have hcase : Hid (∀ k, k < 3 → ∃ (t : Tr) (kd nn : Int) (ss : ByteArray) (a1 : Option Addr) (m1 c1 : Nat) (a2 : Option Addr) (m2 c2 : Nat) (bs sh : List UInt8),
      W0.cell? ⟨w5.heap.size + 1, k * 6, none⟩ = some (.int .u8 kd) ∧ W0.cell? ⟨w5.heap.size + 1, k * 6 + 1, none⟩ = some (.int .i64 nn) ∧ W0.cell? ⟨w5.heap.size + 1, k * 6 + 2, none⟩ = some (.string ss) ∧ W0.cell? ⟨w5.heap.size + 1, k * 6 + 3, none⟩ = some (.slice a1 m1 c1) ∧
      W0.cell? ⟨w5.heap.size + 1, k * 6 + 4, none⟩ = some (.slice a2 m2 c2) ∧ W0.cell? ⟨w5.heap.size + 1, k * 6 + 5, none⟩ = some (.string (str sh)) ∧
      Lies W0 t (.agg #[.int .u8 kd, .int .i64 nn, .string ss, .slice a1 m1 c1]) ∧ Bytes W0 (.slice a2 m2 c2) bs ∧ rightT t = true ∧ bytesT t = bs ∧ showT t = sh) := Lib.hid (fun k hk => by
    have : k = 0 ∨ k = 1 ∨ k = 2 := by omega
    rcases this with rfl | rfl | rfl
    · exact ⟨ex1, _, _, _, _, _, _, _, _, _, _, [53], (blk_cell hTb _).trans rfl, (blk_cell hTb _).trans rfl, (blk_cell hTb _).trans rfl, (blk_cell hTb _).trans rfl, (blk_cell hTb _).trans rfl, (blk_cell hTb _).trans rfl, lies_num W0 (by unfold isI64; omega), c1, ex1_right, ex1_bytes, ex1_show⟩
    · exact ⟨ex2, _, _, _, _, _, _, _, _, _, _, [34, 97, 37, 50, 53, 34], (blk_cell hTb _).trans rfl, (blk_cell hTb _).trans rfl, (blk_cell hTb _).trans rfl, (blk_cell hTb _).trans rfl, (blk_cell hTb _).trans rfl, (blk_cell hTb _).trans rfl, lies_text W0 (s := [97, 37]) (by simp), c2, ex2_right, ex2_bytes, ex2_show⟩
    · exact ⟨ex3, _, _, _, _, _, _, _, _, _, _, [91, 45, 49, 44, 91, 93, 93], (blk_cell hTb _).trans rfl, (blk_cell hTb _).trans rfl, (blk_cell hTb _).trans rfl, (blk_cell hTb _).trans rfl, (blk_cell hTb _).trans rfl, (blk_cell hTb _).trans rfl, lies_list hL0, c3, ex3_right, ex3_bytes, ex3_show⟩)
  have hTz : w5.heap.size + 1 < W0.heap.size := (Array.getElem?_eq_some_iff.1 hTb).1
  have HE0 := Lib.hid hE0
  clear hE1 hE2 hE3 hE4 hE5 hE6 hE7 hE12 hE23 hE45 hE57 hE37 hE0 b1 b2 b3 c1 c2 c3 hL hL0 hTb hz6
  go_loopw [28] (fun i wr => ∃ k : Nat, k ≤ 3 ∧ i = .int .i64 k ∧ Ext W0 wr) (fun i _ => 3 - (intOf i).toNat)
  case atStart => exact ⟨0, by omega, rfl, Ext.refl _⟩
  case round =>
    obtain ⟨k, hk, rfl, hE⟩ := hrel
    by_cases hlt : k < 3
    · obtain ⟨t, kd, nn, ss, a1, m1, c1, a2, m2, c2, bs, sh, g0, g1, g2, g3, g4, g5, hv, hb, hr, hbt, hsh⟩ := hcase.out k hlt
      have e0 := (hE.cell (p := ⟨w5.heap.size + 1, _, none⟩) hTz).trans g0
      have e1 := (hE.cell (p := ⟨w5.heap.size + 1, _, none⟩) hTz).trans g1
      have e2 := (hE.cell (p := ⟨w5.heap.size + 1, _, none⟩) hTz).trans g2
      have e3 := (hE.cell (p := ⟨w5.heap.size + 1, _, none⟩) hTz).trans g3
      have e4 := (hE.cell (p := ⟨w5.heap.size + 1, _, none⟩) hTz).trans g4
      have e5 := (hE.cell (p := ⟨w5.heap.size + 1, _, none⟩) hTz).trans g5
      have Hv := Lib.hid (hv.ext hE)
      have Hb := Lib.hid (hb.ext hE)
      have HR := Lib.hid hr
      have HBT := Lib.hid hbt
      have HSH := Lib.hid hsh
      have HTr := Lib.hid (HT.out.ext (HE0.out.trans hE))
      clear g0 g1 g2 g3 g4 g5 hv hb hr hbt hsh
      have hk3 : (k : Int) < 3 := by omega
      go_wp2_with fail
      have hXb := blk_new wr #[.int .u8 kd, .int .i64 nn, .string ss, .slice a1 m1 c1, .slice a2 m2 c2, .string (str sh)] 93
      have hEX : Ext wr (wr.alloc (.cells #[.int .u8 kd, .int .i64 nn, .string ss, .slice a1 m1 c1, .slice a2 m2 c2, .string (str sh)] 93)) := (Ext.refl wr).alloc _
      clear e0 e1 e2 e3 e4 e5
      generalize hWX : wr.alloc (.cells #[.int .u8 kd, .int .i64 nn, .string ss, .slice a1 m1 c1, .slice a2 m2 c2, .string (str sh)] 93) = WX at *
      clear hWX
      refine (vbytes_any t WX _ (Hv.out.ext hEX)).mono ?_
      intro e x1 hp
      unfold VBytes at hp
      rw [HR.out, if_pos rfl] at hp
      obtain ⟨vb, rfl, hob⟩ := hp
      have hE1 := hEX.trans hob.2
      have hXb1 := blk_ext hXb hob.2
      have hbb := hob.bytes
      rw [HBT.out] at hbb
      have i4 := (blk_cell hXb1 4).trans rfl
      clear hob hXb hEX
      go_wp2_with fail
      refine (vparse_any _ bs x1 (Hb.out.ext hE1)).mono ?_
      intro e x2 hp
      unfold ParsePost at hp
      rw [takeV_whole HR.out Hv.out.nums HBT.out] at hp
      obtain ⟨vp, rfl, hE2, hO⟩ := hp
      obtain ⟨pk, pn, ps, pa, pm, pc, rfl⟩ := ownT_four hO
      have hlp := hO.lies
      go_wp2_with fail
      have hPb := blk_new x2 #[.int .u8 pk, .int .i64 pn, .string ps, .slice pa pm pc] 24
      have hEP : Ext x2 (x2.alloc (.cells #[.int .u8 pk, .int .i64 pn, .string ps, .slice pa pm pc] 24)) := (Ext.refl x2).alloc _
      generalize hWP : x2.alloc (.cells #[.int .u8 pk, .int .i64 pn, .string ps, .slice pa pm pc] 24) = WP at *
      clear hWP
      have hXP := blk_ext hXb1 (hE2.trans hEP)
      have hlp2 := hlp.ext hEP
      have hbb2 := hbb.ext (hE2.trans hEP)
      have hEW := hE1.trans (hE2.trans hEP)
      have Hlp := Lib.hid hlp2
      have Hbb := Lib.hid hbb2
      have HEW := Lib.hid hEW
      have HXP := Lib.hid hXP
      have HPb := Lib.hid hPb
      obtain ⟨ab, cb, rfl, -⟩ := id hbb
      clear hXb1 i4 hlp hlp2 hbb hbb2 hEW hE1 hE2 hEP hO hXP hPb
      generalize x2.heap.size = PB at *
      generalize wr.heap.size = XB at *
      have HS : Hid (∀ w', Ext WP w' → (w'.cell? ⟨XB, 0, none⟩ = some (.int .u8 kd) ∧ w'.cell? ⟨XB, 1, none⟩ = some (.int .i64 nn) ∧ w'.cell? ⟨XB, 2, none⟩ = some (.string ss) ∧ w'.cell? ⟨XB, 3, none⟩ = some (.slice a1 m1 c1) ∧ w'.cell? ⟨XB, 4, none⟩ = some (.slice a2 m2 c2) ∧ w'.cell? ⟨XB, 5, none⟩ = some (.string (str sh)) ∧
        w'.cell? ⟨PB, 0, none⟩ = some (.int .u8 pk) ∧ w'.cell? ⟨PB, 1, none⟩ = some (.int .i64 pn) ∧ w'.cell? ⟨PB, 2, none⟩ = some (.string ps) ∧ w'.cell? ⟨PB, 3, none⟩ = some (.slice pa pm pc))) := Lib.hid (fun w' h => by
        have x := blk_ext HXP.out h
        have y := blk_ext HPb.out h
        exact ⟨(blk_cell x 0).trans rfl, (blk_cell x 1).trans rfl, (blk_cell x 2).trans rfl, (blk_cell x 3).trans rfl, (blk_cell x 4).trans rfl, (blk_cell x 5).trans rfl, (blk_cell y 0).trans rfl, (blk_cell y 1).trans rfl, (blk_cell y 2).trans rfl, (blk_cell y 3).trans rfl⟩)
      have HDr : Hid (Ext WP WP.drew) := Lib.hid (Ext.refl WP).drew
      go_region_held3 (fun w' => w'.cell? ⟨XB, 0, none⟩ = some (.int .u8 kd) ∧ w'.cell? ⟨XB, 1, none⟩ = some (.int .i64 nn) ∧ w'.cell? ⟨XB, 2, none⟩ = some (.string ss) ∧ w'.cell? ⟨XB, 3, none⟩ = some (.slice a1 m1 c1) ∧ w'.cell? ⟨XB, 4, none⟩ = some (.slice a2 m2 c2) ∧ w'.cell? ⟨XB, 5, none⟩ = some (.string (str sh)) ∧
        w'.cell? ⟨PB, 0, none⟩ = some (.int .u8 pk) ∧ w'.cell? ⟨PB, 1, none⟩ = some (.int .i64 pn) ∧ w'.cell? ⟨PB, 2, none⟩ = some (.string ps) ∧ w'.cell? ⟨PB, 3, none⟩ = some (.slice pa pm pc))
        (first | exact HS.out _ HDr.out | exact HS.out _ E5.out | exact HS.out _ E6.out)
        (first
          | (go_at_call 24
             refine (same_true (Hbb.out.ext HDr.out) ((Hb.out.ext HEW.out).ext HDr.out) rfl).mono ?_
             rintro e w4 ⟨rfl, rfl⟩)
          | (go_at_call 22
             refine (vsame_any t t _ _ _ (Hlp.out.ext HDr.out) ((Hv.out.ext HEW.out).ext HDr.out)).mono ?_
             rintro e w5 ⟨rfl, hE5⟩
             rw [eqT_self]
             have E5 := Lib.hid (HDr.out.trans hE5)
             clear hE5)
          | (go_at_call 26
             refine (vshow_any t _ _ ((HTr.out.ext HEW.out).ext E5.out) ((Hv.out.ext HEW.out).ext E5.out) (by have := right_show HR.out Hv.out.nums; omega)).mono ?_
             rw [HSH.out]
             rintro e w6 ⟨rfl, hE6⟩
             have E6 := Lib.hid (E5.out.trans hE6)
             clear hE6))
      all_goals
        have HF := Lib.hid (hE.trans (HEW.out.trans E6.out))
        clear HS E5 E6 HDr Hlp Hbb HEW HXP HPb Hv Hb HR HBT HSH HTr hE hcase
        go_wp2
        go_roundw
        case rel => exact ⟨k + 1, by omega, by go_num, HF.out⟩
        case measure => simp [intOf]; omega
    · obtain rfl : k = 3 := by omega
      have HE9 := Lib.hid (HE0.out.trans hE)
      have T1 := Lib.hid take_six
      have T2 := Lib.hid take_more
      clear hcase hE hTz HE0
      go_wp2_with fail
      refine (vparse_any _ [6] _ (bytes_new wr _ _ _ _ [6] rfl rfl rfl (by decide))).mono ?_
      intro e y1 hp
      unfold ParsePost at hp
      rw [T1.out] at hp
      obtain ⟨rfl, hE1⟩ := hp
      have HF1 := Lib.hid (HE9.out.trans (((Ext.refl wr).alloc _).trans hE1))
      clear hE1 HE9
      go_wp2_with fail
      refine (vtake_any _ [0, 10, 0] _ (bytes_new _ _ _ _ _ [0, 10, 0] (by simp) rfl rfl (by decide))).mono ?_
      intro e y2 hp
      unfold TakePost at hp
      rw [T2.out] at hp
      obtain ⟨v2, vr2, rfl, hE2, hO2, hr2⟩ := hp
      obtain ⟨pk, pn, ps, pa, pm, pc, rfl⟩ := ownT_four hO2
      have hln := len_bytes hr2
      obtain ⟨ar, cr, rfl, -⟩ := id hr2
      have HF2 := Lib.hid (HF1.out.trans ((((Ext.refl y1).alloc _).alloc _).trans hE2))
      clear hE2 HF1 hO2 hr2
      go_wp2_with fail
      refine (vparse_any _ [0, 10, 0] _ (bytes_new _ _ _ _ _ [0, 10, 0] (by simp) rfl rfl (by decide))).mono ?_
      intro e y3 hp
      unfold ParsePost at hp
      rw [T2.out] at hp
      obtain ⟨rfl, hE3⟩ := hp
      have HF3 := Lib.hid (HF2.out.trans ((((Ext.refl y2).alloc _).alloc _).trans hE3))
      clear hE3 HF2
      go_wp2
      go_ret
      exact ⟨rfl, HF3.out.alloc _⟩
end Go.Proofs.YtnbalamacpcanaaDoor
