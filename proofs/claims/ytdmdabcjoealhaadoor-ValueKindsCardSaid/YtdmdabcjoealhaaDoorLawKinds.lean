/- ValueKinds answers true at every input. -/
import Derived.Test.YtdmdabcjoealhaaDoorAwakeA
open Go.RowKit Go.Shelf
namespace Go.Proofs.YtdmdabcjoealhaaDoor
open Go Go.Proofs Fm

theorem right_leaf (k : UInt8) (n : Int) (s : List UInt8) : rightT (.node k n s []) = plainB k n s 0 := by
  simp [rightT, kindsT_node, deepT_node, deepL_nil, partsT_node, partsL_nil]
theorem right_one (k : UInt8) (n m : Int) (s : List UInt8) : rightT (.node k n s [.node 0 m [] []]) = plainB k n s 1 := by
  have h : plainB 0 m [] 0 = true := by simp [plainB]
  simp [rightT, kindsT_node, deepT_node, deepL_nil, deepL_cons, partsT_node, partsL_nil, partsL_cons, h]
theorem right_two (k : UInt8) (n m : Int) (s : List UInt8) : rightT (.node 2 0 [] [.node k n s [], .node 0 m [] []]) = plainB k n s 0 := by
  have h : plainB 0 m [] 0 = true := by simp [plainB]
  have h2 : plainB 2 0 [] 2 = true := by simp [plainB]
  simp [rightT, kindsT_node, deepT_node, deepL_nil, deepL_cons, partsT_node, partsL_nil, partsL_cons, h, h2]
theorem lies_leaf (w : World) (k : UInt8) {n : Int} (h : isI64 n) {s : List UInt8} (hs : s.length ≤ 300) : Lies w (.node k n s []) (.agg #[.int .u8 (k.toNat : Int), .int .i64 n, .string (str s), .slice none 0 0]) := Lies.mk h (by omega) (LiesS.nil w none)
theorem lies_leaf1 {W w : World} (k : UInt8) {n m : Int} (h : isI64 n) (hm : isI64 m) {s : List UInt8} (hs : s.length ≤ 300) {b : Nat} {e : TypeId} (hE : Ext W w) (hb : w.heap[b]? = some (.cells #[.int .u8 0, .int .i64 m, .string { data := #[] }, .slice none 0 0] e (0, 0))) :
    Lies w (.node k n s [.node 0 m [] []]) (.agg #[.int .u8 (k.toNat : Int), .int .i64 n, .string (str s), .slice (some ⟨b, 0, none⟩) 1 1]) := Lies.mk h (by omega) (lies_one (lies_num W hm) hE hb)

set_option maxRecDepth 100000 in
set_option maxHeartbeats 4000000 in
theorem kinds_0t (n : Int) (hn : isI64 n) (s : List UInt8) (h : s = []) (hs : s.length ≤ 300) (w : World) (hT : Tab w) :
    Calls Tryd.prog 4 #[.int .i64 n, .string (str s), .int .u8 0] w fun e w' => e = .returned (.bool true) ∧ Ext w w' := by
  have R1 := Lib.hid (show rightT (.node 0 n s []) = true by rw [right_leaf]; simp [plainB, h])
  have R2 := Lib.hid (show rightT (.node 0 n s [.node 0 1 [] []]) = false by rw [right_one]; simp [plainB])
  have R3 := Lib.hid (show rightT (.node 2 0 [] [.node 0 n s [], .node 0 2 [] []]) = true by rw [right_two]; simp [plainB, h])
  have fs : (str s).toList.isEmpty = true := by rw [str_toList, h]; rfl
  have HN := Lib.hid hn
  have HT := Lib.hid hT
  have hsz := str_size s
  have hs2 : ¬ (300 : Int) < (s.length : Int) := by omega
  clear h
  clear hn hT
  have HL1 : Hid (∀ wx, Lies wx (.node 0 n s []) (.agg #[.int .u8 0, .int .i64 n, .string (str s), .slice none 0 0])) := Lib.hid (fun wx => lies_leaf wx (0 : UInt8) HN.out hs)
  have HL2 : Hid (∀ (wx wy : World) (b : Nat), Ext wx wy → wx.heap[b]? = some (.cells #[.int .u8 0, .int .i64 1, .string { data := #[] }, .slice none 0 0] 25 (0, 0)) → Lies wy (.node 0 n s [.node 0 1 [] []]) (.agg #[.int .u8 0, .int .i64 n, .string (str s), .slice (some ⟨b, 0, none⟩) 1 1])) :=
    Lib.hid (fun wx wy b hE hb => lies_leaf1 (W := wx) (0 : UInt8) HN.out (by unfold isI64; omega) hs hE (blk_ext hb hE))
  go_enter Tryd.func4, Tryd.ntmps4
  go_wp2_with fail
  have hE1 : Ext w ((w.alloc (.cells #[.int .u8 0, .int .i64 n, .string (str s), .slice none 0 0] 25)).alloc (.cells #[.int .u8 0, .int .i64 n, .string (str s), .slice none 0 0] 25)) := ((Ext.refl w).alloc _).alloc _
  have hb1 := blk_ext (blk_new w #[.int .u8 0, .int .i64 n, .string (str s), .slice none 0 0] 25) ((Ext.refl _).alloc (.cells #[.int .u8 0, .int .i64 n, .string (str s), .slice none 0 0] 25))
  have hb2 := blk_new (w.alloc (.cells #[.int .u8 0, .int .i64 n, .string (str s), .slice none 0 0] 25)) #[.int .u8 0, .int .i64 n, .string (str s), .slice none 0 0] 25
  rw [show (w.alloc (.cells #[.int .u8 0, .int .i64 n, .string (str s), .slice none 0 0] 25)).heap.size = w.heap.size + 1 by simp] at hb2
  generalize hw1 : (w.alloc (.cells #[.int .u8 0, .int .i64 n, .string (str s), .slice none 0 0] 25)).alloc (.cells #[.int .u8 0, .int .i64 n, .string (str s), .slice none 0 0] 25) = w1 at *
  clear hw1
  refine (hnum_any 1 w1).mono ?_
  rintro e w2 ⟨rfl, hE2⟩
  have hb1' := blk_ext hb1 hE2
  have hb2' := blk_ext hb2 hE2
  obtain ⟨p0, p1, p2, p3⟩ := Box4.cells (w := w2) (b := w.heap.size + 1) hb2'
  obtain ⟨q0, q1, q2, q3⟩ := Box4.frozen (w := w2) (b := w.heap.size + 1) hb2'
  have hlt2 := (Array.getElem?_eq_some_iff.1 hb2').1
  have HE2 := Lib.hid (hE1.trans hE2)
  have HB1 := Lib.hid hb1'
  have HB2 := Lib.hid hb2'
  clear hE1 hE2 hb1 hb2 hb1' hb2'
  go_wp2_with fail
  have hbv := Box4.ext (Box4.other (w := w2) (b := w.heap.size) HB1.out (show w.heap.size + 1 ≠ w.heap.size by omega) 3 (.slice (some ⟨w2.heap.size, 0, none⟩) 1 1)) ((Ext.refl _).alloc (.cells #[.int .u8 0, .int .i64 1, .string { data := #[] }, .slice none 0 0] 25))
  have hbw := Box4.ext (Box4.set3 (w := w2) (b := w.heap.size + 1) HB2.out (.slice (some ⟨w2.heap.size, 0, none⟩) 1 1)) ((Ext.refl _).alloc (.cells #[.int .u8 0, .int .i64 1, .string { data := #[] }, .slice none 0 0] 25))
  have hby := blk_new (w2.setCell ⟨w.heap.size + 1, 3, none⟩ (.slice (some ⟨w2.heap.size, 0, none⟩) 1 1)) #[.int .u8 0, .int .i64 1, .string { data := #[] }, .slice none 0 0] 25
  rw [show (w2.setCell ⟨w.heap.size + 1, 3, none⟩ (.slice (some ⟨w2.heap.size, 0, none⟩) 1 1)).heap.size = w2.heap.size by simp [World.setCell]] at hby
  have hEP : Ext w ((w2.setCell ⟨w.heap.size + 1, 3, none⟩ (.slice (some ⟨w2.heap.size, 0, none⟩) 1 1)).alloc (.cells #[.int .u8 0, .int .i64 1, .string { data := #[] }, .slice none 0 0] 25)) :=
    (HE2.out.setCell (p := ⟨w.heap.size + 1, 3, none⟩) (by show w.heap.size ≤ w.heap.size + 1; omega) _).alloc _
  generalize hWP : (w2.setCell ⟨w.heap.size + 1, 3, none⟩ (.slice (some ⟨w2.heap.size, 0, none⟩) 1 1)).alloc (.cells #[.int .u8 0, .int .i64 1, .string { data := #[] }, .slice none 0 0] 25) = WP at *
  have HL3 : Hid (∀ wx, Ext WP wx → Lies wx (.node 0 n s [.node 0 1 [] []]) (.agg #[.int .u8 0, .int .i64 n, .string (str s), .slice (some ⟨w2.heap.size, 0, none⟩) 1 1])) := Lib.hid (fun wx h => HL2.out WP wx _ h hby)
  have HT2 := Lib.hid (HT.out.ext hEP)
  have HEP := Lib.hid hEP
  clear hWP hby p0 p1 p2 p3 q0 q1 q2 q3 hlt2 HB1 HB2 HE2 hEP
  generalize w2.heap.size = Y at *
  generalize hVB : w.heap.size + 1 = VB at *
  clear hVB
  generalize w.heap.size = VA at *
  have HS : Hid (∀ w', Ext WP w' → (w'.cell? ⟨VA, 0, none⟩ = some (.int .u8 0) ∧ w'.cell? ⟨VA, 1, none⟩ = some (.int .i64 n) ∧ w'.cell? ⟨VA, 2, none⟩ = some (.string (str s)) ∧ w'.cell? ⟨VA, 3, none⟩ = some (.slice none 0 0) ∧ w'.cell? ⟨VB, 0, none⟩ = some (.int .u8 0) ∧ w'.cell? ⟨VB, 1, none⟩ = some (.int .i64 n) ∧ w'.cell? ⟨VB, 2, none⟩ = some (.string (str s)) ∧ w'.cell? ⟨VB, 3, none⟩ = some (.slice (some ⟨Y, 0, none⟩) 1 1))) := Lib.hid (fun w' h => by
    obtain ⟨a0, a1, a2, a3⟩ := (hbv.ext h).cells
    obtain ⟨b0, b1, b2, b3⟩ := (hbw.ext h).cells
    exact ⟨a0, a1, a2, a3, b0, b1, b2, b3⟩)
  have HDr : Hid (Ext WP WP.drew) := Lib.hid (Ext.refl WP).drew
  clear hbv hbw
  go_region_held3 (fun w' => w'.cell? ⟨VA, 0, none⟩ = some (.int .u8 0) ∧ w'.cell? ⟨VA, 1, none⟩ = some (.int .i64 n) ∧ w'.cell? ⟨VA, 2, none⟩ = some (.string (str s)) ∧ w'.cell? ⟨VA, 3, none⟩ = some (.slice none 0 0) ∧ w'.cell? ⟨VB, 0, none⟩ = some (.int .u8 0) ∧ w'.cell? ⟨VB, 1, none⟩ = some (.int .i64 n) ∧ w'.cell? ⟨VB, 2, none⟩ = some (.string (str s)) ∧ w'.cell? ⟨VB, 3, none⟩ = some (.slice (some ⟨Y, 0, none⟩) 1 1))
    (first | exact HS.out _ HDr.out | exact HS.out _ E1.out | exact HS.out _ E2.out | exact HS.out _ E3.out | exact HS.out _ (E3.out.alloc _) | exact HS.out _ E4.out | exact HS.out _ E5.out | exact HS.out _ E6.out)
    (first
      | (go_at_call_of 11 (Value.slice none 0 0)
         refine (vright_any _ _ _ (HL1.out _)).mono ?_
         rw [R1.out]
         rintro e y1 ⟨rfl, hE⟩
         have E1 := Lib.hid (HDr.out.trans hE)
         clear hE)
      | (go_at_call_of 11 (Value.slice (some ⟨Y, 0, none⟩) 1 1)
         refine (vright_any _ _ _ (HL3.out _ E1.out)).mono ?_
         rw [R2.out]
         rintro e y2 ⟨rfl, hE⟩
         have E2 := Lib.hid (E1.out.trans hE)
         clear hE)
      | (go_at_call 17
         refine (hnum_any 2 _).mono ?_
         rintro e y3 ⟨rfl, hE⟩
         have E3 := Lib.hid (E2.out.trans hE)
         clear hE)
      | (go_at_call 18
         refine (hlist_any _ _ _ _).mono ?_
         rintro e y4 ⟨rfl, hE⟩
         have E4 := Lib.hid ((E3.out.alloc _).trans hE)
         have L4 := Lib.hid (lies_list (lies_two (HL1.out y3) (lies_num y3 (n := 2) (by unfold isI64; omega)) (((Ext.refl y3).alloc _).trans hE) (blk_ext (blk_new y3 _ _) hE)))
         clear hE)
      | (go_at_call 11
         refine (vright_any _ _ _ L4.out).mono ?_
         rw [R3.out]
         rintro e y5 ⟨rfl, hE⟩
         have E5 := Lib.hid (E4.out.trans hE)
         clear hE)
      | (go_at_call 9
         refine (awake08 _ (HT2.out.ext E5.out)).mono ?_
         rintro e y6 ⟨rfl, hE⟩
         have E6 := Lib.hid (E5.out.trans hE)
         clear hE))
  go_wp2
  go_ret
  exact ⟨rfl, HEP.out.trans E6.out⟩

set_option maxRecDepth 100000 in
set_option maxHeartbeats 4000000 in
theorem kinds_0f (n : Int) (hn : isI64 n) (s : List UInt8) (h : s ≠ []) (hs : s.length ≤ 300) (w : World) (hT : Tab w) :
    Calls Tryd.prog 4 #[.int .i64 n, .string (str s), .int .u8 0] w fun e w' => e = .returned (.bool true) ∧ Ext w w' := by
  have R1 := Lib.hid (show rightT (.node 0 n s []) = false by rw [right_leaf]; simp [plainB, h])
  have R2 := Lib.hid (show rightT (.node 0 n s [.node 0 1 [] []]) = false by rw [right_one]; simp [plainB, h])
  have R3 := Lib.hid (show rightT (.node 2 0 [] [.node 0 n s [], .node 0 2 [] []]) = false by rw [right_two]; simp [plainB, h])
  have fs : (str s).toList.isEmpty = false := by rw [str_toList]; simpa using h
  have HN := Lib.hid hn
  have HT := Lib.hid hT
  have hsz := str_size s
  have hs2 : ¬ (300 : Int) < (s.length : Int) := by omega
  clear h
  clear hn hT
  have HL1 : Hid (∀ wx, Lies wx (.node 0 n s []) (.agg #[.int .u8 0, .int .i64 n, .string (str s), .slice none 0 0])) := Lib.hid (fun wx => lies_leaf wx (0 : UInt8) HN.out hs)
  have HL2 : Hid (∀ (wx wy : World) (b : Nat), Ext wx wy → wx.heap[b]? = some (.cells #[.int .u8 0, .int .i64 1, .string { data := #[] }, .slice none 0 0] 25 (0, 0)) → Lies wy (.node 0 n s [.node 0 1 [] []]) (.agg #[.int .u8 0, .int .i64 n, .string (str s), .slice (some ⟨b, 0, none⟩) 1 1])) :=
    Lib.hid (fun wx wy b hE hb => lies_leaf1 (W := wx) (0 : UInt8) HN.out (by unfold isI64; omega) hs hE (blk_ext hb hE))
  go_enter Tryd.func4, Tryd.ntmps4
  go_wp2_with fail
  have hE1 : Ext w ((w.alloc (.cells #[.int .u8 0, .int .i64 n, .string (str s), .slice none 0 0] 25)).alloc (.cells #[.int .u8 0, .int .i64 n, .string (str s), .slice none 0 0] 25)) := ((Ext.refl w).alloc _).alloc _
  have hb1 := blk_ext (blk_new w #[.int .u8 0, .int .i64 n, .string (str s), .slice none 0 0] 25) ((Ext.refl _).alloc (.cells #[.int .u8 0, .int .i64 n, .string (str s), .slice none 0 0] 25))
  have hb2 := blk_new (w.alloc (.cells #[.int .u8 0, .int .i64 n, .string (str s), .slice none 0 0] 25)) #[.int .u8 0, .int .i64 n, .string (str s), .slice none 0 0] 25
  rw [show (w.alloc (.cells #[.int .u8 0, .int .i64 n, .string (str s), .slice none 0 0] 25)).heap.size = w.heap.size + 1 by simp] at hb2
  generalize hw1 : (w.alloc (.cells #[.int .u8 0, .int .i64 n, .string (str s), .slice none 0 0] 25)).alloc (.cells #[.int .u8 0, .int .i64 n, .string (str s), .slice none 0 0] 25) = w1 at *
  clear hw1
  refine (hnum_any 1 w1).mono ?_
  rintro e w2 ⟨rfl, hE2⟩
  have hb1' := blk_ext hb1 hE2
  have hb2' := blk_ext hb2 hE2
  obtain ⟨p0, p1, p2, p3⟩ := Box4.cells (w := w2) (b := w.heap.size + 1) hb2'
  obtain ⟨q0, q1, q2, q3⟩ := Box4.frozen (w := w2) (b := w.heap.size + 1) hb2'
  have hlt2 := (Array.getElem?_eq_some_iff.1 hb2').1
  have HE2 := Lib.hid (hE1.trans hE2)
  have HB1 := Lib.hid hb1'
  have HB2 := Lib.hid hb2'
  clear hE1 hE2 hb1 hb2 hb1' hb2'
  go_wp2_with fail
  have hbv := Box4.ext (Box4.other (w := w2) (b := w.heap.size) HB1.out (show w.heap.size + 1 ≠ w.heap.size by omega) 3 (.slice (some ⟨w2.heap.size, 0, none⟩) 1 1)) ((Ext.refl _).alloc (.cells #[.int .u8 0, .int .i64 1, .string { data := #[] }, .slice none 0 0] 25))
  have hbw := Box4.ext (Box4.set3 (w := w2) (b := w.heap.size + 1) HB2.out (.slice (some ⟨w2.heap.size, 0, none⟩) 1 1)) ((Ext.refl _).alloc (.cells #[.int .u8 0, .int .i64 1, .string { data := #[] }, .slice none 0 0] 25))
  have hby := blk_new (w2.setCell ⟨w.heap.size + 1, 3, none⟩ (.slice (some ⟨w2.heap.size, 0, none⟩) 1 1)) #[.int .u8 0, .int .i64 1, .string { data := #[] }, .slice none 0 0] 25
  rw [show (w2.setCell ⟨w.heap.size + 1, 3, none⟩ (.slice (some ⟨w2.heap.size, 0, none⟩) 1 1)).heap.size = w2.heap.size by simp [World.setCell]] at hby
  have hEP : Ext w ((w2.setCell ⟨w.heap.size + 1, 3, none⟩ (.slice (some ⟨w2.heap.size, 0, none⟩) 1 1)).alloc (.cells #[.int .u8 0, .int .i64 1, .string { data := #[] }, .slice none 0 0] 25)) :=
    (HE2.out.setCell (p := ⟨w.heap.size + 1, 3, none⟩) (by show w.heap.size ≤ w.heap.size + 1; omega) _).alloc _
  generalize hWP : (w2.setCell ⟨w.heap.size + 1, 3, none⟩ (.slice (some ⟨w2.heap.size, 0, none⟩) 1 1)).alloc (.cells #[.int .u8 0, .int .i64 1, .string { data := #[] }, .slice none 0 0] 25) = WP at *
  have HL3 : Hid (∀ wx, Ext WP wx → Lies wx (.node 0 n s [.node 0 1 [] []]) (.agg #[.int .u8 0, .int .i64 n, .string (str s), .slice (some ⟨w2.heap.size, 0, none⟩) 1 1])) := Lib.hid (fun wx h => HL2.out WP wx _ h hby)
  have HT2 := Lib.hid (HT.out.ext hEP)
  have HEP := Lib.hid hEP
  clear hWP hby p0 p1 p2 p3 q0 q1 q2 q3 hlt2 HB1 HB2 HE2 hEP
  generalize w2.heap.size = Y at *
  generalize hVB : w.heap.size + 1 = VB at *
  clear hVB
  generalize w.heap.size = VA at *
  have HS : Hid (∀ w', Ext WP w' → (w'.cell? ⟨VA, 0, none⟩ = some (.int .u8 0) ∧ w'.cell? ⟨VA, 1, none⟩ = some (.int .i64 n) ∧ w'.cell? ⟨VA, 2, none⟩ = some (.string (str s)) ∧ w'.cell? ⟨VA, 3, none⟩ = some (.slice none 0 0) ∧ w'.cell? ⟨VB, 0, none⟩ = some (.int .u8 0) ∧ w'.cell? ⟨VB, 1, none⟩ = some (.int .i64 n) ∧ w'.cell? ⟨VB, 2, none⟩ = some (.string (str s)) ∧ w'.cell? ⟨VB, 3, none⟩ = some (.slice (some ⟨Y, 0, none⟩) 1 1))) := Lib.hid (fun w' h => by
    obtain ⟨a0, a1, a2, a3⟩ := (hbv.ext h).cells
    obtain ⟨b0, b1, b2, b3⟩ := (hbw.ext h).cells
    exact ⟨a0, a1, a2, a3, b0, b1, b2, b3⟩)
  have HDr : Hid (Ext WP WP.drew) := Lib.hid (Ext.refl WP).drew
  clear hbv hbw
  go_region_held3 (fun w' => w'.cell? ⟨VA, 0, none⟩ = some (.int .u8 0) ∧ w'.cell? ⟨VA, 1, none⟩ = some (.int .i64 n) ∧ w'.cell? ⟨VA, 2, none⟩ = some (.string (str s)) ∧ w'.cell? ⟨VA, 3, none⟩ = some (.slice none 0 0) ∧ w'.cell? ⟨VB, 0, none⟩ = some (.int .u8 0) ∧ w'.cell? ⟨VB, 1, none⟩ = some (.int .i64 n) ∧ w'.cell? ⟨VB, 2, none⟩ = some (.string (str s)) ∧ w'.cell? ⟨VB, 3, none⟩ = some (.slice (some ⟨Y, 0, none⟩) 1 1))
    (first | exact HS.out _ HDr.out | exact HS.out _ E1.out | exact HS.out _ E2.out | exact HS.out _ E3.out | exact HS.out _ (E3.out.alloc _) | exact HS.out _ E4.out | exact HS.out _ E5.out | exact HS.out _ E6.out)
    (first
      | (go_at_call_of 11 (Value.slice none 0 0)
         refine (vright_any _ _ _ (HL1.out _)).mono ?_
         rw [R1.out]
         rintro e y1 ⟨rfl, hE⟩
         have E1 := Lib.hid (HDr.out.trans hE)
         clear hE)
      | (go_at_call_of 11 (Value.slice (some ⟨Y, 0, none⟩) 1 1)
         refine (vright_any _ _ _ (HL3.out _ E1.out)).mono ?_
         rw [R2.out]
         rintro e y2 ⟨rfl, hE⟩
         have E2 := Lib.hid (E1.out.trans hE)
         clear hE)
      | (go_at_call 17
         refine (hnum_any 2 _).mono ?_
         rintro e y3 ⟨rfl, hE⟩
         have E3 := Lib.hid (E2.out.trans hE)
         clear hE)
      | (go_at_call 18
         refine (hlist_any _ _ _ _).mono ?_
         rintro e y4 ⟨rfl, hE⟩
         have E4 := Lib.hid ((E3.out.alloc _).trans hE)
         have L4 := Lib.hid (lies_list (lies_two (HL1.out y3) (lies_num y3 (n := 2) (by unfold isI64; omega)) (((Ext.refl y3).alloc _).trans hE) (blk_ext (blk_new y3 _ _) hE)))
         clear hE)
      | (go_at_call 11
         refine (vright_any _ _ _ L4.out).mono ?_
         rw [R3.out]
         rintro e y5 ⟨rfl, hE⟩
         have E5 := Lib.hid (E4.out.trans hE)
         clear hE)
      | (go_at_call 9
         refine (awake08 _ (HT2.out.ext E5.out)).mono ?_
         rintro e y6 ⟨rfl, hE⟩
         have E6 := Lib.hid (E5.out.trans hE)
         clear hE))
  go_wp2
  go_ret
  exact ⟨rfl, HEP.out.trans E6.out⟩

set_option maxRecDepth 100000 in
set_option maxHeartbeats 4000000 in
theorem kinds_1n (n : Int) (hn : isI64 n) (s : List UInt8) (h : n ≠ 0) (hs : s.length ≤ 300) (w : World) (hT : Tab w) :
    Calls Tryd.prog 4 #[.int .i64 n, .string (str s), .int .u8 1] w fun e w' => e = .returned (.bool true) ∧ Ext w w' := by
  have R1 := Lib.hid (show rightT (.node 1 n s []) = false by rw [right_leaf]; simp [plainB, h])
  have R2 := Lib.hid (show rightT (.node 1 n s [.node 0 1 [] []]) = false by rw [right_one]; simp [plainB, h])
  have R3 := Lib.hid (show rightT (.node 2 0 [] [.node 1 n s [], .node 0 2 [] []]) = false by rw [right_two]; simp [plainB, h])
  have fn : (n == 0) = false := by simpa using h
  have HN := Lib.hid hn
  have HT := Lib.hid hT
  have hsz := str_size s
  have hs2 : ¬ (300 : Int) < (s.length : Int) := by omega
  clear h
  clear hn hT
  have HL1 : Hid (∀ wx, Lies wx (.node 1 n s []) (.agg #[.int .u8 1, .int .i64 n, .string (str s), .slice none 0 0])) := Lib.hid (fun wx => lies_leaf wx (1 : UInt8) HN.out hs)
  have HL2 : Hid (∀ (wx wy : World) (b : Nat), Ext wx wy → wx.heap[b]? = some (.cells #[.int .u8 0, .int .i64 1, .string { data := #[] }, .slice none 0 0] 25 (0, 0)) → Lies wy (.node 1 n s [.node 0 1 [] []]) (.agg #[.int .u8 1, .int .i64 n, .string (str s), .slice (some ⟨b, 0, none⟩) 1 1])) :=
    Lib.hid (fun wx wy b hE hb => lies_leaf1 (W := wx) (1 : UInt8) HN.out (by unfold isI64; omega) hs hE (blk_ext hb hE))
  go_enter Tryd.func4, Tryd.ntmps4
  go_wp2_with fail
  have hE1 : Ext w ((w.alloc (.cells #[.int .u8 1, .int .i64 n, .string (str s), .slice none 0 0] 25)).alloc (.cells #[.int .u8 1, .int .i64 n, .string (str s), .slice none 0 0] 25)) := ((Ext.refl w).alloc _).alloc _
  have hb1 := blk_ext (blk_new w #[.int .u8 1, .int .i64 n, .string (str s), .slice none 0 0] 25) ((Ext.refl _).alloc (.cells #[.int .u8 1, .int .i64 n, .string (str s), .slice none 0 0] 25))
  have hb2 := blk_new (w.alloc (.cells #[.int .u8 1, .int .i64 n, .string (str s), .slice none 0 0] 25)) #[.int .u8 1, .int .i64 n, .string (str s), .slice none 0 0] 25
  rw [show (w.alloc (.cells #[.int .u8 1, .int .i64 n, .string (str s), .slice none 0 0] 25)).heap.size = w.heap.size + 1 by simp] at hb2
  generalize hw1 : (w.alloc (.cells #[.int .u8 1, .int .i64 n, .string (str s), .slice none 0 0] 25)).alloc (.cells #[.int .u8 1, .int .i64 n, .string (str s), .slice none 0 0] 25) = w1 at *
  clear hw1
  refine (hnum_any 1 w1).mono ?_
  rintro e w2 ⟨rfl, hE2⟩
  have hb1' := blk_ext hb1 hE2
  have hb2' := blk_ext hb2 hE2
  obtain ⟨p0, p1, p2, p3⟩ := Box4.cells (w := w2) (b := w.heap.size + 1) hb2'
  obtain ⟨q0, q1, q2, q3⟩ := Box4.frozen (w := w2) (b := w.heap.size + 1) hb2'
  have hlt2 := (Array.getElem?_eq_some_iff.1 hb2').1
  have HE2 := Lib.hid (hE1.trans hE2)
  have HB1 := Lib.hid hb1'
  have HB2 := Lib.hid hb2'
  clear hE1 hE2 hb1 hb2 hb1' hb2'
  go_wp2_with fail
  have hbv := Box4.ext (Box4.other (w := w2) (b := w.heap.size) HB1.out (show w.heap.size + 1 ≠ w.heap.size by omega) 3 (.slice (some ⟨w2.heap.size, 0, none⟩) 1 1)) ((Ext.refl _).alloc (.cells #[.int .u8 0, .int .i64 1, .string { data := #[] }, .slice none 0 0] 25))
  have hbw := Box4.ext (Box4.set3 (w := w2) (b := w.heap.size + 1) HB2.out (.slice (some ⟨w2.heap.size, 0, none⟩) 1 1)) ((Ext.refl _).alloc (.cells #[.int .u8 0, .int .i64 1, .string { data := #[] }, .slice none 0 0] 25))
  have hby := blk_new (w2.setCell ⟨w.heap.size + 1, 3, none⟩ (.slice (some ⟨w2.heap.size, 0, none⟩) 1 1)) #[.int .u8 0, .int .i64 1, .string { data := #[] }, .slice none 0 0] 25
  rw [show (w2.setCell ⟨w.heap.size + 1, 3, none⟩ (.slice (some ⟨w2.heap.size, 0, none⟩) 1 1)).heap.size = w2.heap.size by simp [World.setCell]] at hby
  have hEP : Ext w ((w2.setCell ⟨w.heap.size + 1, 3, none⟩ (.slice (some ⟨w2.heap.size, 0, none⟩) 1 1)).alloc (.cells #[.int .u8 0, .int .i64 1, .string { data := #[] }, .slice none 0 0] 25)) :=
    (HE2.out.setCell (p := ⟨w.heap.size + 1, 3, none⟩) (by show w.heap.size ≤ w.heap.size + 1; omega) _).alloc _
  generalize hWP : (w2.setCell ⟨w.heap.size + 1, 3, none⟩ (.slice (some ⟨w2.heap.size, 0, none⟩) 1 1)).alloc (.cells #[.int .u8 0, .int .i64 1, .string { data := #[] }, .slice none 0 0] 25) = WP at *
  have HL3 : Hid (∀ wx, Ext WP wx → Lies wx (.node 1 n s [.node 0 1 [] []]) (.agg #[.int .u8 1, .int .i64 n, .string (str s), .slice (some ⟨w2.heap.size, 0, none⟩) 1 1])) := Lib.hid (fun wx h => HL2.out WP wx _ h hby)
  have HT2 := Lib.hid (HT.out.ext hEP)
  have HEP := Lib.hid hEP
  clear hWP hby p0 p1 p2 p3 q0 q1 q2 q3 hlt2 HB1 HB2 HE2 hEP
  generalize w2.heap.size = Y at *
  generalize hVB : w.heap.size + 1 = VB at *
  clear hVB
  generalize w.heap.size = VA at *
  have HS : Hid (∀ w', Ext WP w' → (w'.cell? ⟨VA, 0, none⟩ = some (.int .u8 1) ∧ w'.cell? ⟨VA, 1, none⟩ = some (.int .i64 n) ∧ w'.cell? ⟨VA, 2, none⟩ = some (.string (str s)) ∧ w'.cell? ⟨VA, 3, none⟩ = some (.slice none 0 0) ∧ w'.cell? ⟨VB, 0, none⟩ = some (.int .u8 1) ∧ w'.cell? ⟨VB, 1, none⟩ = some (.int .i64 n) ∧ w'.cell? ⟨VB, 2, none⟩ = some (.string (str s)) ∧ w'.cell? ⟨VB, 3, none⟩ = some (.slice (some ⟨Y, 0, none⟩) 1 1))) := Lib.hid (fun w' h => by
    obtain ⟨a0, a1, a2, a3⟩ := (hbv.ext h).cells
    obtain ⟨b0, b1, b2, b3⟩ := (hbw.ext h).cells
    exact ⟨a0, a1, a2, a3, b0, b1, b2, b3⟩)
  have HDr : Hid (Ext WP WP.drew) := Lib.hid (Ext.refl WP).drew
  clear hbv hbw
  go_region_held3 (fun w' => w'.cell? ⟨VA, 0, none⟩ = some (.int .u8 1) ∧ w'.cell? ⟨VA, 1, none⟩ = some (.int .i64 n) ∧ w'.cell? ⟨VA, 2, none⟩ = some (.string (str s)) ∧ w'.cell? ⟨VA, 3, none⟩ = some (.slice none 0 0) ∧ w'.cell? ⟨VB, 0, none⟩ = some (.int .u8 1) ∧ w'.cell? ⟨VB, 1, none⟩ = some (.int .i64 n) ∧ w'.cell? ⟨VB, 2, none⟩ = some (.string (str s)) ∧ w'.cell? ⟨VB, 3, none⟩ = some (.slice (some ⟨Y, 0, none⟩) 1 1))
    (first | exact HS.out _ HDr.out | exact HS.out _ E1.out | exact HS.out _ E2.out | exact HS.out _ E3.out | exact HS.out _ (E3.out.alloc _) | exact HS.out _ E4.out | exact HS.out _ E5.out | exact HS.out _ E6.out)
    (first
      | (go_at_call_of 11 (Value.slice none 0 0)
         refine (vright_any _ _ _ (HL1.out _)).mono ?_
         rw [R1.out]
         rintro e y1 ⟨rfl, hE⟩
         have E1 := Lib.hid (HDr.out.trans hE)
         clear hE)
      | (go_at_call_of 11 (Value.slice (some ⟨Y, 0, none⟩) 1 1)
         refine (vright_any _ _ _ (HL3.out _ E1.out)).mono ?_
         rw [R2.out]
         rintro e y2 ⟨rfl, hE⟩
         have E2 := Lib.hid (E1.out.trans hE)
         clear hE)
      | (go_at_call 17
         refine (hnum_any 2 _).mono ?_
         rintro e y3 ⟨rfl, hE⟩
         have E3 := Lib.hid (E2.out.trans hE)
         clear hE)
      | (go_at_call 18
         refine (hlist_any _ _ _ _).mono ?_
         rintro e y4 ⟨rfl, hE⟩
         have E4 := Lib.hid ((E3.out.alloc _).trans hE)
         have L4 := Lib.hid (lies_list (lies_two (HL1.out y3) (lies_num y3 (n := 2) (by unfold isI64; omega)) (((Ext.refl y3).alloc _).trans hE) (blk_ext (blk_new y3 _ _) hE)))
         clear hE)
      | (go_at_call 11
         refine (vright_any _ _ _ L4.out).mono ?_
         rw [R3.out]
         rintro e y5 ⟨rfl, hE⟩
         have E5 := Lib.hid (E4.out.trans hE)
         clear hE)
      | (go_at_call 9
         refine (awake08 _ (HT2.out.ext E5.out)).mono ?_
         rintro e y6 ⟨rfl, hE⟩
         have E6 := Lib.hid (E5.out.trans hE)
         clear hE))
  go_wp2
  go_ret
  exact ⟨rfl, HEP.out.trans E6.out⟩

set_option maxRecDepth 100000 in
set_option maxHeartbeats 4000000 in
theorem kinds_1l (n : Int) (hn : isI64 n) (s : List UInt8) (h0 : n = 0) (h : 100 < s.length) (hs : s.length ≤ 300) (w : World) (hT : Tab w) :
    Calls Tryd.prog 4 #[.int .i64 n, .string (str s), .int .u8 1] w fun e w' => e = .returned (.bool true) ∧ Ext w w' := by
  have R1 := Lib.hid (show rightT (.node 1 n s []) = false by rw [right_leaf]; (simp [plainB] <;> omega))
  have R2 := Lib.hid (show rightT (.node 1 n s [.node 0 1 [] []]) = false by rw [right_one]; (simp [plainB] <;> omega))
  have R3 := Lib.hid (show rightT (.node 2 0 [] [.node 1 n s [], .node 0 2 [] []]) = false by rw [right_two]; (simp [plainB] <;> omega))
  have fn : (n == 0) = true := by simp [h0]
  have fl : ¬ (s.length : Int) ≤ 100 := by omega
  have HN := Lib.hid hn
  have HT := Lib.hid hT
  have hsz := str_size s
  have hs2 : ¬ (300 : Int) < (s.length : Int) := by omega
  clear h0 h
  clear hn hT
  have HL1 : Hid (∀ wx, Lies wx (.node 1 n s []) (.agg #[.int .u8 1, .int .i64 n, .string (str s), .slice none 0 0])) := Lib.hid (fun wx => lies_leaf wx (1 : UInt8) HN.out hs)
  have HL2 : Hid (∀ (wx wy : World) (b : Nat), Ext wx wy → wx.heap[b]? = some (.cells #[.int .u8 0, .int .i64 1, .string { data := #[] }, .slice none 0 0] 25 (0, 0)) → Lies wy (.node 1 n s [.node 0 1 [] []]) (.agg #[.int .u8 1, .int .i64 n, .string (str s), .slice (some ⟨b, 0, none⟩) 1 1])) :=
    Lib.hid (fun wx wy b hE hb => lies_leaf1 (W := wx) (1 : UInt8) HN.out (by unfold isI64; omega) hs hE (blk_ext hb hE))
  go_enter Tryd.func4, Tryd.ntmps4
  go_wp2_with fail
  have hE1 : Ext w ((w.alloc (.cells #[.int .u8 1, .int .i64 n, .string (str s), .slice none 0 0] 25)).alloc (.cells #[.int .u8 1, .int .i64 n, .string (str s), .slice none 0 0] 25)) := ((Ext.refl w).alloc _).alloc _
  have hb1 := blk_ext (blk_new w #[.int .u8 1, .int .i64 n, .string (str s), .slice none 0 0] 25) ((Ext.refl _).alloc (.cells #[.int .u8 1, .int .i64 n, .string (str s), .slice none 0 0] 25))
  have hb2 := blk_new (w.alloc (.cells #[.int .u8 1, .int .i64 n, .string (str s), .slice none 0 0] 25)) #[.int .u8 1, .int .i64 n, .string (str s), .slice none 0 0] 25
  rw [show (w.alloc (.cells #[.int .u8 1, .int .i64 n, .string (str s), .slice none 0 0] 25)).heap.size = w.heap.size + 1 by simp] at hb2
  generalize hw1 : (w.alloc (.cells #[.int .u8 1, .int .i64 n, .string (str s), .slice none 0 0] 25)).alloc (.cells #[.int .u8 1, .int .i64 n, .string (str s), .slice none 0 0] 25) = w1 at *
  clear hw1
  refine (hnum_any 1 w1).mono ?_
  rintro e w2 ⟨rfl, hE2⟩
  have hb1' := blk_ext hb1 hE2
  have hb2' := blk_ext hb2 hE2
  obtain ⟨p0, p1, p2, p3⟩ := Box4.cells (w := w2) (b := w.heap.size + 1) hb2'
  obtain ⟨q0, q1, q2, q3⟩ := Box4.frozen (w := w2) (b := w.heap.size + 1) hb2'
  have hlt2 := (Array.getElem?_eq_some_iff.1 hb2').1
  have HE2 := Lib.hid (hE1.trans hE2)
  have HB1 := Lib.hid hb1'
  have HB2 := Lib.hid hb2'
  clear hE1 hE2 hb1 hb2 hb1' hb2'
  go_wp2_with fail
  have hbv := Box4.ext (Box4.other (w := w2) (b := w.heap.size) HB1.out (show w.heap.size + 1 ≠ w.heap.size by omega) 3 (.slice (some ⟨w2.heap.size, 0, none⟩) 1 1)) ((Ext.refl _).alloc (.cells #[.int .u8 0, .int .i64 1, .string { data := #[] }, .slice none 0 0] 25))
  have hbw := Box4.ext (Box4.set3 (w := w2) (b := w.heap.size + 1) HB2.out (.slice (some ⟨w2.heap.size, 0, none⟩) 1 1)) ((Ext.refl _).alloc (.cells #[.int .u8 0, .int .i64 1, .string { data := #[] }, .slice none 0 0] 25))
  have hby := blk_new (w2.setCell ⟨w.heap.size + 1, 3, none⟩ (.slice (some ⟨w2.heap.size, 0, none⟩) 1 1)) #[.int .u8 0, .int .i64 1, .string { data := #[] }, .slice none 0 0] 25
  rw [show (w2.setCell ⟨w.heap.size + 1, 3, none⟩ (.slice (some ⟨w2.heap.size, 0, none⟩) 1 1)).heap.size = w2.heap.size by simp [World.setCell]] at hby
  have hEP : Ext w ((w2.setCell ⟨w.heap.size + 1, 3, none⟩ (.slice (some ⟨w2.heap.size, 0, none⟩) 1 1)).alloc (.cells #[.int .u8 0, .int .i64 1, .string { data := #[] }, .slice none 0 0] 25)) :=
    (HE2.out.setCell (p := ⟨w.heap.size + 1, 3, none⟩) (by show w.heap.size ≤ w.heap.size + 1; omega) _).alloc _
  generalize hWP : (w2.setCell ⟨w.heap.size + 1, 3, none⟩ (.slice (some ⟨w2.heap.size, 0, none⟩) 1 1)).alloc (.cells #[.int .u8 0, .int .i64 1, .string { data := #[] }, .slice none 0 0] 25) = WP at *
  have HL3 : Hid (∀ wx, Ext WP wx → Lies wx (.node 1 n s [.node 0 1 [] []]) (.agg #[.int .u8 1, .int .i64 n, .string (str s), .slice (some ⟨w2.heap.size, 0, none⟩) 1 1])) := Lib.hid (fun wx h => HL2.out WP wx _ h hby)
  have HT2 := Lib.hid (HT.out.ext hEP)
  have HEP := Lib.hid hEP
  clear hWP hby p0 p1 p2 p3 q0 q1 q2 q3 hlt2 HB1 HB2 HE2 hEP
  generalize w2.heap.size = Y at *
  generalize hVB : w.heap.size + 1 = VB at *
  clear hVB
  generalize w.heap.size = VA at *
  have HS : Hid (∀ w', Ext WP w' → (w'.cell? ⟨VA, 0, none⟩ = some (.int .u8 1) ∧ w'.cell? ⟨VA, 1, none⟩ = some (.int .i64 n) ∧ w'.cell? ⟨VA, 2, none⟩ = some (.string (str s)) ∧ w'.cell? ⟨VA, 3, none⟩ = some (.slice none 0 0) ∧ w'.cell? ⟨VB, 0, none⟩ = some (.int .u8 1) ∧ w'.cell? ⟨VB, 1, none⟩ = some (.int .i64 n) ∧ w'.cell? ⟨VB, 2, none⟩ = some (.string (str s)) ∧ w'.cell? ⟨VB, 3, none⟩ = some (.slice (some ⟨Y, 0, none⟩) 1 1))) := Lib.hid (fun w' h => by
    obtain ⟨a0, a1, a2, a3⟩ := (hbv.ext h).cells
    obtain ⟨b0, b1, b2, b3⟩ := (hbw.ext h).cells
    exact ⟨a0, a1, a2, a3, b0, b1, b2, b3⟩)
  have HDr : Hid (Ext WP WP.drew) := Lib.hid (Ext.refl WP).drew
  clear hbv hbw
  go_region_held3 (fun w' => w'.cell? ⟨VA, 0, none⟩ = some (.int .u8 1) ∧ w'.cell? ⟨VA, 1, none⟩ = some (.int .i64 n) ∧ w'.cell? ⟨VA, 2, none⟩ = some (.string (str s)) ∧ w'.cell? ⟨VA, 3, none⟩ = some (.slice none 0 0) ∧ w'.cell? ⟨VB, 0, none⟩ = some (.int .u8 1) ∧ w'.cell? ⟨VB, 1, none⟩ = some (.int .i64 n) ∧ w'.cell? ⟨VB, 2, none⟩ = some (.string (str s)) ∧ w'.cell? ⟨VB, 3, none⟩ = some (.slice (some ⟨Y, 0, none⟩) 1 1))
    (first | exact HS.out _ HDr.out | exact HS.out _ E1.out | exact HS.out _ E2.out | exact HS.out _ E3.out | exact HS.out _ (E3.out.alloc _) | exact HS.out _ E4.out | exact HS.out _ E5.out | exact HS.out _ E6.out)
    (first
      | (go_at_call_of 11 (Value.slice none 0 0)
         refine (vright_any _ _ _ (HL1.out _)).mono ?_
         rw [R1.out]
         rintro e y1 ⟨rfl, hE⟩
         have E1 := Lib.hid (HDr.out.trans hE)
         clear hE)
      | (go_at_call_of 11 (Value.slice (some ⟨Y, 0, none⟩) 1 1)
         refine (vright_any _ _ _ (HL3.out _ E1.out)).mono ?_
         rw [R2.out]
         rintro e y2 ⟨rfl, hE⟩
         have E2 := Lib.hid (E1.out.trans hE)
         clear hE)
      | (go_at_call 17
         refine (hnum_any 2 _).mono ?_
         rintro e y3 ⟨rfl, hE⟩
         have E3 := Lib.hid (E2.out.trans hE)
         clear hE)
      | (go_at_call 18
         refine (hlist_any _ _ _ _).mono ?_
         rintro e y4 ⟨rfl, hE⟩
         have E4 := Lib.hid ((E3.out.alloc _).trans hE)
         have L4 := Lib.hid (lies_list (lies_two (HL1.out y3) (lies_num y3 (n := 2) (by unfold isI64; omega)) (((Ext.refl y3).alloc _).trans hE) (blk_ext (blk_new y3 _ _) hE)))
         clear hE)
      | (go_at_call 11
         refine (vright_any _ _ _ L4.out).mono ?_
         rw [R3.out]
         rintro e y5 ⟨rfl, hE⟩
         have E5 := Lib.hid (E4.out.trans hE)
         clear hE)
      | (go_at_call 9
         refine (awake08 _ (HT2.out.ext E5.out)).mono ?_
         rintro e y6 ⟨rfl, hE⟩
         have E6 := Lib.hid (E5.out.trans hE)
         clear hE))
  go_wp2
  go_ret
  exact ⟨rfl, HEP.out.trans E6.out⟩

set_option maxRecDepth 100000 in
set_option maxHeartbeats 4000000 in
theorem kinds_1t (n : Int) (hn : isI64 n) (s : List UInt8) (h0 : n = 0) (h : s.length ≤ 100) (hs : s.length ≤ 300) (w : World) (hT : Tab w) :
    Calls Tryd.prog 4 #[.int .i64 n, .string (str s), .int .u8 1] w fun e w' => e = .returned (.bool true) ∧ Ext w w' := by
  have R1 := Lib.hid (show rightT (.node 1 n s []) = true by rw [right_leaf]; simp [plainB, h0, h])
  have R2 := Lib.hid (show rightT (.node 1 n s [.node 0 1 [] []]) = false by rw [right_one]; simp [plainB])
  have R3 := Lib.hid (show rightT (.node 2 0 [] [.node 1 n s [], .node 0 2 [] []]) = true by rw [right_two]; simp [plainB, h0, h])
  have fn : (n == 0) = true := by simp [h0]
  have fl : (s.length : Int) ≤ 100 := by omega
  have HN := Lib.hid hn
  have HT := Lib.hid hT
  have hsz := str_size s
  have hs2 : ¬ (300 : Int) < (s.length : Int) := by omega
  clear h0 h
  clear hn hT
  have HL1 : Hid (∀ wx, Lies wx (.node 1 n s []) (.agg #[.int .u8 1, .int .i64 n, .string (str s), .slice none 0 0])) := Lib.hid (fun wx => lies_leaf wx (1 : UInt8) HN.out hs)
  have HL2 : Hid (∀ (wx wy : World) (b : Nat), Ext wx wy → wx.heap[b]? = some (.cells #[.int .u8 0, .int .i64 1, .string { data := #[] }, .slice none 0 0] 25 (0, 0)) → Lies wy (.node 1 n s [.node 0 1 [] []]) (.agg #[.int .u8 1, .int .i64 n, .string (str s), .slice (some ⟨b, 0, none⟩) 1 1])) :=
    Lib.hid (fun wx wy b hE hb => lies_leaf1 (W := wx) (1 : UInt8) HN.out (by unfold isI64; omega) hs hE (blk_ext hb hE))
  go_enter Tryd.func4, Tryd.ntmps4
  go_wp2_with fail
  have hE1 : Ext w ((w.alloc (.cells #[.int .u8 1, .int .i64 n, .string (str s), .slice none 0 0] 25)).alloc (.cells #[.int .u8 1, .int .i64 n, .string (str s), .slice none 0 0] 25)) := ((Ext.refl w).alloc _).alloc _
  have hb1 := blk_ext (blk_new w #[.int .u8 1, .int .i64 n, .string (str s), .slice none 0 0] 25) ((Ext.refl _).alloc (.cells #[.int .u8 1, .int .i64 n, .string (str s), .slice none 0 0] 25))
  have hb2 := blk_new (w.alloc (.cells #[.int .u8 1, .int .i64 n, .string (str s), .slice none 0 0] 25)) #[.int .u8 1, .int .i64 n, .string (str s), .slice none 0 0] 25
  rw [show (w.alloc (.cells #[.int .u8 1, .int .i64 n, .string (str s), .slice none 0 0] 25)).heap.size = w.heap.size + 1 by simp] at hb2
  generalize hw1 : (w.alloc (.cells #[.int .u8 1, .int .i64 n, .string (str s), .slice none 0 0] 25)).alloc (.cells #[.int .u8 1, .int .i64 n, .string (str s), .slice none 0 0] 25) = w1 at *
  clear hw1
  refine (hnum_any 1 w1).mono ?_
  rintro e w2 ⟨rfl, hE2⟩
  have hb1' := blk_ext hb1 hE2
  have hb2' := blk_ext hb2 hE2
  obtain ⟨p0, p1, p2, p3⟩ := Box4.cells (w := w2) (b := w.heap.size + 1) hb2'
  obtain ⟨q0, q1, q2, q3⟩ := Box4.frozen (w := w2) (b := w.heap.size + 1) hb2'
  have hlt2 := (Array.getElem?_eq_some_iff.1 hb2').1
  have HE2 := Lib.hid (hE1.trans hE2)
  have HB1 := Lib.hid hb1'
  have HB2 := Lib.hid hb2'
  clear hE1 hE2 hb1 hb2 hb1' hb2'
  go_wp2_with fail
  have hbv := Box4.ext (Box4.other (w := w2) (b := w.heap.size) HB1.out (show w.heap.size + 1 ≠ w.heap.size by omega) 3 (.slice (some ⟨w2.heap.size, 0, none⟩) 1 1)) ((Ext.refl _).alloc (.cells #[.int .u8 0, .int .i64 1, .string { data := #[] }, .slice none 0 0] 25))
  have hbw := Box4.ext (Box4.set3 (w := w2) (b := w.heap.size + 1) HB2.out (.slice (some ⟨w2.heap.size, 0, none⟩) 1 1)) ((Ext.refl _).alloc (.cells #[.int .u8 0, .int .i64 1, .string { data := #[] }, .slice none 0 0] 25))
  have hby := blk_new (w2.setCell ⟨w.heap.size + 1, 3, none⟩ (.slice (some ⟨w2.heap.size, 0, none⟩) 1 1)) #[.int .u8 0, .int .i64 1, .string { data := #[] }, .slice none 0 0] 25
  rw [show (w2.setCell ⟨w.heap.size + 1, 3, none⟩ (.slice (some ⟨w2.heap.size, 0, none⟩) 1 1)).heap.size = w2.heap.size by simp [World.setCell]] at hby
  have hEP : Ext w ((w2.setCell ⟨w.heap.size + 1, 3, none⟩ (.slice (some ⟨w2.heap.size, 0, none⟩) 1 1)).alloc (.cells #[.int .u8 0, .int .i64 1, .string { data := #[] }, .slice none 0 0] 25)) :=
    (HE2.out.setCell (p := ⟨w.heap.size + 1, 3, none⟩) (by show w.heap.size ≤ w.heap.size + 1; omega) _).alloc _
  generalize hWP : (w2.setCell ⟨w.heap.size + 1, 3, none⟩ (.slice (some ⟨w2.heap.size, 0, none⟩) 1 1)).alloc (.cells #[.int .u8 0, .int .i64 1, .string { data := #[] }, .slice none 0 0] 25) = WP at *
  have HL3 : Hid (∀ wx, Ext WP wx → Lies wx (.node 1 n s [.node 0 1 [] []]) (.agg #[.int .u8 1, .int .i64 n, .string (str s), .slice (some ⟨w2.heap.size, 0, none⟩) 1 1])) := Lib.hid (fun wx h => HL2.out WP wx _ h hby)
  have HT2 := Lib.hid (HT.out.ext hEP)
  have HEP := Lib.hid hEP
  clear hWP hby p0 p1 p2 p3 q0 q1 q2 q3 hlt2 HB1 HB2 HE2 hEP
  generalize w2.heap.size = Y at *
  generalize hVB : w.heap.size + 1 = VB at *
  clear hVB
  generalize w.heap.size = VA at *
  have HS : Hid (∀ w', Ext WP w' → (w'.cell? ⟨VA, 0, none⟩ = some (.int .u8 1) ∧ w'.cell? ⟨VA, 1, none⟩ = some (.int .i64 n) ∧ w'.cell? ⟨VA, 2, none⟩ = some (.string (str s)) ∧ w'.cell? ⟨VA, 3, none⟩ = some (.slice none 0 0) ∧ w'.cell? ⟨VB, 0, none⟩ = some (.int .u8 1) ∧ w'.cell? ⟨VB, 1, none⟩ = some (.int .i64 n) ∧ w'.cell? ⟨VB, 2, none⟩ = some (.string (str s)) ∧ w'.cell? ⟨VB, 3, none⟩ = some (.slice (some ⟨Y, 0, none⟩) 1 1))) := Lib.hid (fun w' h => by
    obtain ⟨a0, a1, a2, a3⟩ := (hbv.ext h).cells
    obtain ⟨b0, b1, b2, b3⟩ := (hbw.ext h).cells
    exact ⟨a0, a1, a2, a3, b0, b1, b2, b3⟩)
  have HDr : Hid (Ext WP WP.drew) := Lib.hid (Ext.refl WP).drew
  clear hbv hbw
  go_region_held3 (fun w' => w'.cell? ⟨VA, 0, none⟩ = some (.int .u8 1) ∧ w'.cell? ⟨VA, 1, none⟩ = some (.int .i64 n) ∧ w'.cell? ⟨VA, 2, none⟩ = some (.string (str s)) ∧ w'.cell? ⟨VA, 3, none⟩ = some (.slice none 0 0) ∧ w'.cell? ⟨VB, 0, none⟩ = some (.int .u8 1) ∧ w'.cell? ⟨VB, 1, none⟩ = some (.int .i64 n) ∧ w'.cell? ⟨VB, 2, none⟩ = some (.string (str s)) ∧ w'.cell? ⟨VB, 3, none⟩ = some (.slice (some ⟨Y, 0, none⟩) 1 1))
    (first | exact HS.out _ HDr.out | exact HS.out _ E1.out | exact HS.out _ E2.out | exact HS.out _ E3.out | exact HS.out _ (E3.out.alloc _) | exact HS.out _ E4.out | exact HS.out _ E5.out | exact HS.out _ E6.out)
    (first
      | (go_at_call_of 11 (Value.slice none 0 0)
         refine (vright_any _ _ _ (HL1.out _)).mono ?_
         rw [R1.out]
         rintro e y1 ⟨rfl, hE⟩
         have E1 := Lib.hid (HDr.out.trans hE)
         clear hE)
      | (go_at_call_of 11 (Value.slice (some ⟨Y, 0, none⟩) 1 1)
         refine (vright_any _ _ _ (HL3.out _ E1.out)).mono ?_
         rw [R2.out]
         rintro e y2 ⟨rfl, hE⟩
         have E2 := Lib.hid (E1.out.trans hE)
         clear hE)
      | (go_at_call 17
         refine (hnum_any 2 _).mono ?_
         rintro e y3 ⟨rfl, hE⟩
         have E3 := Lib.hid (E2.out.trans hE)
         clear hE)
      | (go_at_call 18
         refine (hlist_any _ _ _ _).mono ?_
         rintro e y4 ⟨rfl, hE⟩
         have E4 := Lib.hid ((E3.out.alloc _).trans hE)
         have L4 := Lib.hid (lies_list (lies_two (HL1.out y3) (lies_num y3 (n := 2) (by unfold isI64; omega)) (((Ext.refl y3).alloc _).trans hE) (blk_ext (blk_new y3 _ _) hE)))
         clear hE)
      | (go_at_call 11
         refine (vright_any _ _ _ L4.out).mono ?_
         rw [R3.out]
         rintro e y5 ⟨rfl, hE⟩
         have E5 := Lib.hid (E4.out.trans hE)
         clear hE)
      | (go_at_call 9
         refine (awake08 _ (HT2.out.ext E5.out)).mono ?_
         rintro e y6 ⟨rfl, hE⟩
         have E6 := Lib.hid (E5.out.trans hE)
         clear hE))
  go_wp2
  go_ret
  exact ⟨rfl, HEP.out.trans E6.out⟩

set_option maxRecDepth 100000 in
set_option maxHeartbeats 4000000 in
theorem kinds_2n (n : Int) (hn : isI64 n) (s : List UInt8) (h : n ≠ 0) (hs : s.length ≤ 300) (w : World) (hT : Tab w) :
    Calls Tryd.prog 4 #[.int .i64 n, .string (str s), .int .u8 2] w fun e w' => e = .returned (.bool true) ∧ Ext w w' := by
  have R1 := Lib.hid (show rightT (.node 2 n s []) = false by rw [right_leaf]; simp [plainB, h])
  have R2 := Lib.hid (show rightT (.node 2 n s [.node 0 1 [] []]) = false by rw [right_one]; simp [plainB, h])
  have R3 := Lib.hid (show rightT (.node 2 0 [] [.node 2 n s [], .node 0 2 [] []]) = false by rw [right_two]; simp [plainB, h])
  have fn : (n == 0) = false := by simpa using h
  have HN := Lib.hid hn
  have HT := Lib.hid hT
  have hsz := str_size s
  have hs2 : ¬ (300 : Int) < (s.length : Int) := by omega
  clear h
  clear hn hT
  have HL1 : Hid (∀ wx, Lies wx (.node 2 n s []) (.agg #[.int .u8 2, .int .i64 n, .string (str s), .slice none 0 0])) := Lib.hid (fun wx => lies_leaf wx (2 : UInt8) HN.out hs)
  have HL2 : Hid (∀ (wx wy : World) (b : Nat), Ext wx wy → wx.heap[b]? = some (.cells #[.int .u8 0, .int .i64 1, .string { data := #[] }, .slice none 0 0] 25 (0, 0)) → Lies wy (.node 2 n s [.node 0 1 [] []]) (.agg #[.int .u8 2, .int .i64 n, .string (str s), .slice (some ⟨b, 0, none⟩) 1 1])) :=
    Lib.hid (fun wx wy b hE hb => lies_leaf1 (W := wx) (2 : UInt8) HN.out (by unfold isI64; omega) hs hE (blk_ext hb hE))
  go_enter Tryd.func4, Tryd.ntmps4
  go_wp2_with fail
  have hE1 : Ext w ((w.alloc (.cells #[.int .u8 2, .int .i64 n, .string (str s), .slice none 0 0] 25)).alloc (.cells #[.int .u8 2, .int .i64 n, .string (str s), .slice none 0 0] 25)) := ((Ext.refl w).alloc _).alloc _
  have hb1 := blk_ext (blk_new w #[.int .u8 2, .int .i64 n, .string (str s), .slice none 0 0] 25) ((Ext.refl _).alloc (.cells #[.int .u8 2, .int .i64 n, .string (str s), .slice none 0 0] 25))
  have hb2 := blk_new (w.alloc (.cells #[.int .u8 2, .int .i64 n, .string (str s), .slice none 0 0] 25)) #[.int .u8 2, .int .i64 n, .string (str s), .slice none 0 0] 25
  rw [show (w.alloc (.cells #[.int .u8 2, .int .i64 n, .string (str s), .slice none 0 0] 25)).heap.size = w.heap.size + 1 by simp] at hb2
  generalize hw1 : (w.alloc (.cells #[.int .u8 2, .int .i64 n, .string (str s), .slice none 0 0] 25)).alloc (.cells #[.int .u8 2, .int .i64 n, .string (str s), .slice none 0 0] 25) = w1 at *
  clear hw1
  refine (hnum_any 1 w1).mono ?_
  rintro e w2 ⟨rfl, hE2⟩
  have hb1' := blk_ext hb1 hE2
  have hb2' := blk_ext hb2 hE2
  obtain ⟨p0, p1, p2, p3⟩ := Box4.cells (w := w2) (b := w.heap.size + 1) hb2'
  obtain ⟨q0, q1, q2, q3⟩ := Box4.frozen (w := w2) (b := w.heap.size + 1) hb2'
  have hlt2 := (Array.getElem?_eq_some_iff.1 hb2').1
  have HE2 := Lib.hid (hE1.trans hE2)
  have HB1 := Lib.hid hb1'
  have HB2 := Lib.hid hb2'
  clear hE1 hE2 hb1 hb2 hb1' hb2'
  go_wp2_with fail
  have hbv := Box4.ext (Box4.other (w := w2) (b := w.heap.size) HB1.out (show w.heap.size + 1 ≠ w.heap.size by omega) 3 (.slice (some ⟨w2.heap.size, 0, none⟩) 1 1)) ((Ext.refl _).alloc (.cells #[.int .u8 0, .int .i64 1, .string { data := #[] }, .slice none 0 0] 25))
  have hbw := Box4.ext (Box4.set3 (w := w2) (b := w.heap.size + 1) HB2.out (.slice (some ⟨w2.heap.size, 0, none⟩) 1 1)) ((Ext.refl _).alloc (.cells #[.int .u8 0, .int .i64 1, .string { data := #[] }, .slice none 0 0] 25))
  have hby := blk_new (w2.setCell ⟨w.heap.size + 1, 3, none⟩ (.slice (some ⟨w2.heap.size, 0, none⟩) 1 1)) #[.int .u8 0, .int .i64 1, .string { data := #[] }, .slice none 0 0] 25
  rw [show (w2.setCell ⟨w.heap.size + 1, 3, none⟩ (.slice (some ⟨w2.heap.size, 0, none⟩) 1 1)).heap.size = w2.heap.size by simp [World.setCell]] at hby
  have hEP : Ext w ((w2.setCell ⟨w.heap.size + 1, 3, none⟩ (.slice (some ⟨w2.heap.size, 0, none⟩) 1 1)).alloc (.cells #[.int .u8 0, .int .i64 1, .string { data := #[] }, .slice none 0 0] 25)) :=
    (HE2.out.setCell (p := ⟨w.heap.size + 1, 3, none⟩) (by show w.heap.size ≤ w.heap.size + 1; omega) _).alloc _
  generalize hWP : (w2.setCell ⟨w.heap.size + 1, 3, none⟩ (.slice (some ⟨w2.heap.size, 0, none⟩) 1 1)).alloc (.cells #[.int .u8 0, .int .i64 1, .string { data := #[] }, .slice none 0 0] 25) = WP at *
  have HL3 : Hid (∀ wx, Ext WP wx → Lies wx (.node 2 n s [.node 0 1 [] []]) (.agg #[.int .u8 2, .int .i64 n, .string (str s), .slice (some ⟨w2.heap.size, 0, none⟩) 1 1])) := Lib.hid (fun wx h => HL2.out WP wx _ h hby)
  have HT2 := Lib.hid (HT.out.ext hEP)
  have HEP := Lib.hid hEP
  clear hWP hby p0 p1 p2 p3 q0 q1 q2 q3 hlt2 HB1 HB2 HE2 hEP
  generalize w2.heap.size = Y at *
  generalize hVB : w.heap.size + 1 = VB at *
  clear hVB
  generalize w.heap.size = VA at *
  have HS : Hid (∀ w', Ext WP w' → (w'.cell? ⟨VA, 0, none⟩ = some (.int .u8 2) ∧ w'.cell? ⟨VA, 1, none⟩ = some (.int .i64 n) ∧ w'.cell? ⟨VA, 2, none⟩ = some (.string (str s)) ∧ w'.cell? ⟨VA, 3, none⟩ = some (.slice none 0 0) ∧ w'.cell? ⟨VB, 0, none⟩ = some (.int .u8 2) ∧ w'.cell? ⟨VB, 1, none⟩ = some (.int .i64 n) ∧ w'.cell? ⟨VB, 2, none⟩ = some (.string (str s)) ∧ w'.cell? ⟨VB, 3, none⟩ = some (.slice (some ⟨Y, 0, none⟩) 1 1))) := Lib.hid (fun w' h => by
    obtain ⟨a0, a1, a2, a3⟩ := (hbv.ext h).cells
    obtain ⟨b0, b1, b2, b3⟩ := (hbw.ext h).cells
    exact ⟨a0, a1, a2, a3, b0, b1, b2, b3⟩)
  have HDr : Hid (Ext WP WP.drew) := Lib.hid (Ext.refl WP).drew
  clear hbv hbw
  go_region_held3 (fun w' => w'.cell? ⟨VA, 0, none⟩ = some (.int .u8 2) ∧ w'.cell? ⟨VA, 1, none⟩ = some (.int .i64 n) ∧ w'.cell? ⟨VA, 2, none⟩ = some (.string (str s)) ∧ w'.cell? ⟨VA, 3, none⟩ = some (.slice none 0 0) ∧ w'.cell? ⟨VB, 0, none⟩ = some (.int .u8 2) ∧ w'.cell? ⟨VB, 1, none⟩ = some (.int .i64 n) ∧ w'.cell? ⟨VB, 2, none⟩ = some (.string (str s)) ∧ w'.cell? ⟨VB, 3, none⟩ = some (.slice (some ⟨Y, 0, none⟩) 1 1))
    (first | exact HS.out _ HDr.out | exact HS.out _ E1.out | exact HS.out _ E2.out | exact HS.out _ E3.out | exact HS.out _ (E3.out.alloc _) | exact HS.out _ E4.out | exact HS.out _ E5.out | exact HS.out _ E6.out)
    (first
      | (go_at_call_of 11 (Value.slice none 0 0)
         refine (vright_any _ _ _ (HL1.out _)).mono ?_
         rw [R1.out]
         rintro e y1 ⟨rfl, hE⟩
         have E1 := Lib.hid (HDr.out.trans hE)
         clear hE)
      | (go_at_call_of 11 (Value.slice (some ⟨Y, 0, none⟩) 1 1)
         refine (vright_any _ _ _ (HL3.out _ E1.out)).mono ?_
         rw [R2.out]
         rintro e y2 ⟨rfl, hE⟩
         have E2 := Lib.hid (E1.out.trans hE)
         clear hE)
      | (go_at_call 17
         refine (hnum_any 2 _).mono ?_
         rintro e y3 ⟨rfl, hE⟩
         have E3 := Lib.hid (E2.out.trans hE)
         clear hE)
      | (go_at_call 18
         refine (hlist_any _ _ _ _).mono ?_
         rintro e y4 ⟨rfl, hE⟩
         have E4 := Lib.hid ((E3.out.alloc _).trans hE)
         have L4 := Lib.hid (lies_list (lies_two (HL1.out y3) (lies_num y3 (n := 2) (by unfold isI64; omega)) (((Ext.refl y3).alloc _).trans hE) (blk_ext (blk_new y3 _ _) hE)))
         clear hE)
      | (go_at_call 11
         refine (vright_any _ _ _ L4.out).mono ?_
         rw [R3.out]
         rintro e y5 ⟨rfl, hE⟩
         have E5 := Lib.hid (E4.out.trans hE)
         clear hE)
      | (go_at_call 9
         refine (awake08 _ (HT2.out.ext E5.out)).mono ?_
         rintro e y6 ⟨rfl, hE⟩
         have E6 := Lib.hid (E5.out.trans hE)
         clear hE))
  go_wp2
  go_ret
  exact ⟨rfl, HEP.out.trans E6.out⟩

set_option maxRecDepth 100000 in
set_option maxHeartbeats 4000000 in
theorem kinds_2f (n : Int) (hn : isI64 n) (s : List UInt8) (h0 : n = 0) (h : s ≠ []) (hs : s.length ≤ 300) (w : World) (hT : Tab w) :
    Calls Tryd.prog 4 #[.int .i64 n, .string (str s), .int .u8 2] w fun e w' => e = .returned (.bool true) ∧ Ext w w' := by
  have R1 := Lib.hid (show rightT (.node 2 n s []) = false by rw [right_leaf]; simp [plainB, h])
  have R2 := Lib.hid (show rightT (.node 2 n s [.node 0 1 [] []]) = false by rw [right_one]; simp [plainB, h])
  have R3 := Lib.hid (show rightT (.node 2 0 [] [.node 2 n s [], .node 0 2 [] []]) = false by rw [right_two]; simp [plainB, h])
  have fn : (n == 0) = true := by simp [h0]
  have fs : (str s).toList.isEmpty = false := by rw [str_toList]; simpa using h
  have HN := Lib.hid hn
  have HT := Lib.hid hT
  have hsz := str_size s
  have hs2 : ¬ (300 : Int) < (s.length : Int) := by omega
  clear h0 h
  clear hn hT
  have HL1 : Hid (∀ wx, Lies wx (.node 2 n s []) (.agg #[.int .u8 2, .int .i64 n, .string (str s), .slice none 0 0])) := Lib.hid (fun wx => lies_leaf wx (2 : UInt8) HN.out hs)
  have HL2 : Hid (∀ (wx wy : World) (b : Nat), Ext wx wy → wx.heap[b]? = some (.cells #[.int .u8 0, .int .i64 1, .string { data := #[] }, .slice none 0 0] 25 (0, 0)) → Lies wy (.node 2 n s [.node 0 1 [] []]) (.agg #[.int .u8 2, .int .i64 n, .string (str s), .slice (some ⟨b, 0, none⟩) 1 1])) :=
    Lib.hid (fun wx wy b hE hb => lies_leaf1 (W := wx) (2 : UInt8) HN.out (by unfold isI64; omega) hs hE (blk_ext hb hE))
  go_enter Tryd.func4, Tryd.ntmps4
  go_wp2_with fail
  have hE1 : Ext w ((w.alloc (.cells #[.int .u8 2, .int .i64 n, .string (str s), .slice none 0 0] 25)).alloc (.cells #[.int .u8 2, .int .i64 n, .string (str s), .slice none 0 0] 25)) := ((Ext.refl w).alloc _).alloc _
  have hb1 := blk_ext (blk_new w #[.int .u8 2, .int .i64 n, .string (str s), .slice none 0 0] 25) ((Ext.refl _).alloc (.cells #[.int .u8 2, .int .i64 n, .string (str s), .slice none 0 0] 25))
  have hb2 := blk_new (w.alloc (.cells #[.int .u8 2, .int .i64 n, .string (str s), .slice none 0 0] 25)) #[.int .u8 2, .int .i64 n, .string (str s), .slice none 0 0] 25
  rw [show (w.alloc (.cells #[.int .u8 2, .int .i64 n, .string (str s), .slice none 0 0] 25)).heap.size = w.heap.size + 1 by simp] at hb2
  generalize hw1 : (w.alloc (.cells #[.int .u8 2, .int .i64 n, .string (str s), .slice none 0 0] 25)).alloc (.cells #[.int .u8 2, .int .i64 n, .string (str s), .slice none 0 0] 25) = w1 at *
  clear hw1
  refine (hnum_any 1 w1).mono ?_
  rintro e w2 ⟨rfl, hE2⟩
  have hb1' := blk_ext hb1 hE2
  have hb2' := blk_ext hb2 hE2
  obtain ⟨p0, p1, p2, p3⟩ := Box4.cells (w := w2) (b := w.heap.size + 1) hb2'
  obtain ⟨q0, q1, q2, q3⟩ := Box4.frozen (w := w2) (b := w.heap.size + 1) hb2'
  have hlt2 := (Array.getElem?_eq_some_iff.1 hb2').1
  have HE2 := Lib.hid (hE1.trans hE2)
  have HB1 := Lib.hid hb1'
  have HB2 := Lib.hid hb2'
  clear hE1 hE2 hb1 hb2 hb1' hb2'
  go_wp2_with fail
  have hbv := Box4.ext (Box4.other (w := w2) (b := w.heap.size) HB1.out (show w.heap.size + 1 ≠ w.heap.size by omega) 3 (.slice (some ⟨w2.heap.size, 0, none⟩) 1 1)) ((Ext.refl _).alloc (.cells #[.int .u8 0, .int .i64 1, .string { data := #[] }, .slice none 0 0] 25))
  have hbw := Box4.ext (Box4.set3 (w := w2) (b := w.heap.size + 1) HB2.out (.slice (some ⟨w2.heap.size, 0, none⟩) 1 1)) ((Ext.refl _).alloc (.cells #[.int .u8 0, .int .i64 1, .string { data := #[] }, .slice none 0 0] 25))
  have hby := blk_new (w2.setCell ⟨w.heap.size + 1, 3, none⟩ (.slice (some ⟨w2.heap.size, 0, none⟩) 1 1)) #[.int .u8 0, .int .i64 1, .string { data := #[] }, .slice none 0 0] 25
  rw [show (w2.setCell ⟨w.heap.size + 1, 3, none⟩ (.slice (some ⟨w2.heap.size, 0, none⟩) 1 1)).heap.size = w2.heap.size by simp [World.setCell]] at hby
  have hEP : Ext w ((w2.setCell ⟨w.heap.size + 1, 3, none⟩ (.slice (some ⟨w2.heap.size, 0, none⟩) 1 1)).alloc (.cells #[.int .u8 0, .int .i64 1, .string { data := #[] }, .slice none 0 0] 25)) :=
    (HE2.out.setCell (p := ⟨w.heap.size + 1, 3, none⟩) (by show w.heap.size ≤ w.heap.size + 1; omega) _).alloc _
  generalize hWP : (w2.setCell ⟨w.heap.size + 1, 3, none⟩ (.slice (some ⟨w2.heap.size, 0, none⟩) 1 1)).alloc (.cells #[.int .u8 0, .int .i64 1, .string { data := #[] }, .slice none 0 0] 25) = WP at *
  have HL3 : Hid (∀ wx, Ext WP wx → Lies wx (.node 2 n s [.node 0 1 [] []]) (.agg #[.int .u8 2, .int .i64 n, .string (str s), .slice (some ⟨w2.heap.size, 0, none⟩) 1 1])) := Lib.hid (fun wx h => HL2.out WP wx _ h hby)
  have HT2 := Lib.hid (HT.out.ext hEP)
  have HEP := Lib.hid hEP
  clear hWP hby p0 p1 p2 p3 q0 q1 q2 q3 hlt2 HB1 HB2 HE2 hEP
  generalize w2.heap.size = Y at *
  generalize hVB : w.heap.size + 1 = VB at *
  clear hVB
  generalize w.heap.size = VA at *
  have HS : Hid (∀ w', Ext WP w' → (w'.cell? ⟨VA, 0, none⟩ = some (.int .u8 2) ∧ w'.cell? ⟨VA, 1, none⟩ = some (.int .i64 n) ∧ w'.cell? ⟨VA, 2, none⟩ = some (.string (str s)) ∧ w'.cell? ⟨VA, 3, none⟩ = some (.slice none 0 0) ∧ w'.cell? ⟨VB, 0, none⟩ = some (.int .u8 2) ∧ w'.cell? ⟨VB, 1, none⟩ = some (.int .i64 n) ∧ w'.cell? ⟨VB, 2, none⟩ = some (.string (str s)) ∧ w'.cell? ⟨VB, 3, none⟩ = some (.slice (some ⟨Y, 0, none⟩) 1 1))) := Lib.hid (fun w' h => by
    obtain ⟨a0, a1, a2, a3⟩ := (hbv.ext h).cells
    obtain ⟨b0, b1, b2, b3⟩ := (hbw.ext h).cells
    exact ⟨a0, a1, a2, a3, b0, b1, b2, b3⟩)
  have HDr : Hid (Ext WP WP.drew) := Lib.hid (Ext.refl WP).drew
  clear hbv hbw
  go_region_held3 (fun w' => w'.cell? ⟨VA, 0, none⟩ = some (.int .u8 2) ∧ w'.cell? ⟨VA, 1, none⟩ = some (.int .i64 n) ∧ w'.cell? ⟨VA, 2, none⟩ = some (.string (str s)) ∧ w'.cell? ⟨VA, 3, none⟩ = some (.slice none 0 0) ∧ w'.cell? ⟨VB, 0, none⟩ = some (.int .u8 2) ∧ w'.cell? ⟨VB, 1, none⟩ = some (.int .i64 n) ∧ w'.cell? ⟨VB, 2, none⟩ = some (.string (str s)) ∧ w'.cell? ⟨VB, 3, none⟩ = some (.slice (some ⟨Y, 0, none⟩) 1 1))
    (first | exact HS.out _ HDr.out | exact HS.out _ E1.out | exact HS.out _ E2.out | exact HS.out _ E3.out | exact HS.out _ (E3.out.alloc _) | exact HS.out _ E4.out | exact HS.out _ E5.out | exact HS.out _ E6.out)
    (first
      | (go_at_call_of 11 (Value.slice none 0 0)
         refine (vright_any _ _ _ (HL1.out _)).mono ?_
         rw [R1.out]
         rintro e y1 ⟨rfl, hE⟩
         have E1 := Lib.hid (HDr.out.trans hE)
         clear hE)
      | (go_at_call_of 11 (Value.slice (some ⟨Y, 0, none⟩) 1 1)
         refine (vright_any _ _ _ (HL3.out _ E1.out)).mono ?_
         rw [R2.out]
         rintro e y2 ⟨rfl, hE⟩
         have E2 := Lib.hid (E1.out.trans hE)
         clear hE)
      | (go_at_call 17
         refine (hnum_any 2 _).mono ?_
         rintro e y3 ⟨rfl, hE⟩
         have E3 := Lib.hid (E2.out.trans hE)
         clear hE)
      | (go_at_call 18
         refine (hlist_any _ _ _ _).mono ?_
         rintro e y4 ⟨rfl, hE⟩
         have E4 := Lib.hid ((E3.out.alloc _).trans hE)
         have L4 := Lib.hid (lies_list (lies_two (HL1.out y3) (lies_num y3 (n := 2) (by unfold isI64; omega)) (((Ext.refl y3).alloc _).trans hE) (blk_ext (blk_new y3 _ _) hE)))
         clear hE)
      | (go_at_call 11
         refine (vright_any _ _ _ L4.out).mono ?_
         rw [R3.out]
         rintro e y5 ⟨rfl, hE⟩
         have E5 := Lib.hid (E4.out.trans hE)
         clear hE)
      | (go_at_call 9
         refine (awake08 _ (HT2.out.ext E5.out)).mono ?_
         rintro e y6 ⟨rfl, hE⟩
         have E6 := Lib.hid (E5.out.trans hE)
         clear hE))
  go_wp2
  go_ret
  exact ⟨rfl, HEP.out.trans E6.out⟩

set_option maxRecDepth 100000 in
set_option maxHeartbeats 4000000 in
theorem kinds_2t (n : Int) (hn : isI64 n) (s : List UInt8) (h0 : n = 0) (h : s = []) (hs : s.length ≤ 300) (w : World) (hT : Tab w) :
    Calls Tryd.prog 4 #[.int .i64 n, .string (str s), .int .u8 2] w fun e w' => e = .returned (.bool true) ∧ Ext w w' := by
  have R1 := Lib.hid (show rightT (.node 2 n s []) = true by rw [right_leaf]; simp [plainB, h0, h])
  have R2 := Lib.hid (show rightT (.node 2 n s [.node 0 1 [] []]) = true by rw [right_one]; simp [plainB, h0, h])
  have R3 := Lib.hid (show rightT (.node 2 0 [] [.node 2 n s [], .node 0 2 [] []]) = true by rw [right_two]; simp [plainB, h0, h])
  have fn : (n == 0) = true := by simp [h0]
  have fs : (str s).toList.isEmpty = true := by rw [str_toList, h]; rfl
  have HN := Lib.hid hn
  have HT := Lib.hid hT
  have hsz := str_size s
  have hs2 : ¬ (300 : Int) < (s.length : Int) := by omega
  clear h0 h
  clear hn hT
  have HL1 : Hid (∀ wx, Lies wx (.node 2 n s []) (.agg #[.int .u8 2, .int .i64 n, .string (str s), .slice none 0 0])) := Lib.hid (fun wx => lies_leaf wx (2 : UInt8) HN.out hs)
  have HL2 : Hid (∀ (wx wy : World) (b : Nat), Ext wx wy → wx.heap[b]? = some (.cells #[.int .u8 0, .int .i64 1, .string { data := #[] }, .slice none 0 0] 25 (0, 0)) → Lies wy (.node 2 n s [.node 0 1 [] []]) (.agg #[.int .u8 2, .int .i64 n, .string (str s), .slice (some ⟨b, 0, none⟩) 1 1])) :=
    Lib.hid (fun wx wy b hE hb => lies_leaf1 (W := wx) (2 : UInt8) HN.out (by unfold isI64; omega) hs hE (blk_ext hb hE))
  go_enter Tryd.func4, Tryd.ntmps4
  go_wp2_with fail
  have hE1 : Ext w ((w.alloc (.cells #[.int .u8 2, .int .i64 n, .string (str s), .slice none 0 0] 25)).alloc (.cells #[.int .u8 2, .int .i64 n, .string (str s), .slice none 0 0] 25)) := ((Ext.refl w).alloc _).alloc _
  have hb1 := blk_ext (blk_new w #[.int .u8 2, .int .i64 n, .string (str s), .slice none 0 0] 25) ((Ext.refl _).alloc (.cells #[.int .u8 2, .int .i64 n, .string (str s), .slice none 0 0] 25))
  have hb2 := blk_new (w.alloc (.cells #[.int .u8 2, .int .i64 n, .string (str s), .slice none 0 0] 25)) #[.int .u8 2, .int .i64 n, .string (str s), .slice none 0 0] 25
  rw [show (w.alloc (.cells #[.int .u8 2, .int .i64 n, .string (str s), .slice none 0 0] 25)).heap.size = w.heap.size + 1 by simp] at hb2
  generalize hw1 : (w.alloc (.cells #[.int .u8 2, .int .i64 n, .string (str s), .slice none 0 0] 25)).alloc (.cells #[.int .u8 2, .int .i64 n, .string (str s), .slice none 0 0] 25) = w1 at *
  clear hw1
  refine (hnum_any 1 w1).mono ?_
  rintro e w2 ⟨rfl, hE2⟩
  have hb1' := blk_ext hb1 hE2
  have hb2' := blk_ext hb2 hE2
  obtain ⟨p0, p1, p2, p3⟩ := Box4.cells (w := w2) (b := w.heap.size + 1) hb2'
  obtain ⟨q0, q1, q2, q3⟩ := Box4.frozen (w := w2) (b := w.heap.size + 1) hb2'
  have hlt2 := (Array.getElem?_eq_some_iff.1 hb2').1
  have HE2 := Lib.hid (hE1.trans hE2)
  have HB1 := Lib.hid hb1'
  have HB2 := Lib.hid hb2'
  clear hE1 hE2 hb1 hb2 hb1' hb2'
  go_wp2_with fail
  have hbv := Box4.ext (Box4.other (w := w2) (b := w.heap.size) HB1.out (show w.heap.size + 1 ≠ w.heap.size by omega) 3 (.slice (some ⟨w2.heap.size, 0, none⟩) 1 1)) ((Ext.refl _).alloc (.cells #[.int .u8 0, .int .i64 1, .string { data := #[] }, .slice none 0 0] 25))
  have hbw := Box4.ext (Box4.set3 (w := w2) (b := w.heap.size + 1) HB2.out (.slice (some ⟨w2.heap.size, 0, none⟩) 1 1)) ((Ext.refl _).alloc (.cells #[.int .u8 0, .int .i64 1, .string { data := #[] }, .slice none 0 0] 25))
  have hby := blk_new (w2.setCell ⟨w.heap.size + 1, 3, none⟩ (.slice (some ⟨w2.heap.size, 0, none⟩) 1 1)) #[.int .u8 0, .int .i64 1, .string { data := #[] }, .slice none 0 0] 25
  rw [show (w2.setCell ⟨w.heap.size + 1, 3, none⟩ (.slice (some ⟨w2.heap.size, 0, none⟩) 1 1)).heap.size = w2.heap.size by simp [World.setCell]] at hby
  have hEP : Ext w ((w2.setCell ⟨w.heap.size + 1, 3, none⟩ (.slice (some ⟨w2.heap.size, 0, none⟩) 1 1)).alloc (.cells #[.int .u8 0, .int .i64 1, .string { data := #[] }, .slice none 0 0] 25)) :=
    (HE2.out.setCell (p := ⟨w.heap.size + 1, 3, none⟩) (by show w.heap.size ≤ w.heap.size + 1; omega) _).alloc _
  generalize hWP : (w2.setCell ⟨w.heap.size + 1, 3, none⟩ (.slice (some ⟨w2.heap.size, 0, none⟩) 1 1)).alloc (.cells #[.int .u8 0, .int .i64 1, .string { data := #[] }, .slice none 0 0] 25) = WP at *
  have HL3 : Hid (∀ wx, Ext WP wx → Lies wx (.node 2 n s [.node 0 1 [] []]) (.agg #[.int .u8 2, .int .i64 n, .string (str s), .slice (some ⟨w2.heap.size, 0, none⟩) 1 1])) := Lib.hid (fun wx h => HL2.out WP wx _ h hby)
  have HT2 := Lib.hid (HT.out.ext hEP)
  have HEP := Lib.hid hEP
  clear hWP hby p0 p1 p2 p3 q0 q1 q2 q3 hlt2 HB1 HB2 HE2 hEP
  generalize w2.heap.size = Y at *
  generalize hVB : w.heap.size + 1 = VB at *
  clear hVB
  generalize w.heap.size = VA at *
  have HS : Hid (∀ w', Ext WP w' → (w'.cell? ⟨VA, 0, none⟩ = some (.int .u8 2) ∧ w'.cell? ⟨VA, 1, none⟩ = some (.int .i64 n) ∧ w'.cell? ⟨VA, 2, none⟩ = some (.string (str s)) ∧ w'.cell? ⟨VA, 3, none⟩ = some (.slice none 0 0) ∧ w'.cell? ⟨VB, 0, none⟩ = some (.int .u8 2) ∧ w'.cell? ⟨VB, 1, none⟩ = some (.int .i64 n) ∧ w'.cell? ⟨VB, 2, none⟩ = some (.string (str s)) ∧ w'.cell? ⟨VB, 3, none⟩ = some (.slice (some ⟨Y, 0, none⟩) 1 1))) := Lib.hid (fun w' h => by
    obtain ⟨a0, a1, a2, a3⟩ := (hbv.ext h).cells
    obtain ⟨b0, b1, b2, b3⟩ := (hbw.ext h).cells
    exact ⟨a0, a1, a2, a3, b0, b1, b2, b3⟩)
  have HDr : Hid (Ext WP WP.drew) := Lib.hid (Ext.refl WP).drew
  clear hbv hbw
  go_region_held3 (fun w' => w'.cell? ⟨VA, 0, none⟩ = some (.int .u8 2) ∧ w'.cell? ⟨VA, 1, none⟩ = some (.int .i64 n) ∧ w'.cell? ⟨VA, 2, none⟩ = some (.string (str s)) ∧ w'.cell? ⟨VA, 3, none⟩ = some (.slice none 0 0) ∧ w'.cell? ⟨VB, 0, none⟩ = some (.int .u8 2) ∧ w'.cell? ⟨VB, 1, none⟩ = some (.int .i64 n) ∧ w'.cell? ⟨VB, 2, none⟩ = some (.string (str s)) ∧ w'.cell? ⟨VB, 3, none⟩ = some (.slice (some ⟨Y, 0, none⟩) 1 1))
    (first | exact HS.out _ HDr.out | exact HS.out _ E1.out | exact HS.out _ E2.out | exact HS.out _ E3.out | exact HS.out _ (E3.out.alloc _) | exact HS.out _ E4.out | exact HS.out _ E5.out | exact HS.out _ E6.out)
    (first
      | (go_at_call_of 11 (Value.slice none 0 0)
         refine (vright_any _ _ _ (HL1.out _)).mono ?_
         rw [R1.out]
         rintro e y1 ⟨rfl, hE⟩
         have E1 := Lib.hid (HDr.out.trans hE)
         clear hE)
      | (go_at_call_of 11 (Value.slice (some ⟨Y, 0, none⟩) 1 1)
         refine (vright_any _ _ _ (HL3.out _ E1.out)).mono ?_
         rw [R2.out]
         rintro e y2 ⟨rfl, hE⟩
         have E2 := Lib.hid (E1.out.trans hE)
         clear hE)
      | (go_at_call 17
         refine (hnum_any 2 _).mono ?_
         rintro e y3 ⟨rfl, hE⟩
         have E3 := Lib.hid (E2.out.trans hE)
         clear hE)
      | (go_at_call 18
         refine (hlist_any _ _ _ _).mono ?_
         rintro e y4 ⟨rfl, hE⟩
         have E4 := Lib.hid ((E3.out.alloc _).trans hE)
         have L4 := Lib.hid (lies_list (lies_two (HL1.out y3) (lies_num y3 (n := 2) (by unfold isI64; omega)) (((Ext.refl y3).alloc _).trans hE) (blk_ext (blk_new y3 _ _) hE)))
         clear hE)
      | (go_at_call 11
         refine (vright_any _ _ _ L4.out).mono ?_
         rw [R3.out]
         rintro e y5 ⟨rfl, hE⟩
         have E5 := Lib.hid (E4.out.trans hE)
         clear hE)
      | (go_at_call 9
         refine (awake08 _ (HT2.out.ext E5.out)).mono ?_
         rintro e y6 ⟨rfl, hE⟩
         have E6 := Lib.hid (E5.out.trans hE)
         clear hE))
  go_wp2
  go_ret
  exact ⟨rfl, HEP.out.trans E6.out⟩

set_option maxRecDepth 100000 in
set_option maxHeartbeats 4000000 in
theorem kinds_3 (k : UInt8) (h0 : k ≠ 0) (h1 : k ≠ 1) (h2 : k ≠ 2) (n : Int) (hn : isI64 n) (s : List UInt8) (hs : s.length ≤ 300) (w : World) (hT : Tab w) :
    Calls Tryd.prog 4 #[.int .i64 n, .string (str s), .int .u8 (k.toNat : Int)] w fun e w' => e = .returned (.bool true) ∧ Ext w w' := by
  have R1 := Lib.hid (show rightT (.node k n s []) = false by rw [right_leaf]; simp [plainB, h0, h1, h2])
  have R2 := Lib.hid (show rightT (.node k n s [.node 0 1 [] []]) = false by rw [right_one]; simp [plainB, h0, h1, h2])
  have R3 := Lib.hid (show rightT (.node 2 0 [] [.node k n s [], .node 0 2 [] []]) = false by rw [right_two]; simp [plainB, h0, h1, h2])
  have e0 := u8_eq k 0
  have e1 := u8_eq k 1
  have e2 := u8_eq k 2
  rw [show ((0 : UInt8).toNat : Int) = 0 from rfl] at e0
  rw [show ((1 : UInt8).toNat : Int) = 1 from rfl] at e1
  rw [show ((2 : UInt8).toNat : Int) = 2 from rfl] at e2
  have f0 : ((k.toNat : Int) == 0) = false := by rw [e0]; simpa using h0
  have f1 : ((k.toNat : Int) == 1) = false := by rw [e1]; simpa using h1
  have f2 : ((k.toNat : Int) == 2) = false := by rw [e2]; simpa using h2
  clear e0 e1 e2 h0 h1 h2
  have HN := Lib.hid hn
  have HT := Lib.hid hT
  have hsz := str_size s
  have hs2 : ¬ (300 : Int) < (s.length : Int) := by omega
  clear hn hT
  have HL1 : Hid (∀ wx, Lies wx (.node k n s []) (.agg #[.int .u8 (k.toNat : Int), .int .i64 n, .string (str s), .slice none 0 0])) := Lib.hid (fun wx => lies_leaf wx (k : UInt8) HN.out hs)
  have HL2 : Hid (∀ (wx wy : World) (b : Nat), Ext wx wy → wx.heap[b]? = some (.cells #[.int .u8 0, .int .i64 1, .string { data := #[] }, .slice none 0 0] 25 (0, 0)) → Lies wy (.node k n s [.node 0 1 [] []]) (.agg #[.int .u8 (k.toNat : Int), .int .i64 n, .string (str s), .slice (some ⟨b, 0, none⟩) 1 1])) :=
    Lib.hid (fun wx wy b hE hb => lies_leaf1 (W := wx) (k : UInt8) HN.out (by unfold isI64; omega) hs hE (blk_ext hb hE))
  generalize (k.toNat : Int) = K at *
  go_enter Tryd.func4, Tryd.ntmps4
  go_wp2_with fail
  have hE1 : Ext w ((w.alloc (.cells #[.int .u8 K, .int .i64 n, .string (str s), .slice none 0 0] 25)).alloc (.cells #[.int .u8 K, .int .i64 n, .string (str s), .slice none 0 0] 25)) := ((Ext.refl w).alloc _).alloc _
  have hb1 := blk_ext (blk_new w #[.int .u8 K, .int .i64 n, .string (str s), .slice none 0 0] 25) ((Ext.refl _).alloc (.cells #[.int .u8 K, .int .i64 n, .string (str s), .slice none 0 0] 25))
  have hb2 := blk_new (w.alloc (.cells #[.int .u8 K, .int .i64 n, .string (str s), .slice none 0 0] 25)) #[.int .u8 K, .int .i64 n, .string (str s), .slice none 0 0] 25
  rw [show (w.alloc (.cells #[.int .u8 K, .int .i64 n, .string (str s), .slice none 0 0] 25)).heap.size = w.heap.size + 1 by simp] at hb2
  generalize hw1 : (w.alloc (.cells #[.int .u8 K, .int .i64 n, .string (str s), .slice none 0 0] 25)).alloc (.cells #[.int .u8 K, .int .i64 n, .string (str s), .slice none 0 0] 25) = w1 at *
  clear hw1
  refine (hnum_any 1 w1).mono ?_
  rintro e w2 ⟨rfl, hE2⟩
  have hb1' := blk_ext hb1 hE2
  have hb2' := blk_ext hb2 hE2
  obtain ⟨p0, p1, p2, p3⟩ := Box4.cells (w := w2) (b := w.heap.size + 1) hb2'
  obtain ⟨q0, q1, q2, q3⟩ := Box4.frozen (w := w2) (b := w.heap.size + 1) hb2'
  have hlt2 := (Array.getElem?_eq_some_iff.1 hb2').1
  have HE2 := Lib.hid (hE1.trans hE2)
  have HB1 := Lib.hid hb1'
  have HB2 := Lib.hid hb2'
  clear hE1 hE2 hb1 hb2 hb1' hb2'
  go_wp2_with fail
  have hbv := Box4.ext (Box4.other (w := w2) (b := w.heap.size) HB1.out (show w.heap.size + 1 ≠ w.heap.size by omega) 3 (.slice (some ⟨w2.heap.size, 0, none⟩) 1 1)) ((Ext.refl _).alloc (.cells #[.int .u8 0, .int .i64 1, .string { data := #[] }, .slice none 0 0] 25))
  have hbw := Box4.ext (Box4.set3 (w := w2) (b := w.heap.size + 1) HB2.out (.slice (some ⟨w2.heap.size, 0, none⟩) 1 1)) ((Ext.refl _).alloc (.cells #[.int .u8 0, .int .i64 1, .string { data := #[] }, .slice none 0 0] 25))
  have hby := blk_new (w2.setCell ⟨w.heap.size + 1, 3, none⟩ (.slice (some ⟨w2.heap.size, 0, none⟩) 1 1)) #[.int .u8 0, .int .i64 1, .string { data := #[] }, .slice none 0 0] 25
  rw [show (w2.setCell ⟨w.heap.size + 1, 3, none⟩ (.slice (some ⟨w2.heap.size, 0, none⟩) 1 1)).heap.size = w2.heap.size by simp [World.setCell]] at hby
  have hEP : Ext w ((w2.setCell ⟨w.heap.size + 1, 3, none⟩ (.slice (some ⟨w2.heap.size, 0, none⟩) 1 1)).alloc (.cells #[.int .u8 0, .int .i64 1, .string { data := #[] }, .slice none 0 0] 25)) :=
    (HE2.out.setCell (p := ⟨w.heap.size + 1, 3, none⟩) (by show w.heap.size ≤ w.heap.size + 1; omega) _).alloc _
  generalize hWP : (w2.setCell ⟨w.heap.size + 1, 3, none⟩ (.slice (some ⟨w2.heap.size, 0, none⟩) 1 1)).alloc (.cells #[.int .u8 0, .int .i64 1, .string { data := #[] }, .slice none 0 0] 25) = WP at *
  have HL3 : Hid (∀ wx, Ext WP wx → Lies wx (.node k n s [.node 0 1 [] []]) (.agg #[.int .u8 K, .int .i64 n, .string (str s), .slice (some ⟨w2.heap.size, 0, none⟩) 1 1])) := Lib.hid (fun wx h => HL2.out WP wx _ h hby)
  have HT2 := Lib.hid (HT.out.ext hEP)
  have HEP := Lib.hid hEP
  clear hWP hby p0 p1 p2 p3 q0 q1 q2 q3 hlt2 HB1 HB2 HE2 hEP
  generalize w2.heap.size = Y at *
  generalize hVB : w.heap.size + 1 = VB at *
  clear hVB
  generalize w.heap.size = VA at *
  have HS : Hid (∀ w', Ext WP w' → (w'.cell? ⟨VA, 0, none⟩ = some (.int .u8 K) ∧ w'.cell? ⟨VA, 1, none⟩ = some (.int .i64 n) ∧ w'.cell? ⟨VA, 2, none⟩ = some (.string (str s)) ∧ w'.cell? ⟨VA, 3, none⟩ = some (.slice none 0 0) ∧ w'.cell? ⟨VB, 0, none⟩ = some (.int .u8 K) ∧ w'.cell? ⟨VB, 1, none⟩ = some (.int .i64 n) ∧ w'.cell? ⟨VB, 2, none⟩ = some (.string (str s)) ∧ w'.cell? ⟨VB, 3, none⟩ = some (.slice (some ⟨Y, 0, none⟩) 1 1))) := Lib.hid (fun w' h => by
    obtain ⟨a0, a1, a2, a3⟩ := (hbv.ext h).cells
    obtain ⟨b0, b1, b2, b3⟩ := (hbw.ext h).cells
    exact ⟨a0, a1, a2, a3, b0, b1, b2, b3⟩)
  have HDr : Hid (Ext WP WP.drew) := Lib.hid (Ext.refl WP).drew
  clear hbv hbw
  go_region_held3 (fun w' => w'.cell? ⟨VA, 0, none⟩ = some (.int .u8 K) ∧ w'.cell? ⟨VA, 1, none⟩ = some (.int .i64 n) ∧ w'.cell? ⟨VA, 2, none⟩ = some (.string (str s)) ∧ w'.cell? ⟨VA, 3, none⟩ = some (.slice none 0 0) ∧ w'.cell? ⟨VB, 0, none⟩ = some (.int .u8 K) ∧ w'.cell? ⟨VB, 1, none⟩ = some (.int .i64 n) ∧ w'.cell? ⟨VB, 2, none⟩ = some (.string (str s)) ∧ w'.cell? ⟨VB, 3, none⟩ = some (.slice (some ⟨Y, 0, none⟩) 1 1))
    (first | exact HS.out _ HDr.out | exact HS.out _ E1.out | exact HS.out _ E2.out | exact HS.out _ E3.out | exact HS.out _ (E3.out.alloc _) | exact HS.out _ E4.out | exact HS.out _ E5.out | exact HS.out _ E6.out)
    (first
      | (go_at_call_of 11 (Value.slice none 0 0)
         refine (vright_any _ _ _ (HL1.out _)).mono ?_
         rw [R1.out]
         rintro e y1 ⟨rfl, hE⟩
         have E1 := Lib.hid (HDr.out.trans hE)
         clear hE)
      | (go_at_call_of 11 (Value.slice (some ⟨Y, 0, none⟩) 1 1)
         refine (vright_any _ _ _ (HL3.out _ E1.out)).mono ?_
         rw [R2.out]
         rintro e y2 ⟨rfl, hE⟩
         have E2 := Lib.hid (E1.out.trans hE)
         clear hE)
      | (go_at_call 17
         refine (hnum_any 2 _).mono ?_
         rintro e y3 ⟨rfl, hE⟩
         have E3 := Lib.hid (E2.out.trans hE)
         clear hE)
      | (go_at_call 18
         refine (hlist_any _ _ _ _).mono ?_
         rintro e y4 ⟨rfl, hE⟩
         have E4 := Lib.hid ((E3.out.alloc _).trans hE)
         have L4 := Lib.hid (lies_list (lies_two (HL1.out y3) (lies_num y3 (n := 2) (by unfold isI64; omega)) (((Ext.refl y3).alloc _).trans hE) (blk_ext (blk_new y3 _ _) hE)))
         clear hE)
      | (go_at_call 11
         refine (vright_any _ _ _ L4.out).mono ?_
         rw [R3.out]
         rintro e y5 ⟨rfl, hE⟩
         have E5 := Lib.hid (E4.out.trans hE)
         clear hE)
      | (go_at_call 9
         refine (awake08 _ (HT2.out.ext E5.out)).mono ?_
         rintro e y6 ⟨rfl, hE⟩
         have E6 := Lib.hid (E5.out.trans hE)
         clear hE))
  go_wp2
  go_ret
  exact ⟨rfl, HEP.out.trans E6.out⟩

set_option maxRecDepth 100000 in
set_option maxHeartbeats 2000000 in
theorem valueKinds_any (n : Int) (hn : isI64 n) (s : List UInt8) (hs63 : s.length ≤ 9223372036854775807) (k : UInt8) (w : World) (hT : Tab w) :
    Calls Tryd.prog 4 #[.int .i64 n, .string (str s), .int .u8 (k.toNat : Int)] w fun e w' => e = .returned (.bool true) ∧ Ext w w' := by
  by_cases hs : s.length ≤ 300
  · by_cases h0 : k = 0
    · subst h0
      by_cases h : s = []
      · exact kinds_0t n hn s h hs w hT
      · exact kinds_0f n hn s h hs w hT
    by_cases h1 : k = 1
    · subst h1
      by_cases h : n = 0
      · by_cases hl : s.length ≤ 100
        · exact kinds_1t n hn s h hl hs w hT
        · exact kinds_1l n hn s h (by omega) hs w hT
      · exact kinds_1n n hn s h hs w hT
    by_cases h2 : k = 2
    · subst h2
      by_cases h : n = 0
      · by_cases hl : s = []
        · exact kinds_2t n hn s h hl hs w hT
        · exact kinds_2f n hn s h hl hs w hT
      · exact kinds_2n n hn s h hs w hT
    · exact kinds_3 k h0 h1 h2 n hn s hs w hT
  · have hsz := str_size s
    have hs2 : (300 : Int) < (s.length : Int) := by omega
    have HT := Lib.hid hT
    clear hT
    generalize (k.toNat : Int) = K at *
    go_enter Tryd.func4, Tryd.ntmps4
    go_wp2_with fail
    refine (awake08 w HT.out).mono ?_
    rintro e w1 ⟨rfl, hE⟩
    go_wp2
    go_ret
    exact ⟨rfl, hE⟩
end Go.Proofs.YtdmdabcjoealhaaDoor
