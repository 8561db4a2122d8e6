/- Walks: the reader's value. -/
import Derived.Test.YtnbalamacpcanaaDoorValJ
open Go.RowKit Go.Shelf
namespace Go.Proofs.YtnbalamacpcanaaDoor
open Go Go.Proofs Fm

theorem broken_then {w0 w w1 : World} {R : Nat} {e : Ending} {w' : World} (hg : w.grownBy w1 (some R)) (h : Broken w0 w1 R e w') : Broken w0 w R e w' := ⟨h.1, h.2.1, grown_trans hg h.2.2⟩

set_option maxRecDepth 100000 in
set_option maxHeartbeats 2000000 in
theorem value_bad {w0 w : World} {R : Nat} {v : Value} {xs : List UInt8} {m : Int} (D : Int) (h : RdAt w0 w R v xs m) (hN : ∀ n k, takeN xs = some (n, k) → n < 0 ∨ 2 < n) :
    Calls Tryd.prog 76 #[.pointer (some ⟨R, 0, none⟩), .int .i64 D] w (Broken w0 w R) := by
  have HN := Lib.hid hN
  have H := Lib.hid h
  clear h hN
  go_enter Tryd.func76, Tryd.ntmps76
  go_wp2_with fail
  have hE0 := (Ext.refl w).alloc (.cells #[.int .u8 0, .int .i64 0, .string (str []), .slice none 0 0] 24)
  refine (rdnum_no (H.out.then hE0) 0 2 HN.out).mono ?_
  rintro e w1 ⟨rfl, hE1, hg1⟩
  have HB : Hid (Broken w0 w R (.panicked [{ v := .iface 114 (.agg #[]), recovered := false }]) w1) := Lib.hid ⟨rfl, hE1, grown_trans (grown_ext hE0 _) hg1⟩
  clear hE1 hg1 hE0 HN
  go_wp2
  exact ⟨rfl, HB.out⟩

/-- A struct of four cells in a block of its own. -/
def Box4 (w : World) (b : Nat) (c0 c1 c2 c3 : Value) : Prop := w.heap[b]? = some (.cells #[c0, c1, c2, c3] 24 (0, 0))
theorem Box4.new (w : World) (c0 c1 c2 c3 : Value) : Box4 (w.alloc (.cells #[c0, c1, c2, c3] 24)) w.heap.size c0 c1 c2 c3 := heap_alloc_new w _
theorem Box4.lt {w : World} {b : Nat} {c0 c1 c2 c3 : Value} (h : Box4 w b c0 c1 c2 c3) : b < w.heap.size := (Array.getElem?_eq_some_iff.1 h).1
theorem Box4.kept {w w' : World} {b : Nat} {c0 c1 c2 c3 : Value} (h : Box4 w b c0 c1 c2 c3) {row : Option Nat} (hg : w.grownBy w' row) (hr : row ≠ some b) : Box4 w' b c0 c1 c2 c3 := (hg.block b h.lt (fun e => hr e.symm)).trans h
theorem Box4.ext {w w' : World} {b : Nat} {c0 c1 c2 c3 : Value} (h : Box4 w b c0 c1 c2 c3) (hE : Ext w w') : Box4 w' b c0 c1 c2 c3 := (hE.block b h.lt).trans h
theorem Box4.cells {w : World} {b : Nat} {c0 c1 c2 c3 : Value} (h : Box4 w b c0 c1 c2 c3) : w.cell? ⟨b, 0, none⟩ = some c0 ∧ w.cell? ⟨b, 1, none⟩ = some c1 ∧ w.cell? ⟨b, 2, none⟩ = some c2 ∧ w.cell? ⟨b, 3, none⟩ = some c3 := by
  unfold Box4 at h
  refine ⟨?_, ?_, ?_, ?_⟩ <;> simp [World.cell?, h]
theorem Box4.frozen {w : World} {b : Nat} {c0 c1 c2 c3 : Value} (h : Box4 w b c0 c1 c2 c3) : w.frozen? ⟨b, 0, none⟩ = false ∧ w.frozen? ⟨b, 1, none⟩ = false ∧ w.frozen? ⟨b, 2, none⟩ = false ∧ w.frozen? ⟨b, 3, none⟩ = false := by
  unfold Box4 at h
  refine ⟨?_, ?_, ?_, ?_⟩ <;> simp [World.frozen?, h]
theorem grown_new {a b : World} {row : Option Nat} (h : a.grownBy b row) {p : Addr} (hp : a.heap.size ≤ p.block) (u : Value) : a.grownBy (b.setCell p u) row :=
  ⟨h.os, h.tape, h.output, by simpa [World.setCell] using h.size, fun i hi hne => (Below.heap_setCell b p u i (by omega)).trans (h.block i hi hne)⟩

/-- The world of value when its variable is laid and one part is counted. -/
def valW (w : World) (R : Nat) (m : Int) (k : Int) : World := (w.setCell ⟨R, 1, none⟩ (.int .i64 (m - 1))).alloc (.cells #[.int .u8 k, .int .i64 0, .string { data := #[] }, .slice none 0 0] 24)
theorem valW_facts {w0 w : World} {R : Nat} {v : Value} {xs : List UInt8} {m : Int} (h : RdAt w0 w R v xs m) (k : Int) :
    RdAt w0 (valW w R m k) R v xs (m - 1) ∧ w.grownBy (valW w R m k) (some R) ∧ Box4 (valW w R m k) w.heap.size (.int .u8 k) (.int .i64 0) (.string { data := #[] }) (.slice none 0 0) ∧ (valW w R m k).heap.size = w.heap.size + 1 := by
  have h1 := h.setRoom (m - 1)
  have hz : (w.setCell ⟨R, 1, none⟩ (.int .i64 (m - 1))).heap.size = w.heap.size := by simp [World.setCell]
  refine ⟨h1.then ((Ext.refl _).alloc _), grown_trans (grown_set w R 1 _) (grown_ext ((Ext.refl _).alloc _) _), ?_, by simp [valW, hz]⟩
  have := Box4.new (w.setCell ⟨R, 1, none⟩ (.int .i64 (m - 1))) (.int .u8 k) (.int .i64 0) (.string { data := #[] }) (.slice none 0 0)
  rw [hz] at this
  exact this

/-- It tells a tree in memory of its own, and has read on. -/
def ValOK (w0 w : World) (R : Nat) (t : Tr) (xs : List UInt8) (m : Int) (e : Ending) (w' : World) : Prop :=
  ∃ v, e = .returned v ∧ (∃ v', RdAt w0 w' R v' xs m) ∧ w.grownBy w' (some R) ∧ OwnT 24 w' w.heap.size t v

set_option maxRecDepth 100000 in
set_option maxHeartbeats 2000000 in
theorem value_num {w0 w : World} {R : Nat} {v : Value} {xs : List UInt8} {m : Nat} (D : Int) (hD : 0 < D) (hm : 0 < m) (hm2 : m ≤ 1000) (h : RdAt w0 w R v xs m) (k : Nat) (hN : takeN xs = some (0, k)) (n : Int) (k2 : Nat) (hN2 : takeN (xs.drop k) = some (n, k2)) :
    Calls Tryd.prog 76 #[.pointer (some ⟨R, 0, none⟩), .int .i64 D] w (ValOK w0 w R (.node 0 n [] []) ((xs.drop k).drop k2) (m - 1)) := by
  have HN := Lib.hid hN
  have HN2 := Lib.hid hN2
  have H := Lib.hid h
  have hR := h.lt
  clear h hN hN2
  have hD0 : (D == 0) = false := by simp; omega
  have hm' : ((m : Int) - 1 < 0) = False := by simp; omega
  go_enter Tryd.func76, Tryd.ntmps76
  go_wp2_with fail
  have hE0 := (Ext.refl w).alloc (.cells #[.int .u8 0, .int .i64 0, .string (str []), .slice none 0 0] 24)
  have hB4 := Box4.new w (.int .u8 0) (.int .i64 0) (.string (str [])) (.slice none 0 0)
  refine (rdnum_ok (H.out.then hE0) 0 2 0 k HN.out (by omega) (by omega)).mono ?_
  rintro e w1 ⟨rfl, ⟨v1, hr1⟩, hg1⟩
  have c0 := hr1.c0
  have c1 := hr1.c1
  have f0 := hr1.f0
  have f1 := hr1.f1
  have hlt := hr1.lt
  go_wp2_with fail
  change Calls _ _ _ (valW w1 R m 0) _
  obtain ⟨hr2, hg2, hb2, hz2⟩ := valW_facts hr1 0
  have hB5 := hB4.kept hg1 (by simp; omega)
  have hB6 := hB5.kept hg2 (by simp; omega)
  have hg3 := grown_trans (grown_trans (grown_ext hE0 (some R)) hg1) hg2
  have hlw := hg3.size
  have hlw1 := hE0.size
  have hlw2 := hg1.size
  generalize valW w1 R m 0 = W2 at *
  generalize hV : w1.heap.size = V at *
  have HV : Hid (w1.heap.size = V) := hV
  clear hV
  refine (rdnum_ok hr2 _ _ n k2 HN2.out (takeN_inv HN2.out).1.1 (takeN_inv HN2.out).1.2).mono ?_
  rintro e w3 ⟨rfl, ⟨v3, hr3⟩, hg4⟩
  have hb3 := hb2.kept hg4 (by simp; omega)
  have hB7 := hB6.kept hg4 (by simp; omega)
  obtain ⟨d0, d1, d2, d3⟩ := hb3.cells
  obtain ⟨e0, e1, e2, e3⟩ := hb3.frozen
  obtain ⟨p0, p1, p2, p3⟩ := hB7.cells
  obtain ⟨q0, q1, q2, q3⟩ := hB7.frozen
  have hsz1 : (w.alloc (.cells #[.int .u8 0, .int .i64 0, .string (str []), .slice none 0 0] 24)).heap.size = w.heap.size + 1 := by simp
  have hPV : ¬ w.heap.size = V := by omega
  have hPV' : w.heap.size ≤ V := by omega
  have hRV : R < V := hlt
  have hVP : ¬ V = w.heap.size := by omega
  have ha1 := World.cell?_setCell_same w3 ⟨V, 1, none⟩ (.int .i64 n) d1
  clear hb2 hB6 hB5 hB4 hb3 hB7 hr2 hr1 hg1 hg2 hz2 hsz1 hlw hlw1 hlw2 c0 c1 f0 f1 hE0 hlt
  go_wp2
  refine bodyPost_ret (v := .agg #[.int .u8 0, .int .i64 n, .string (str []), .slice none 0 0]) (by simp [results, Tryd.results76, go_sem, p0, p1, p2, p3]; rfl) rfl ?_
  have hk1 : ∀ k, some V = some k → w0.heap.size ≤ k ∧ k ≠ R := fun k hk => by
    injection hk with hk; have := H.out.ext.size; omega
  have hk2 : ∀ k, some w.heap.size = some k → w0.heap.size ≤ k ∧ k ≠ R := fun k hk => by
    injection hk with hk; have := H.out.ext.size; omega
  refine ⟨_, rfl, ⟨_, ((((hr3.kept (grown_set w3 V 1 _) hk1).kept (grown_set _ _ 0 _) hk2).kept (grown_set _ _ 1 _) hk2).kept (grown_set _ _ 2 _) hk2).kept (grown_set _ _ 3 _) hk2⟩, ?_, ?_⟩
  · exact grown_new (grown_new (grown_new (grown_new (grown_new (grown_trans hg3 hg4) (by simp; omega) _) (Nat.le_refl _) _) (Nat.le_refl _) _) (Nat.le_refl _) _) (Nat.le_refl _) _
  · exact OwnT.mk (k := 0) (takeN_inv HN2.out).1 (by simp) (OwnL.nil _ _ _)
set_option maxRecDepth 100000 in
set_option maxHeartbeats 4000000 in
theorem value_room {w0 w : World} {R : Nat} {v : Value} {xs : List UInt8} {m : Nat} (D : Int) (hm : m = 0 ∨ D = 0) (hm2 : m ≤ 1000) (h : RdAt w0 w R v xs m) (n : Int) (k : Nat) (hN : takeN xs = some (n, k)) (hn : n = 0 ∨ n = 1 ∨ n = 2) :
    Calls Tryd.prog 76 #[.pointer (some ⟨R, 0, none⟩), .int .i64 D] w (Broken w0 w R) := by
  have HN := Lib.hid hN
  have H := Lib.hid h
  have hR := h.lt
  clear h hN
  have hn0 : 0 ≤ n := by omega
  have hn2 : n ≤ 2 := by omega
  go_enter Tryd.func76, Tryd.ntmps76
  go_wp2_with fail
  have hE0 := (Ext.refl w).alloc (.cells #[.int .u8 0, .int .i64 0, .string (str []), .slice none 0 0] 24)
  have hB4 := Box4.new w (.int .u8 0) (.int .i64 0) (.string (str [])) (.slice none 0 0)
  refine (rdnum_ok (H.out.then hE0) 0 2 n k HN.out (by omega) (by omega)).mono ?_
  rintro e w1 ⟨rfl, ⟨v1, hr1⟩, hg1⟩
  have hg := grown_trans (grown_ext hE0 (some R)) hg1
  have c0 := hr1.c0
  have c1 := hr1.c1
  have f0 := hr1.f0
  have f1 := hr1.f1
  have hlt := hr1.lt
  rcases hn with rfl | rfl | rfl
  all_goals
    by_cases hm0 : m = 0
    · obtain rfl : m = 0 := hm0
      go_wp2
      exact ⟨rfl, rfl, (hr1.setRoom _).ext.alloc _, grown_trans hg (grown_trans (grown_set w1 R 1 _) (grown_ext ((Ext.refl _).alloc _) _))⟩
    · have hD0 : (D == 0) = true := by simp; omega
      have hm' : ((m : Int) - 1 < 0) = False := by simp; omega
      go_wp2
      exact ⟨rfl, rfl, (hr1.setRoom _).ext.alloc _, grown_trans hg (grown_trans (grown_set w1 R 1 _) (grown_ext ((Ext.refl _).alloc _) _))⟩

set_option maxRecDepth 100000 in
set_option maxHeartbeats 4000000 in
theorem value_num_no {w0 w : World} {R : Nat} {v : Value} {xs : List UInt8} {m : Nat} (D : Int) (hD : 0 < D) (hm : 0 < m) (hm2 : m ≤ 1000) (h : RdAt w0 w R v xs m) (k : Nat) (hN : takeN xs = some (0, k)) (hN2 : takeN (xs.drop k) = none) :
    Calls Tryd.prog 76 #[.pointer (some ⟨R, 0, none⟩), .int .i64 D] w (Broken w0 w R) := by
  have HN2 := Lib.hid hN2
  clear hN2
  have HN := Lib.hid hN
  have H := Lib.hid h
  have hR := h.lt
  clear h hN
  have hD0 : (D == 0) = false := by simp; omega
  have hm' : ((m : Int) - 1 < 0) = False := by simp; omega
  go_enter Tryd.func76, Tryd.ntmps76
  go_wp2_with fail
  have hE0 := (Ext.refl w).alloc (.cells #[.int .u8 0, .int .i64 0, .string (str []), .slice none 0 0] 24)
  have hB4 := Box4.new w (.int .u8 0) (.int .i64 0) (.string (str [])) (.slice none 0 0)
  refine (rdnum_ok (H.out.then hE0) 0 2 0 k HN.out (by omega) (by omega)).mono ?_
  rintro e w1 ⟨rfl, ⟨v1, hr1⟩, hg1⟩
  have c0 := hr1.c0
  have c1 := hr1.c1
  have f0 := hr1.f0
  have f1 := hr1.f1
  have hlt := hr1.lt
  go_wp2_with fail
  change Calls _ _ _ (valW w1 R m 0) _
  obtain ⟨hr2, hg2, hb2, hz2⟩ := valW_facts hr1 0
  have hB5 := hB4.kept hg1 (by simp; omega)
  have hB6 := hB5.kept hg2 (by simp; omega)
  have hg3 := grown_trans (grown_trans (grown_ext hE0 (some R)) hg1) hg2
  have hlw := hg3.size
  have hlw1 := hE0.size
  have hlw2 := hg1.size
  generalize valW w1 R m 0 = W2 at *
  generalize hV : w1.heap.size = V at *
  have HV : Hid (w1.heap.size = V) := hV
  clear hV
  refine (rdnum_no hr2 _ _ (fun n k h => by rw [HN2.out] at h; cases h)).mono ?_
  rintro e w3 ⟨rfl, hE3, hg4⟩
  have HB : Hid (Broken w0 w R (.panicked [{ v := .iface 114 (.agg #[]), recovered := false }]) w3) := Lib.hid ⟨rfl, hE3, grown_trans hg3 hg4⟩
  clear hE3 hg4
  go_wp2
  exact ⟨rfl, HB.out⟩

set_option maxRecDepth 100000 in
set_option maxHeartbeats 4000000 in
theorem value_text_no {w0 w : World} {R : Nat} {v : Value} {xs : List UInt8} {m : Nat} (D : Int) (hD : 0 < D) (hm : 0 < m) (hm2 : m ≤ 1000) (h : RdAt w0 w R v xs m) (k : Nat) (hN : takeN xs = some (1, k)) (hN2 : takeT (xs.drop k) 100 = none) :
    Calls Tryd.prog 76 #[.pointer (some ⟨R, 0, none⟩), .int .i64 D] w (Broken w0 w R) := by
  have HN2 := Lib.hid hN2
  clear hN2
  have HN := Lib.hid hN
  have H := Lib.hid h
  have hR := h.lt
  clear h hN
  have hD0 : (D == 0) = false := by simp; omega
  have hm' : ((m : Int) - 1 < 0) = False := by simp; omega
  go_enter Tryd.func76, Tryd.ntmps76
  go_wp2_with fail
  have hE0 := (Ext.refl w).alloc (.cells #[.int .u8 0, .int .i64 0, .string (str []), .slice none 0 0] 24)
  have hB4 := Box4.new w (.int .u8 0) (.int .i64 0) (.string (str [])) (.slice none 0 0)
  refine (rdnum_ok (H.out.then hE0) 0 2 1 k HN.out (by omega) (by omega)).mono ?_
  rintro e w1 ⟨rfl, ⟨v1, hr1⟩, hg1⟩
  have c0 := hr1.c0
  have c1 := hr1.c1
  have f0 := hr1.f0
  have f1 := hr1.f1
  have hlt := hr1.lt
  go_wp2_with fail
  change Calls _ _ _ (valW w1 R m 1) _
  obtain ⟨hr2, hg2, hb2, hz2⟩ := valW_facts hr1 1
  have hB5 := hB4.kept hg1 (by simp; omega)
  have hB6 := hB5.kept hg2 (by simp; omega)
  have hg3 := grown_trans (grown_trans (grown_ext hE0 (some R)) hg1) hg2
  have hlw := hg3.size
  have hlw1 := hE0.size
  have hlw2 := hg1.size
  generalize valW w1 R m 1 = W2 at *
  generalize hV : w1.heap.size = V at *
  have HV : Hid (w1.heap.size = V) := hV
  clear hV
  refine (rdtext_no hr2 HN2.out).mono ?_
  rintro e w3 ⟨rfl, hE3, hg4⟩
  have HB : Hid (Broken w0 w R (.panicked [{ v := .iface 114 (.agg #[]), recovered := false }]) w3) := Lib.hid ⟨rfl, hE3, grown_trans hg3 hg4⟩
  clear hE3 hg4
  go_wp2
  exact ⟨rfl, HB.out⟩

set_option maxRecDepth 100000 in
set_option maxHeartbeats 4000000 in
theorem value_text {w0 w : World} {R : Nat} {v : Value} {xs : List UInt8} {m : Nat} (D : Int) (hD : 0 < D) (hm : 0 < m) (hm2 : m ≤ 1000) (h : RdAt w0 w R v xs m) (k : Nat) (hN : takeN xs = some (1, k)) (k2 n2 : Nat) (hN2 : takeT (xs.drop k) 100 = some (k2, n2)) :
    Calls Tryd.prog 76 #[.pointer (some ⟨R, 0, none⟩), .int .i64 D] w (ValOK w0 w R (.node 1 0 (((xs.drop k).drop k2).take n2) []) (((xs.drop k).drop k2).drop n2) (m - 1)) := by
  have HN2 := Lib.hid hN2
  clear hN2
  have HN := Lib.hid hN
  have H := Lib.hid h
  have hR := h.lt
  clear h hN
  have hD0 : (D == 0) = false := by simp; omega
  have hm' : ((m : Int) - 1 < 0) = False := by simp; omega
  go_enter Tryd.func76, Tryd.ntmps76
  go_wp2_with fail
  have hE0 := (Ext.refl w).alloc (.cells #[.int .u8 0, .int .i64 0, .string (str []), .slice none 0 0] 24)
  have hB4 := Box4.new w (.int .u8 0) (.int .i64 0) (.string (str [])) (.slice none 0 0)
  refine (rdnum_ok (H.out.then hE0) 0 2 1 k HN.out (by omega) (by omega)).mono ?_
  rintro e w1 ⟨rfl, ⟨v1, hr1⟩, hg1⟩
  have c0 := hr1.c0
  have c1 := hr1.c1
  have f0 := hr1.f0
  have f1 := hr1.f1
  have hlt := hr1.lt
  go_wp2_with fail
  change Calls _ _ _ (valW w1 R m 1) _
  obtain ⟨hr2, hg2, hb2, hz2⟩ := valW_facts hr1 1
  have hB5 := hB4.kept hg1 (by simp; omega)
  have hB6 := hB5.kept hg2 (by simp; omega)
  have hg3 := grown_trans (grown_trans (grown_ext hE0 (some R)) hg1) hg2
  have hlw := hg3.size
  have hlw1 := hE0.size
  have hlw2 := hg1.size
  generalize valW w1 R m 1 = W2 at *
  generalize hV : w1.heap.size = V at *
  have HV : Hid (w1.heap.size = V) := hV
  clear hV
  refine (rdtext_ok hr2 k2 n2 HN2.out).mono ?_
  rintro e w3 ⟨rfl, ⟨v3, hr3⟩, hg4⟩
  have hsl : (((xs.drop k).drop k2).take n2).length ≤ 9223372036854775807 := by
    have := (takeT_inv HN2.out).2.1
    rw [List.length_take]; omega
  generalize ((xs.drop k).drop k2).take n2 = s2 at *
  generalize ((xs.drop k).drop k2).drop n2 = r2 at *
  have hb3 := hb2.kept hg4 (by simp; omega)
  have hB7 := hB6.kept hg4 (by simp; omega)
  obtain ⟨d0, d1, d2, d3⟩ := hb3.cells
  obtain ⟨e0, e1, e2, e3⟩ := hb3.frozen
  obtain ⟨p0, p1, p2, p3⟩ := hB7.cells
  obtain ⟨q0, q1, q2, q3⟩ := hB7.frozen
  have hsz1 : (w.alloc (.cells #[.int .u8 0, .int .i64 0, .string (str []), .slice none 0 0] 24)).heap.size = w.heap.size + 1 := by simp
  have hPV : ¬ w.heap.size = V := by omega
  have hPV' : w.heap.size ≤ V := by omega
  have hRV : R < V := hlt
  have hVP : ¬ V = w.heap.size := by omega
  have ha1 := World.cell?_setCell_same w3 ⟨V, 2, none⟩ (.string (str s2)) d2
  clear hb2 hB6 hB5 hB4 hb3 hB7 hr2 hr1 hg1 hg2 hz2 hsz1 hlw hlw1 hlw2 c0 c1 f0 f1 hE0 hlt
  go_wp2
  refine bodyPost_ret (v := .agg #[.int .u8 1, .int .i64 0, .string (str s2), .slice none 0 0]) (by simp [results, Tryd.results76, go_sem, p0, p1, p2, p3]) rfl ?_
  have hk1 : ∀ k, some V = some k → w0.heap.size ≤ k ∧ k ≠ R := fun k hk => by
    injection hk with hk; have := H.out.ext.size; omega
  have hk2 : ∀ k, some w.heap.size = some k → w0.heap.size ≤ k ∧ k ≠ R := fun k hk => by
    injection hk with hk; have := H.out.ext.size; omega
  refine ⟨_, rfl, ⟨_, ((((hr3.kept (grown_set w3 V 2 _) hk1).kept (grown_set _ _ 0 _) hk2).kept (grown_set _ _ 1 _) hk2).kept (grown_set _ _ 2 _) hk2).kept (grown_set _ _ 3 _) hk2⟩, ?_, ?_⟩
  · exact grown_new (grown_new (grown_new (grown_new (grown_new (grown_trans hg3 hg4) (by simp; omega) _) (Nat.le_refl _) _) (Nat.le_refl _) _) (Nat.le_refl _) _) (Nat.le_refl _) _
  · exact OwnT.mk (k := 1) (by unfold isI64; omega) hsl (OwnL.nil _ _ _)

set_option maxRecDepth 100000 in
set_option maxHeartbeats 4000000 in
theorem value_list_no {w0 w : World} {R : Nat} {v : Value} {xs : List UInt8} {m : Nat} (D : Int) (hD : 0 < D) (hm : 0 < m) (hm2 : m ≤ 1000) (h : RdAt w0 w R v xs m) (k : Nat) (hN : takeN xs = some (2, k)) (hN2 : ∀ n k2, takeN (xs.drop k) = some (n, k2) → n < 0 ∨ 40 < n) :
    Calls Tryd.prog 76 #[.pointer (some ⟨R, 0, none⟩), .int .i64 D] w (Broken w0 w R) := by
  have HN2 := Lib.hid hN2
  clear hN2
  have HN := Lib.hid hN
  have H := Lib.hid h
  have hR := h.lt
  clear h hN
  have hD0 : (D == 0) = false := by simp; omega
  have hm' : ((m : Int) - 1 < 0) = False := by simp; omega
  go_enter Tryd.func76, Tryd.ntmps76
  go_wp2_with fail
  have hE0 := (Ext.refl w).alloc (.cells #[.int .u8 0, .int .i64 0, .string (str []), .slice none 0 0] 24)
  have hB4 := Box4.new w (.int .u8 0) (.int .i64 0) (.string (str [])) (.slice none 0 0)
  refine (rdnum_ok (H.out.then hE0) 0 2 2 k HN.out (by omega) (by omega)).mono ?_
  rintro e w1 ⟨rfl, ⟨v1, hr1⟩, hg1⟩
  have c0 := hr1.c0
  have c1 := hr1.c1
  have f0 := hr1.f0
  have f1 := hr1.f1
  have hlt := hr1.lt
  go_wp2_with fail
  change Calls _ _ _ (valW w1 R m 2) _
  obtain ⟨hr2, hg2, hb2, hz2⟩ := valW_facts hr1 2
  have hB5 := hB4.kept hg1 (by simp; omega)
  have hB6 := hB5.kept hg2 (by simp; omega)
  have hg3 := grown_trans (grown_trans (grown_ext hE0 (some R)) hg1) hg2
  have hlw := hg3.size
  have hlw1 := hE0.size
  have hlw2 := hg1.size
  generalize valW w1 R m 2 = W2 at *
  generalize hV : w1.heap.size = V at *
  have HV : Hid (w1.heap.size = V) := hV
  clear hV
  refine (rdnum_no hr2 _ _ HN2.out).mono ?_
  rintro e w3 ⟨rfl, hE3, hg4⟩
  have HB : Hid (Broken w0 w R (.panicked [{ v := .iface 114 (.agg #[]), recovered := false }]) w3) := Lib.hid ⟨rfl, hE3, grown_trans hg3 hg4⟩
  clear hE3 hg4
  go_wp2
  exact ⟨rfl, HB.out⟩

end Go.Proofs.YtnbalamacpcanaaDoor
