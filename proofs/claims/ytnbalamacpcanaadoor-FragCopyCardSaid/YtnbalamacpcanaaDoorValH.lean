/- Walks: Right. -/
import Derived.Test.YtnbalamacpcanaaDoorValG
import Derived.Test.YtnbalamacpcanaaDoorTreeF
open Go.RowKit Go.Shelf
namespace Go.Proofs.YtnbalamacpcanaaDoor
open Go Go.Proofs Fm

/-- The world of fits when its three variables are laid and one part is counted. -/
def fitsW (w : World) (R : Nat) (left : Int) (K n : Int) (s : ByteArray) (sl : Value) (d : Int) : World :=
  (((w.alloc (.cells #[.pointer (some ⟨R, 0, none⟩)] 98)).alloc (.cells #[.int .u8 K, .int .i64 n, .string s, sl] 24)).alloc (.cells #[.int .i64 d] 3)).setCell ⟨R, 0, none⟩ (.int .i64 (left - 1))

theorem fitsW_facts {w0 w : World} {R : Nat} {left : Int} (h : RoomAt w0 w R left) (K n : Int) (s : ByteArray) (sl : Value) (d : Int) :
    RoomAt w0 (fitsW w R left K n s sl d) R (left - 1) ∧ w.grownBy (fitsW w R left K n s sl d) (some R) ∧ w.heap.size + 2 < (fitsW w R left K n s sl d).heap.size ∧
    (fitsW w R left K n s sl d).cell? ⟨w.heap.size, 0, none⟩ = some (.pointer (some ⟨R, 0, none⟩)) ∧ (fitsW w R left K n s sl d).cell? ⟨w.heap.size + 1, 3, none⟩ = some sl ∧
    (fitsW w R left K n s sl d).cell? ⟨w.heap.size + 2, 0, none⟩ = some (.int .i64 d) := by
  have hE := (((Ext.refl w).alloc (.cells #[.pointer (some ⟨R, 0, none⟩)] 98)).alloc (.cells #[.int .u8 K, .int .i64 n, .string s, sl] 24)).alloc (.cells #[.int .i64 d] 3)
  have hlt := h.lt
  have h1 : R ≠ w.heap.size := by omega
  have h2 : R ≠ w.heap.size + 1 := by omega
  have h3 : R ≠ w.heap.size + 2 := by omega
  obtain ⟨a, b⟩ := (h.then hE).set (left - 1)
  refine ⟨a, grown_trans (grown_ext hE _) b, ?_, ?_, ?_, ?_⟩
  · simp [fitsW]
  · unfold fitsW; rw [World.cell?_setCell_far _ _ _ _ (by simpa using h1)]
    have e1 : (w.alloc (.cells #[.pointer (some ⟨R, 0, none⟩)] 98)).cell? ⟨w.heap.size, 0, none⟩ = some (.pointer (some ⟨R, 0, none⟩)) := by simp
    exact ((((Ext.refl _).alloc _).alloc _).cell (p := ⟨w.heap.size, 0, none⟩) (by simp)).trans e1
  · unfold fitsW; rw [World.cell?_setCell_far _ _ _ _ (by simpa using h2)]
    have e1 := (alloc4 (w.alloc (.cells #[.pointer (some ⟨R, 0, none⟩)] 98)) (.int .u8 K) (.int .i64 n) (.string s) sl 24).2.2.2.1
    rw [show (w.alloc (.cells #[.pointer (some ⟨R, 0, none⟩)] 98)).heap.size = w.heap.size + 1 by simp] at e1
    exact (((Ext.refl _).alloc _).cell (p := ⟨w.heap.size + 1, 3, none⟩) (by simp)).trans e1
  · unfold fitsW; rw [World.cell?_setCell_far _ _ _ _ (by simpa using h3)]
    have hz : ((w.alloc (.cells #[.pointer (some ⟨R, 0, none⟩)] 98)).alloc (.cells #[.int .u8 K, .int .i64 n, .string s, sl] 24)).heap.size = w.heap.size + 2 := by simp
    generalize (w.alloc (.cells #[.pointer (some ⟨R, 0, none⟩)] 98)).alloc (.cells #[.int .u8 K, .int .i64 n, .string s, sl] 24) = W2 at *
    rw [← hz]
    simp

/-- The contract of fits at one tree. -/
def FitsAt (t : Tr) : Prop := ∀ (w0 w : World) (R : Nat) (left : Int) (D : Int) (d : Nat) (v : Value), Hid (D = d) → Lies w0 t v → RoomAt w0 w R left → 0 ≤ left → left ≤ 1000000 → d ≤ 100 →
    Calls Tryd.prog 67 #[.pointer (some ⟨R, 0, none⟩), v, .int .i64 D] w (FitsPost w0 w R left t d)

set_option maxRecDepth 100000 in
set_option maxHeartbeats 4000000 in
theorem clos_any (t : Tr) (ih : FitsAt t) (w0 w : World) (R X Y : Nat) (left : Int) (D : Int) (d : Nat) (v : Value) (hD : Hid (D = d + 1)) (hD1 : 1 ≤ D) (hD2 : D ≤ 100) (hv : Lies w0 t v) (hr : RoomAt w0 w R left) (hl0 : 0 ≤ left) (hl1 : left ≤ 1000000) (hX : X < w.heap.size) (hY : Y < w.heap.size)
    (cX : w.cell? ⟨X, 0, none⟩ = some (.pointer (some ⟨R, 0, none⟩))) (cY : w.cell? ⟨Y, 0, none⟩ = some (.int .i64 D)) :
    Calls Tryd.prog 112 #[v, .pointer (some ⟨X, 0, none⟩), .pointer (some ⟨Y, 0, none⟩)] w fun e w' => ∃ b, e = .returned (.bool (!b)) ∧ FitsPost w0 w R left t d (.returned (.bool b)) w' := by
  have HL := Lib.hid hv
  cases t with
  | node k n s l =>
  obtain ⟨dd, rfl, -, -, a, cap, rfl, -⟩ := hv.parts
  clear hv
  have HR := Lib.hid hr
  have cX' := ((Ext.refl w).alloc (.cells #[.int .u8 (k.toNat : Int), .int .i64 n, .string (str s), .slice a l.length cap] 24)).cell (p := ⟨X, 0, none⟩) hX |>.trans cX
  have cY' := ((Ext.refl w).alloc (.cells #[.int .u8 (k.toNat : Int), .int .i64 n, .string (str s), .slice a l.length cap] 24)).cell (p := ⟨Y, 0, none⟩) hY |>.trans cY
  go_enter Tryd.func112, Tryd.ntmps112
  go_wp2_with fail
  have hE0 := (Ext.refl w).alloc (.cells #[.int .u8 (k.toNat : Int), .int .i64 n, .string (str s), .slice a l.length cap] 24)
  refine (ih w0 _ R left (D - 1) d _ (Lib.hid (by have := hD.out; omega)) HL.out (HR.out.then hE0) hl0 hl1 (by have := hD.out; omega)).mono ?_
  rintro e w1 ⟨b, left', rfl, hb1, hb2, hb3, hb4, r1, g1⟩
  have hFP : ∃ b', Ending.returned (.bool (!b)) = .returned (.bool (!b')) ∧ FitsPost w0 w R left (.node k n s l) d (.returned (.bool b')) w1 :=
    ⟨b, rfl, b, left', rfl, hb1, hb2, hb3, hb4, r1, grown_trans (grown_ext hE0 _) g1⟩
  have HFP := Lib.hid hFP
  clear hb1 hb2 hb3 hb4 r1 g1 hFP cX' cY' cX cY hE0 HR hr
  cases b with
  | true =>
    go_wp2
    go_ret
    exact HFP.out
  | false =>
    go_wp2
    go_ret
    exact HFP.out

set_option maxRecDepth 100000 in
set_option maxHeartbeats 4000000 in
theorem indexF_any (l : List Tr) (ih : ∀ t, t ∈ l → FitsAt t)
    (w0 w : World) (R X Y : Nat) (left : Int) (D : Int) (d : Nat) (v : Value) (hD : Hid (D = d + 1)) (hD1 : 1 ≤ D) (hD2 : D ≤ 100) (hv : LiesS w0 l v) (hr : RoomAt w0 w R left) (hl0 : 0 ≤ left) (hl1 : left ≤ 1000000)
    (hX : R < X) (hXY : X < Y) (hY : Y < w.heap.size) (cX : w.cell? ⟨X, 0, none⟩ = some (.pointer (some ⟨R, 0, none⟩))) (cY : w.cell? ⟨Y, 0, none⟩ = some (.int .i64 D)) :
    Calls Tryd.prog 159 #[v, .func (.func 112) #[] #[.pointer (some ⟨X, 0, none⟩), .pointer (some ⟨Y, 0, none⟩)]] w fun e w' => ∃ r : Int, e = .returned (.int .i64 r) ∧ ListPost w0 w R left l d (decide (r < 0)) w' := by
  obtain ⟨a, cap, rfl, h1, h2, h3, C, h4, h5⟩ := hv
  have H4 := Lib.hid h4; have H5 := Lib.hid h5
  have hll : l.length ≤ 9223372036854775807 := by unfold maxLen at h2; omega
  clear h3 h4 h5 h1 h2
  have HR := Lib.hid hr
  clear hr
  go_enter Tryd.func159, Tryd.ntmps159
  go_wp2_with fail
  go_loopw [8] (fun i wr => ∃ (j : Nat) (left' : Int), j ≤ l.length ∧ i = .int .i64 j ∧ 0 ≤ left' ∧ left' ≤ left ∧ Hid ((l.take j).all kindsT = true ∧ deepL (l.take j) ≤ d ∧ left' = left - partsL (l.take j)) ∧ Hid (RoomAt w0 wr R left') ∧ w.grownBy wr (some R)) (fun i _ => l.length - (intOf i).toNat)
  case atStart => exact ⟨0, left, by omega, rfl, hl0, by omega, Lib.hid (by simp [deepL_nil, partsL_nil]), HR, World.grownBy.refl _ _⟩
  case round =>
    obtain ⟨j, left', hj, rfl, hp0, hp1, HI, HR', hg⟩ := hrel
    have kX := (hg.cell_far ⟨X, 0, none⟩ (by show X < _; omega) (by simp; omega)).trans cX
    have kY := (hg.cell_far ⟨Y, 0, none⟩ (by show Y < _; omega) (by simp; omega)).trans cY
    by_cases hlt : j < l.length
    · obtain ⟨b, off, rfl, hb, hc⟩ := H4.out (by omega)
      obtain ⟨k0, n0, s0, a0, m0, c0, e0, e1, e2, e3, hx⟩ := elem4o HR'.out.ext hb hc H5.out j hlt
      have hgs := hg.size
      go_wp2_with fail
      refine (clos_any _ (ih _ (List.getElem_mem hlt)) w0 wr R X Y left' D d _ hD hD1 hD2 hx HR'.out hp0 (by omega) (by omega) (by omega) kX kY).mono ?_
      rintro e w1 ⟨b1, rfl, hFP⟩
      obtain ⟨b2, left2, hbe, hb1, hb2, hb3, hb4, r1, g1⟩ := hFP
      obtain rfl : b1 = b2 := by injection hbe with h; injection h
      have g2 := grown_trans hg g1
      cases b1 with
      | true =>
        have hh := hb1.1 rfl
        have hl2 := hb2 rfl
        have hI := HI.out
        have HI2 : Hid ((l.take (j + 1)).all kindsT = true ∧ deepL (l.take (j + 1)) ≤ d ∧ left2 = left - partsL (l.take (j + 1))) := Lib.hid ⟨all_take kindsT l j hlt hI.1 hh.1, by rw [deepL_at l j hlt]; omega, by rw [partsL_at l j hlt]; omega⟩
        have hl3 : 0 ≤ left2 := by omega
        have HR2 := Lib.hid r1
        clear hh hl2 hI HI HR' hb1 hb2 hb3 hbe r1 g1 hg kX kY e0 e1 e2 e3 hx hb hc
        go_wp2
        go_roundw
        case rel => exact ⟨j + 1, left2, by omega, by go_num, hl3, by omega, HI2, HR2, g2⟩
        case measure => simp [intOf]; omega
      | false =>
        have hI := HI.out
        have hpk := partsL_at l j hlt
        have hpl := partsL_take_le l (j + 1)
        have hdm := deepL_mem l j hlt
        have hLP : ListPost w0 w R left l d (decide ((j : Int) < 0)) w1 := ⟨left2, (by
            rw [decide_eq_false (by omega)]
            simp only [Bool.false_eq_true, false_iff]
            rintro ⟨q1, q2, q3⟩
            have := hb1.2 ⟨all_mem l j hlt q1, by omega, by omega⟩
            cases this), fun h => absurd (of_decide_eq_true h) (by omega), hb3, by omega, r1, g2⟩
        have HLP := Lib.hid hLP
        clear hLP hI HI HR' hb1 hb2 hb3 hbe r1 g1 hg kX kY e0 e1 e2 e3 hx hb hc hpk hpl hdm
        go_wp2
        go_ret
        exact ⟨_, rfl, HLP.out⟩
    · have hj' : j = l.length := by omega
      have hI := HI.out
      rw [hj', List.take_length] at hI
      have hLP : ListPost w0 w R left l d (decide ((-1 : Int) < 0)) wr := ⟨left', by
          rw [decide_eq_true (by omega)]
          simp only [true_iff]
          exact ⟨hI.1, hI.2.1, by omega⟩, fun _ => hI.2.2, by omega, hp1, HR'.out, hg⟩
      have HLP := Lib.hid hLP
      clear hLP hI HI HR' hj' hg kX kY
      go_wp2
      go_ret
      exact ⟨_, rfl, HLP.out⟩

set_option maxRecDepth 100000 in
set_option maxHeartbeats 4000000 in
theorem containsF_any (l : List Tr) (ih : ∀ t, t ∈ l → FitsAt t)
    (w0 w : World) (R X Y : Nat) (left : Int) (D : Int) (d : Nat) (v : Value) (hD : Hid (D = d + 1)) (hD1 : 1 ≤ D) (hD2 : D ≤ 100) (hv : LiesS w0 l v) (hr : RoomAt w0 w R left) (hl0 : 0 ≤ left) (hl1 : left ≤ 1000000)
    (hX : R < X) (hXY : X < Y) (hY : Y < w.heap.size) (cX : w.cell? ⟨X, 0, none⟩ = some (.pointer (some ⟨R, 0, none⟩))) (cY : w.cell? ⟨Y, 0, none⟩ = some (.int .i64 D)) :
    Calls Tryd.prog 111 #[v, .func (.func 112) #[] #[.pointer (some ⟨X, 0, none⟩), .pointer (some ⟨Y, 0, none⟩)]] w fun e w' => ∃ b, e = .returned (.bool (!b)) ∧ ListPost w0 w R left l d b w' := by
  have HV := Lib.hid hv
  obtain ⟨a, cap, rfl, -⟩ := hv
  go_enter Tryd.func111, Tryd.ntmps111
  go_wp2_with fail
  refine (indexF_any l ih w0 w R X Y left D d _ hD hD1 hD2 HV.out hr hl0 hl1 hX hXY hY cX cY).mono ?_
  rintro e w1 ⟨r, rfl, hLP⟩
  have HLP := Lib.hid hLP
  clear hLP cX cY hr
  have HE := Lib.hid (show decide (0 ≤ r) = !decide (r < 0) by rw [Bool.eq_iff_iff]; simp)
  go_wp2
  go_ret
  exact ⟨decide (r < 0), by rw [← HE.out]; rfl, HLP.out⟩

set_option maxRecDepth 100000 in
set_option maxHeartbeats 4000000 in
theorem fits_any (t : Tr) : FitsAt t := by
  induction t using Tr.ind with
  | h k n s l ih =>
  intro w0 w R left D d v HD hv hr hl0 hl1 hd
  have HL := Lib.hid hv
  obtain ⟨dd, rfl, hn, hs, hls⟩ := hv.parts
  have ⟨a, cap, hda, h1, h2, h3, C, h4, h5⟩ := hls
  subst hda
  have HS := Lib.hid hls
  have hll : l.length ≤ 9223372036854775807 := by unfold maxLen at h2; omega
  obtain ⟨r4, g4, z4, p0, p1, p2⟩ := fitsW_facts hr (k.toNat : Int) n (str s) (.slice a l.length cap) D
  have hW3 := (((Ext.refl w).alloc (.cells #[.pointer (some ⟨R, 0, none⟩)] 98)).alloc (.cells #[.int .u8 (k.toNat : Int), .int .i64 n, .string (str s), .slice a l.length cap] 24)).alloc (.cells #[.int .i64 D] 3)
  have hR := hr.lt
  have hcc := (hW3.cell (p := ⟨R, 0, none⟩) hR).trans hr.cell
  have hff := (hW3.frozen (p := ⟨R, 0, none⟩) hR).trans hr.free
  have HP := Lib.hid (partsT_node k n s l)
  have HDP := Lib.hid (deepT_node k n s l)
  have HKN := Lib.hid (kindsT_node k n s l)
  clear hls h4 h5 h3 h1 h2 hn hs hv hW3 hr
  by_cases h0 : left - 1 < 0
  · have hFP : FitsPost w0 w R left (.node k n s l) d (.returned (.bool false)) (fitsW w R left k.toNat n (str s) (.slice a l.length cap) D) :=
      ⟨false, left - 1, rfl, by have := HP.out; simp only [Bool.false_eq_true, false_iff]; rintro ⟨_, _, h⟩; omega, (fun h => by cases h), by omega, by omega, r4, g4⟩
    clear r4 g4 z4 p0 p1 p2
    go_enter Tryd.func67, Tryd.ntmps67
    go_wp2
    go_ret
    exact hFP
  · have hD := HD.out
    by_cases hd0 : d = 0
    · have hD0 : (D == 0) = true := by simp; omega
      have hFP : FitsPost w0 w R left (.node k n s l) d (.returned (.bool false)) (fitsW w R left k.toNat n (str s) (.slice a l.length cap) D) :=
        ⟨false, left - 1, rfl, by have := HDP.out; simp only [Bool.false_eq_true, false_iff]; rintro ⟨_, h, _⟩; omega, (fun h => by cases h), by omega, by omega, r4, g4⟩
      clear r4 g4 z4 p0 p1 p2 hd0 hD
      go_enter Tryd.func67, Tryd.ntmps67
      go_wp2
      go_ret
      exact hFP
    · have hD0 : (D == 0) = false := by simp; omega
      have hD1 : 1 ≤ D := by omega
      have hD2 : D ≤ 100 := by omega
      clear hD
      obtain ⟨W4, hW4⟩ : ∃ W4, W4 = fitsW w R left k.toNat n (str s) (.slice a l.length cap) D := ⟨_, rfl⟩
      rw [← hW4] at r4 g4 z4 p0 p1 p2
      have HW4 := Lib.hid hW4
      clear hW4
      go_enter Tryd.func67, Tryd.ntmps67
      go_wp2_with fail
      have hW4 := HW4.out
      unfold fitsW at hW4
      rw [← hW4]
      clear hW4 hcc hff
      refine (vplain_any k n s l _ _ (HL.out.ext r4.ext)).mono ?_
      rintro e w1 ⟨rfl, hE1⟩
      have r5 := r4.then hE1
      have g5 := grown_trans g4 (grown_ext hE1 _)
      have q0 := (hE1.cell (p := ⟨w.heap.size, 0, none⟩) (by show w.heap.size < _; omega)).trans p0
      have q1 := (hE1.cell (p := ⟨w.heap.size + 1, 3, none⟩) (by show w.heap.size + 1 < _; omega)).trans p1
      have q2 := (hE1.cell (p := ⟨w.heap.size + 2, 0, none⟩) (by show w.heap.size + 2 < _; omega)).trans p2
      have z5 := Nat.lt_of_lt_of_le z4 hE1.size
      clear r4 g4 z4 p0 p1 p2 hE1
      cases hp : plainB k n s l.length with
      | false =>
        have hFP : FitsPost w0 w R left (.node k n s l) d (.returned (.bool false)) w1 :=
          ⟨false, left - 1, rfl, by have := HKN.out; rw [hp, Bool.false_and] at this; rw [this]; simp, (fun h => by cases h), by omega, by omega, r5, g5⟩
        clear r5 g5 q0 q1 q2 z5 hp
        go_wp2
        go_ret
        exact hFP
      | true =>
        have HKN2 : Hid (kindsT (.node k n s l) = l.all kindsT) := Lib.hid (by rw [HKN.out, hp, Bool.true_and])
        clear hp HKN
        go_wp2_with fail
        refine (containsF_any l ih w0 w1 R w.heap.size (w.heap.size + 1 + 1) (left - 1) D (d - 1) _ (Lib.hid (by have := HD.out; omega)) hD1 hD2 HS.out r5 (by omega) (by omega) hR (by omega) (by omega) q0 q2).mono ?_
        rintro e w2 ⟨b, rfl, left2, hb1, hb2, hb3, hb4, r6, g6⟩
        have hFP : FitsPost w0 w R left (.node k n s l) d (.returned (.bool b)) w2 := by
          have e1 := HP.out; have e2 := HDP.out; have e3 := HKN2.out
          refine ⟨b, left2, rfl, ?_, fun h => ?_, hb3, by omega, r6, grown_trans g5 g6⟩
          · rw [hb1, e1, e2, e3]
            exact and_congr Iff.rfl (and_congr ⟨fun h => by omega, fun h => by omega⟩ ⟨fun h => by omega, fun h => by omega⟩)
          · have := hb2 h; rw [e1]; omega
        have HFP := Lib.hid hFP
        clear hFP hb1 hb2 hb3 hb4 r6 g6 r5 g5 q0 q1 q2 z5
        cases b with
        | true =>
          go_wp2
          go_ret
          exact HFP.out
        | false =>
          go_wp2
          go_ret
          exact HFP.out
end Go.Proofs.YtnbalamacpcanaaDoor
