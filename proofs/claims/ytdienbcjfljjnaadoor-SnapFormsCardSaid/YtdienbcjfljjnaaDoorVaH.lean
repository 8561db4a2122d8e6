/- Walks: Right. -/
import Derived.Test.YtdienbcjfljjnaaDoorVaA
import Derived.Test.YtdienbcjfljjnaaDoorPlT
import Derived.WalkLawsBesides
open Go.RowKit Go.Shelf
namespace Go.Proofs.YtdienbcjfljjnaaDoor
open Go Go.Proofs Fm

/-- The world of fits when its three variables are laid and one part is counted. -/
def fitsW (w : World) (R : Nat) (left : Int) (K n : Int) (s : ByteArray) (sl : Value) (d : Int) : World :=
  (((w.alloc (.cells #[.pointer (some ⟨R, 0, none⟩)] 100)).alloc (.cells #[.int .u8 K, .int .i64 n, .string s, sl] 45)).alloc (.cells #[.int .i64 d] 3)).setCell ⟨R, 0, none⟩ (.int .i64 (left - 1))

theorem fitsW_facts {w0 w : World} {R : Nat} {left : Int} (h : RoomAt w0 w R left) (K n : Int) (s : ByteArray) (sl : Value) (d : Int) :
    RoomAt w0 (fitsW w R left K n s sl d) R (left - 1) ∧ w.grownBy (fitsW w R left K n s sl d) (some R) ∧ w.heap.size + 2 < (fitsW w R left K n s sl d).heap.size ∧
    (fitsW w R left K n s sl d).cell? ⟨w.heap.size, 0, none⟩ = some (.pointer (some ⟨R, 0, none⟩)) ∧ (fitsW w R left K n s sl d).cell? ⟨w.heap.size + 1, 3, none⟩ = some sl ∧
    (fitsW w R left K n s sl d).cell? ⟨w.heap.size + 2, 0, none⟩ = some (.int .i64 d) := by
  have hE := (((Ext.refl w).alloc (.cells #[.pointer (some ⟨R, 0, none⟩)] 100)).alloc (.cells #[.int .u8 K, .int .i64 n, .string s, sl] 45)).alloc (.cells #[.int .i64 d] 3)
  have hlt := h.lt
  have h1 : R ≠ w.heap.size := by omega
  have h2 : R ≠ w.heap.size + 1 := by omega
  have h3 : R ≠ w.heap.size + 2 := by omega
  obtain ⟨a, b⟩ := (h.then hE).set (left - 1)
  refine ⟨a, grown_trans (grown_ext hE _) b, ?_, ?_, ?_, ?_⟩
  · simp [fitsW]
  · unfold fitsW; rw [World.cell?_setCell_far _ _ _ _ (by simpa using h1)]
    have e1 : (w.alloc (.cells #[.pointer (some ⟨R, 0, none⟩)] 100)).cell? ⟨w.heap.size, 0, none⟩ = some (.pointer (some ⟨R, 0, none⟩)) := by simp
    exact ((((Ext.refl _).alloc _).alloc _).cell (p := ⟨w.heap.size, 0, none⟩) (by simp)).trans e1
  · unfold fitsW; rw [World.cell?_setCell_far _ _ _ _ (by simpa using h2)]
    have e1 := (alloc4 (w.alloc (.cells #[.pointer (some ⟨R, 0, none⟩)] 100)) (.int .u8 K) (.int .i64 n) (.string s) sl 45).2.2.2.1
    rw [show (w.alloc (.cells #[.pointer (some ⟨R, 0, none⟩)] 100)).heap.size = w.heap.size + 1 by simp] at e1
    exact (((Ext.refl _).alloc _).cell (p := ⟨w.heap.size + 1, 3, none⟩) (by simp)).trans e1
  · unfold fitsW; rw [World.cell?_setCell_far _ _ _ _ (by simpa using h3)]
    have hz : ((w.alloc (.cells #[.pointer (some ⟨R, 0, none⟩)] 100)).alloc (.cells #[.int .u8 K, .int .i64 n, .string s, sl] 45)).heap.size = w.heap.size + 2 := by simp
    generalize (w.alloc (.cells #[.pointer (some ⟨R, 0, none⟩)] 100)).alloc (.cells #[.int .u8 K, .int .i64 n, .string s, sl] 45) = W2 at *
    rw [← hz]
    simp

/-- The contract of fits at one tree. -/
def FitsAt (t : Tr) : Prop := ∀ (w0 w : World) (R : Nat) (left : Int) (D : Int) (d : Nat) (v : Value), Hid (D = d) → Lies w0 t v → RoomAt w0 w R left → 0 ≤ left → left ≤ 1000000 → d ≤ 100 →
    Calls Tryd.prog 60 #[.pointer (some ⟨R, 0, none⟩), v, .int .i64 D] w (FitsPost w0 w R left t d)

set_option maxRecDepth 100000 in
set_option maxHeartbeats 4000000 in
theorem clos_any (t : Tr) (ih : FitsAt t) (w0 w : World) (R X Y : Nat) (left : Int) (D : Int) (d : Nat) (v : Value) (hD : Hid (D = d + 1)) (hD1 : 1 ≤ D) (hD2 : D ≤ 100) (hv : Lies w0 t v) (hr : RoomAt w0 w R left) (hl0 : 0 ≤ left) (hl1 : left ≤ 1000000) (hX : X < w.heap.size) (hY : Y < w.heap.size)
    (cX : w.cell? ⟨X, 0, none⟩ = some (.pointer (some ⟨R, 0, none⟩))) (cY : w.cell? ⟨Y, 0, none⟩ = some (.int .i64 D)) :
    Calls Tryd.prog 91 #[v, .pointer (some ⟨X, 0, none⟩), .pointer (some ⟨Y, 0, none⟩)] w fun e w' => ∃ b, e = .returned (.bool (!b)) ∧ FitsPost w0 w R left t d (.returned (.bool b)) w' := by
  have HL := Lib.hid hv
  cases t with
  | node k n s l =>
  obtain ⟨dd, rfl, -, -, a, cap, rfl, -⟩ := hv.parts
  clear hv
  have HR := Lib.hid hr
  have cX' := ((Ext.refl w).alloc (.cells #[.int .u8 (k.toNat : Int), .int .i64 n, .string (str s), .slice a l.length cap] 45)).cell (p := ⟨X, 0, none⟩) hX |>.trans cX
  have cY' := ((Ext.refl w).alloc (.cells #[.int .u8 (k.toNat : Int), .int .i64 n, .string (str s), .slice a l.length cap] 45)).cell (p := ⟨Y, 0, none⟩) hY |>.trans cY
  go_enter Tryd.func91, Tryd.ntmps91
  go_wp2_with fail
  have hE0 := (Ext.refl w).alloc (.cells #[.int .u8 (k.toNat : Int), .int .i64 n, .string (str s), .slice a l.length cap] 45)
  refine (ih w0 _ R left (D - 1) d _ (Lib.hid (by have := hD.out; omega)) HL.out (HR.out.then hE0) hl0 hl1 (by have := hD.out; omega)).mono ?_
  rintro e w1 ⟨b, left', rfl, hb1, hb2, hb3, hb4, r1, g1⟩
  have hFP : ∃ b', Ending.returned (.bool (!b)) = .returned (.bool (!b')) ∧ FitsPost w0 w R left (.node k n s l) d (.returned (.bool b')) w1 :=
    ⟨b, rfl, b, left', rfl, hb1, hb2, hb3, hb4, r1, grown_trans (grown_ext hE0 _) g1⟩
  have HFP := Lib.hid hFP
  clear hb1 hb2 hb3 hb4 r1 g1 hFP cX' cY' cX cY hE0 HR hr
  cases b with
  | true =>
    go_wp2
    go_ret
    exact HFP.out
  | false =>
    go_wp2
    go_ret
    exact HFP.out

set_option maxRecDepth 100000 in
set_option maxHeartbeats 4000000 in
theorem indexF_any (l : List Tr) (ih : ∀ t, t ∈ l → FitsAt t)
    (w0 w : World) (R X Y : Nat) (left : Int) (D : Int) (d : Nat) (v : Value) (hD : Hid (D = d + 1)) (hD1 : 1 ≤ D) (hD2 : D ≤ 100) (hv : LiesS w0 l v) (hr : RoomAt w0 w R left) (hl0 : 0 ≤ left) (hl1 : left ≤ 1000000)
    (hX : R < X) (hXY : X < Y) (hY : Y < w.heap.size) (cX : w.cell? ⟨X, 0, none⟩ = some (.pointer (some ⟨R, 0, none⟩))) (cY : w.cell? ⟨Y, 0, none⟩ = some (.int .i64 D)) :
    Calls Tryd.prog 108 #[v, .func (.func 91) #[] #[.pointer (some ⟨X, 0, none⟩), .pointer (some ⟨Y, 0, none⟩)]] w fun e w' => ∃ r : Int, e = .returned (.int .i64 r) ∧ ListPost w0 w R left l d (decide (r < 0)) w' := by
  obtain ⟨a, cap, rfl, h1, h2, h3, C, h4, h5⟩ := hv
  have H4 := Lib.hid h4; have H5 := Lib.hid h5
  have hll : l.length ≤ 9223372036854775807 := by unfold maxLen at h2; omega
  clear h3 h4 h5 h1 h2
  have HR := Lib.hid hr
  clear hr
  go_enter Tryd.func108, Tryd.ntmps108
  go_wp2_with fail
  go_loopw [8] (fun i wr => ∃ (j : Nat) (left' : Int), j ≤ l.length ∧ i = .int .i64 j ∧ 0 ≤ left' ∧ left' ≤ left ∧ Hid ((l.take j).all kindsT = true ∧ deepL (l.take j) ≤ d ∧ left' = left - partsL (l.take j)) ∧ Hid (RoomAt w0 wr R left') ∧ w.grownBy wr (some R)) (fun i _ => l.length - (intOf i).toNat)
  case atStart => exact ⟨0, left, by omega, rfl, hl0, by omega, Lib.hid (by simp [deepL_nil, partsL_nil]), HR, World.grownBy.refl _ _⟩
  case round =>
    obtain ⟨j, left', hj, rfl, hp0, hp1, HI, HR', hg⟩ := hrel
    have kX := (hg.cell_far ⟨X, 0, none⟩ (by show X < _; omega) (by simp; omega)).trans cX
    have kY := (hg.cell_far ⟨Y, 0, none⟩ (by show Y < _; omega) (by simp; omega)).trans cY
    by_cases hlt : j < l.length
    · obtain ⟨b, off, rfl, hb, hc⟩ := H4.out (by omega)
      obtain ⟨k0, n0, s0, a0, m0, c0, e0, e1, e2, e3, hx⟩ := elem4o HR'.out.ext hb hc H5.out j hlt
      have hgs := hg.size
      go_wp2_with fail
      refine (clos_any _ (ih _ (List.getElem_mem hlt)) w0 wr R X Y left' D d _ hD hD1 hD2 hx HR'.out hp0 (by omega) (by omega) (by omega) kX kY).mono ?_
      rintro e w1 ⟨b1, rfl, hFP⟩
      obtain ⟨b2, left2, hbe, hb1, hb2, hb3, hb4, r1, g1⟩ := hFP
      obtain rfl : b1 = b2 := by injection hbe with h; injection h
      have g2 := grown_trans hg g1
      cases b1 with
      | true =>
        have hh := hb1.1 rfl
        have hl2 := hb2 rfl
        have hI := HI.out
        have HI2 : Hid ((l.take (j + 1)).all kindsT = true ∧ deepL (l.take (j + 1)) ≤ d ∧ left2 = left - partsL (l.take (j + 1))) := Lib.hid ⟨all_take kindsT l j hlt hI.1 hh.1, by rw [deepL_at l j hlt]; omega, by rw [partsL_at l j hlt]; omega⟩
        have hl3 : 0 ≤ left2 := by omega
        have HR2 := Lib.hid r1
        clear hh hl2 hI HI HR' hb1 hb2 hb3 hbe r1 g1 hg kX kY e0 e1 e2 e3 hx hb hc
        go_wp2
        go_roundw
        case rel => exact ⟨j + 1, left2, by omega, by go_num, hl3, by omega, HI2, HR2, g2⟩
        case measure => simp [intOf]; omega
      | false =>
        have hI := HI.out
        have hpk := partsL_at l j hlt
        have hpl := partsL_take_le l (j + 1)
        have hdm := deepL_mem l j hlt
        have hLP : ListPost w0 w R left l d (decide ((j : Int) < 0)) w1 := ⟨left2, (by
            rw [decide_eq_false (by omega)]
            simp only [Bool.false_eq_true, false_iff]
            rintro ⟨q1, q2, q3⟩
            have := hb1.2 ⟨all_mem l j hlt q1, by omega, by omega⟩
            cases this), fun h => absurd (of_decide_eq_true h) (by omega), hb3, by omega, r1, g2⟩
        have HLP := Lib.hid hLP
        clear hLP hI HI HR' hb1 hb2 hb3 hbe r1 g1 hg kX kY e0 e1 e2 e3 hx hb hc hpk hpl hdm
        go_wp2
        go_ret
        exact ⟨_, rfl, HLP.out⟩
    · have hj' : j = l.length := by omega
      have hI := HI.out
      rw [hj', List.take_length] at hI
      have hLP : ListPost w0 w R left l d (decide ((-1 : Int) < 0)) wr := ⟨left', by
          rw [decide_eq_true (by omega)]
          simp only [true_iff]
          exact ⟨hI.1, hI.2.1, by omega⟩, fun _ => hI.2.2, by omega, hp1, HR'.out, hg⟩
      have HLP := Lib.hid hLP
      clear hLP hI HI HR' hj' hg kX kY
      go_wp2
      go_ret
      exact ⟨_, rfl, HLP.out⟩

set_option maxRecDepth 100000 in
set_option maxHeartbeats 4000000 in
theorem containsF_any (l : List Tr) (ih : ∀ t, t ∈ l → FitsAt t)
    (w0 w : World) (R X Y : Nat) (left : Int) (D : Int) (d : Nat) (v : Value) (hD : Hid (D = d + 1)) (hD1 : 1 ≤ D) (hD2 : D ≤ 100) (hv : LiesS w0 l v) (hr : RoomAt w0 w R left) (hl0 : 0 ≤ left) (hl1 : left ≤ 1000000)
    (hX : R < X) (hXY : X < Y) (hY : Y < w.heap.size) (cX : w.cell? ⟨X, 0, none⟩ = some (.pointer (some ⟨R, 0, none⟩))) (cY : w.cell? ⟨Y, 0, none⟩ = some (.int .i64 D)) :
    Calls Tryd.prog 90 #[v, .func (.func 91) #[] #[.pointer (some ⟨X, 0, none⟩), .pointer (some ⟨Y, 0, none⟩)]] w fun e w' => ∃ b, e = .returned (.bool (!b)) ∧ ListPost w0 w R left l d b w' := by
  have HV := Lib.hid hv
  obtain ⟨a, cap, rfl, -⟩ := hv
  go_enter Tryd.func90, Tryd.ntmps90
  go_wp2_with fail
  refine (indexF_any l ih w0 w R X Y left D d _ hD hD1 hD2 HV.out hr hl0 hl1 hX hXY hY cX cY).mono ?_
  rintro e w1 ⟨r, rfl, hLP⟩
  have HLP := Lib.hid hLP
  clear hLP cX cY hr
  have HE := Lib.hid (show decide (0 ≤ r) = !decide (r < 0) by rw [Bool.eq_iff_iff]; simp)
  go_wp2
  go_ret
  exact ⟨decide (r < 0), by rw [← HE.out]; rfl, HLP.out⟩

set_option maxRecDepth 100000 in
set_option maxHeartbeats 4000000 in
theorem fits_any (t : Tr) : FitsAt t := by
  induction t using Tr.ind with
  | h k n s l ih =>
  intro w0 w R left D d v HD hv hr hl0 hl1 hd
  have HL := Lib.hid hv
  obtain ⟨dd, rfl, hn, hs, hls⟩ := hv.parts
  have ⟨a, cap, hda, h1, h2, h3, C, h4, h5⟩ := hls
  subst hda
  have HS := Lib.hid hls
  have hll : l.length ≤ 9223372036854775807 := by unfold maxLen at h2; omega
  obtain ⟨r4, g4, z4, p0, p1, p2⟩ := fitsW_facts hr (k.toNat : Int) n (str s) (.slice a l.length cap) D
  have hW3 := (((Ext.refl w).alloc (.cells #[.pointer (some ⟨R, 0, none⟩)] 100)).alloc (.cells #[.int .u8 (k.toNat : Int), .int .i64 n, .string (str s), .slice a l.length cap] 45)).alloc (.cells #[.int .i64 D] 3)
  have hR := hr.lt
  have hcc := (hW3.cell (p := ⟨R, 0, none⟩) hR).trans hr.cell
  have hff := (hW3.frozen (p := ⟨R, 0, none⟩) hR).trans hr.free
  have HP := Lib.hid (partsT_node k n s l)
  have HDP := Lib.hid (deepT_node k n s l)
  have HKN := Lib.hid (kindsT_node k n s l)
  clear hls h4 h5 h3 h1 h2 hn hs hv hW3 hr
  by_cases h0 : left - 1 < 0
  · have hFP : FitsPost w0 w R left (.node k n s l) d (.returned (.bool false)) (fitsW w R left k.toNat n (str s) (.slice a l.length cap) D) :=
      ⟨false, left - 1, rfl, by have := HP.out; simp only [Bool.false_eq_true, false_iff]; rintro ⟨_, _, h⟩; omega, (fun h => by cases h), by omega, by omega, r4, g4⟩
    clear r4 g4 z4 p0 p1 p2
    go_enter Tryd.func60, Tryd.ntmps60
    go_wp2
    go_ret
    exact hFP
  · have hD := HD.out
    by_cases hd0 : d = 0
    · have hD0 : (D == 0) = true := by simp; omega
      have hFP : FitsPost w0 w R left (.node k n s l) d (.returned (.bool false)) (fitsW w R left k.toNat n (str s) (.slice a l.length cap) D) :=
        ⟨false, left - 1, rfl, by have := HDP.out; simp only [Bool.false_eq_true, false_iff]; rintro ⟨_, h, _⟩; omega, (fun h => by cases h), by omega, by omega, r4, g4⟩
      clear r4 g4 z4 p0 p1 p2 hd0 hD
      go_enter Tryd.func60, Tryd.ntmps60
      go_wp2
      go_ret
      exact hFP
    · have hD0 : (D == 0) = false := by simp; omega
      have hD1 : 1 ≤ D := by omega
      have hD2 : D ≤ 100 := by omega
      clear hD
      obtain ⟨W4, hW4⟩ : ∃ W4, W4 = fitsW w R left k.toNat n (str s) (.slice a l.length cap) D := ⟨_, rfl⟩
      rw [← hW4] at r4 g4 z4 p0 p1 p2
      have HW4 := Lib.hid hW4
      clear hW4
      go_enter Tryd.func60, Tryd.ntmps60
      go_wp2_with fail
      have hW4 := HW4.out
      unfold fitsW at hW4
      rw [← hW4]
      clear hW4 hcc hff
      refine (vplain_any k n s l _ _ (HL.out.ext r4.ext)).mono ?_
      rintro e w1 ⟨rfl, hE1⟩
      have r5 := r4.then hE1
      have g5 := grown_trans g4 (grown_ext hE1 _)
      have q0 := (hE1.cell (p := ⟨w.heap.size, 0, none⟩) (by show w.heap.size < _; omega)).trans p0
      have q1 := (hE1.cell (p := ⟨w.heap.size + 1, 3, none⟩) (by show w.heap.size + 1 < _; omega)).trans p1
      have q2 := (hE1.cell (p := ⟨w.heap.size + 2, 0, none⟩) (by show w.heap.size + 2 < _; omega)).trans p2
      have z5 := Nat.lt_of_lt_of_le z4 hE1.size
      clear r4 g4 z4 p0 p1 p2 hE1
      cases hp : plainB k n s l.length with
      | false =>
        have hFP : FitsPost w0 w R left (.node k n s l) d (.returned (.bool false)) w1 :=
          ⟨false, left - 1, rfl, by have := HKN.out; rw [hp, Bool.false_and] at this; rw [this]; simp, (fun h => by cases h), by omega, by omega, r5, g5⟩
        clear r5 g5 q0 q1 q2 z5 hp
        go_wp2
        go_ret
        exact hFP
      | true =>
        have HKN2 : Hid (kindsT (.node k n s l) = l.all kindsT) := Lib.hid (by rw [HKN.out, hp, Bool.true_and])
        clear hp HKN
        go_wp2_with fail
        refine (containsF_any l ih w0 w1 R w.heap.size (w.heap.size + 1 + 1) (left - 1) D (d - 1) _ (Lib.hid (by have := HD.out; omega)) hD1 hD2 HS.out r5 (by omega) (by omega) hR (by omega) (by omega) q0 q2).mono ?_
        rintro e w2 ⟨b, rfl, left2, hb1, hb2, hb3, hb4, r6, g6⟩
        have hFP : FitsPost w0 w R left (.node k n s l) d (.returned (.bool b)) w2 := by
          have e1 := HP.out; have e2 := HDP.out; have e3 := HKN2.out
          refine ⟨b, left2, rfl, ?_, fun h => ?_, hb3, by omega, r6, grown_trans g5 g6⟩
          · rw [hb1, e1, e2, e3]
            exact and_congr Iff.rfl (and_congr ⟨fun h => by omega, fun h => by omega⟩ ⟨fun h => by omega, fun h => by omega⟩)
          · have := hb2 h; rw [e1]; omega
        have HFP := Lib.hid hFP
        clear hFP hb1 hb2 hb3 hb4 r6 g6 r5 g5 q0 q1 q2 z5
        cases b with
        | true =>
          go_wp2
          go_ret
          exact HFP.out
        | false =>
          go_wp2
          go_ret
          exact HFP.out
end Go.Proofs.YtdienbcjfljjnaaDoor

/- Walks: Right, Bytes. -/
open Go.RowKit Go.Shelf
namespace Go.Proofs.YtdienbcjfljjnaaDoor
open Go Go.Proofs Fm

set_option maxRecDepth 100000 in
set_option maxHeartbeats 4000000 in
theorem vright_any (t : Tr) (w : World) (v : Value) (h : Lies w t v) :
    Calls Tryd.prog 27 #[v] w fun e w' => e = .returned (.bool (rightT t)) ∧ Ext w w' := by
  have HL := Lib.hid h
  have HR : Hid (∀ b : Bool, (b = true ↔ kindsT t = true ∧ deepT t ≤ 6 ∧ (partsT t : Int) ≤ 200) → rightT t = b) := Lib.hid (fun b hb => by
    rw [rightT, Bool.eq_iff_iff, hb]
    simp only [Bool.and_eq_true, decide_eq_true_eq, and_assoc]
    exact and_congr Iff.rfl (and_congr Iff.rfl ⟨fun h => by omega, fun h => by omega⟩))
  cases t with
  | node k n s l =>
  obtain ⟨dd, rfl, -, -, a, cap, rfl, -⟩ := h.parts
  clear h
  go_enter Tryd.func27, Tryd.ntmps27
  go_wp2_with fail
  have hE0 := (Ext.refl w).alloc (.cells #[.int .u8 (k.toNat : Int), .int .i64 n, .string (str s), .slice a l.length cap] 45)
  have hz : (w.alloc (.cells #[.int .u8 (k.toNat : Int), .int .i64 n, .string (str s), .slice a l.length cap] 45)).heap.size = w.heap.size + 1 := by simp
  generalize w.alloc (.cells #[.int .u8 (k.toNat : Int), .int .i64 n, .string (str s), .slice a l.length cap] 45) = W1 at *
  have hr : RoomAt w (W1.alloc (.cells #[.int .i64 200] 102)) W1.heap.size 200 := ⟨hE0.alloc _, hE0.size, by simp, by simp, by simp⟩
  rw [hz] at hr
  refine (fits_any (.node k n s l) w _ (w.heap.size + 1) 200 6 6 _ (Lib.hid rfl) HL.out hr (by omega) (by omega) (by omega)).mono ?_
  rintro e w2 ⟨b, left', rfl, hb, -, -, -, r2, -⟩
  have HX := Lib.hid (HR.out b hb)
  have hE2 := r2.ext
  clear r2 hb hr
  go_wp2
  go_ret
  exact ⟨by rw [HX.out]; rfl, hE2⟩

/-- The bytes that value.Bytes hands back. -/
def VBytes (w : World) (t : Tr) (e : Ending) (w' : World) : Prop :=
  if rightT t = true then ∃ v, e = .returned (.tuple #[v, .int .i64 0]) ∧ OwnBytes w w' v (bytesT t)
  else e = .returned (.tuple #[.slice none 0 0, .int .i64 2]) ∧ Ext w w'

end Go.Proofs.YtdienbcjfljjnaaDoor

/- Walks: the reader's num and text. -/
open Go.RowKit Go.Shelf
namespace Go.Proofs.YtdienbcjfljjnaaDoor
open Go Go.Proofs Fm

/-- The reader in block R: what is left, and how much room. -/
structure RdAt (w0 w : World) (R : Nat) (v : Value) (xs : List UInt8) (m : Int) : Prop where
  ext : Ext w0 w
  old : w0.heap.size ≤ R
  lt : R < w.heap.size
  c0 : w.cell? ⟨R, 0, none⟩ = some v
  c1 : w.cell? ⟨R, 1, none⟩ = some (.int .i64 m)
  f0 : w.frozen? ⟨R, 0, none⟩ = false
  f1 : w.frozen? ⟨R, 1, none⟩ = false
  bytes : Bytes w0 v xs
theorem RdAt.kept {w0 w w' : World} {R : Nat} {v : Value} {xs : List UInt8} {m : Int} (h : RdAt w0 w R v xs m) {row : Option Nat} (hg : w.grownBy w' row) (hr : ∀ k, row = some k → w0.heap.size ≤ k ∧ k ≠ R) : RdAt w0 w' R v xs m := by
  have hne : some R ≠ row := fun e => (hr R e.symm).2 rfl
  exact ⟨h.ext.grown hg (fun k hk => (hr k hk).1), h.old, Nat.lt_of_lt_of_le h.lt hg.size, (hg.cell_far ⟨R, 0, none⟩ h.lt hne).trans h.c0, (hg.cell_far ⟨R, 1, none⟩ h.lt hne).trans h.c1,
    (hg.frozen_far ⟨R, 0, none⟩ h.lt hne).trans h.f0, (hg.frozen_far ⟨R, 1, none⟩ h.lt hne).trans h.f1, h.bytes⟩
theorem RdAt.then {w0 w w' : World} {R : Nat} {v : Value} {xs : List UInt8} {m : Int} (h : RdAt w0 w R v xs m) (hE : Ext w w') : RdAt w0 w' R v xs m := h.kept hE.grownBy (fun k hk => by cases hk)
theorem grown_set (w : World) (R o : Nat) (u : Value) : w.grownBy (w.setCell ⟨R, o, none⟩ u) (some R) := ⟨rfl, rfl, rfl, by simp [World.setCell], fun k _ hk => Below.heap_setCell _ _ _ _ (fun e => hk (by simp [e]))⟩
theorem RdAt.setLeft {w0 w : World} {R : Nat} {v : Value} {xs : List UInt8} {m : Int} (h : RdAt w0 w R v xs m) {v' : Value} {xs' : List UInt8} (hb : Bytes w0 v' xs') : RdAt w0 (w.setCell ⟨R, 0, none⟩ v') R v' xs' m := by
  refine ⟨h.ext.setCell h.old _, h.old, by simp [h.lt], World.cell?_setCell_same _ _ _ h.c0, ?_, ?_, ?_, hb⟩
  · rw [World.cell?_setCell_other _ _ _ _ (by simp)]; exact h.c1
  · rw [World.frozen?_setCell]; exact h.f0
  · rw [World.frozen?_setCell]; exact h.f1
theorem RdAt.setRoom {w0 w : World} {R : Nat} {v : Value} {xs : List UInt8} {m : Int} (h : RdAt w0 w R v xs m) (m' : Int) : RdAt w0 (w.setCell ⟨R, 1, none⟩ (.int .i64 m')) R v xs m' := by
  refine ⟨h.ext.setCell h.old _, h.old, by simp [h.lt], ?_, World.cell?_setCell_same _ _ _ h.c1, ?_, ?_, h.bytes⟩
  · rw [World.cell?_setCell_other _ _ _ _ (by simp)]; exact h.c0
  · rw [World.frozen?_setCell]; exact h.f0
  · rw [World.frozen?_setCell]; exact h.f1

/-- It panics so. -/
def brokenV : Value := .iface 157 (.agg #[])
def Broken (w0 w : World) (R : Nat) (e : Ending) (w' : World) : Prop := e = .panicked [{ v := .iface 157 (.agg #[]), recovered := false }] ∧ Ext w0 w' ∧ w.grownBy w' (some R)

/-- It tells r, and has read on. -/
def RdPost (w0 w : World) (R : Nat) (xs : List UInt8) (m : Int) (r : Value) (e : Ending) (w' : World) : Prop := e = .returned r ∧ (∃ v', RdAt w0 w' R v' xs m) ∧ w.grownBy w' (some R)

set_option maxRecDepth 100000 in
set_option maxHeartbeats 2000000 in
theorem rdnum_ok {w0 w : World} {R : Nat} {v : Value} {xs : List UInt8} {m : Int} (h : RdAt w0 w R v xs m) (lo hi n : Int) (k : Nat) (hN : takeN xs = some (n, k)) (h1 : lo ≤ n) (h2 : n ≤ hi) :
    Calls Tryd.prog 117 #[.pointer (some ⟨R, 0, none⟩), .int .i64 lo, .int .i64 hi] w (RdPost w0 w R (xs.drop k) m (.int .i64 n)) := by
  have HN := Lib.hid hN
  have H := Lib.hid h
  have c0 := h.c0
  have f0 := h.f0
  clear h hN
  go_enter Tryd.func117, Tryd.ntmps117
  go_wp2_with fail
  refine (takeNum_any v xs w (H.out.bytes.ext H.out.ext)).mono ?_
  intro e w1 hp
  unfold TakeNumPost at hp
  rw [HN.out] at hp
  obtain ⟨nq, rfl, rfl⟩ := hp
  have hE : Ext w (w.drewN nq) := (Ext.refl w).drewN nq
  have hr := H.out.then hE
  have hb2 := hr.bytes.drop (takeN_inv HN.out).2.2.2.1
  generalize dropV v k = v2 at *
  obtain ⟨a2, cap2, rfl, -⟩ := id hb2
  have hr2 := hr.setLeft hb2
  clear hb2
  generalize xs.drop k = ys at *
  generalize ys.length = ly at *
  have hg2 := grown_trans (grown_ext hE (some R)) (grown_set (w.drewN nq) R 0 (.slice a2 ly cap2))
  have HR := Lib.hid hr2
  have HG := Lib.hid hg2
  clear hr hr2 hg2
  go_wp2
  go_ret
  exact ⟨rfl, ⟨_, HR.out⟩, HG.out⟩

set_option maxRecDepth 100000 in
set_option maxHeartbeats 2000000 in
theorem rdnum_no {w0 w : World} {R : Nat} {v : Value} {xs : List UInt8} {m : Int} (h : RdAt w0 w R v xs m) (lo hi : Int) (hN : ∀ n k, takeN xs = some (n, k) → n < lo ∨ hi < n) :
    Calls Tryd.prog 117 #[.pointer (some ⟨R, 0, none⟩), .int .i64 lo, .int .i64 hi] w (Broken w0 w R) := by
  have HN := Lib.hid hN
  have H := Lib.hid h
  have c0 := h.c0
  have f0 := h.f0
  clear h hN
  go_enter Tryd.func117, Tryd.ntmps117
  go_wp2_with fail
  refine (takeNum_any v xs w (H.out.bytes.ext H.out.ext)).mono ?_
  intro e w1 hp
  unfold TakeNumPost at hp
  cases hN : takeN xs with
  | none =>
    rw [hN] at hp
    obtain ⟨rfl, rfl⟩ := hp
    have HB : Hid (Broken w0 w R (.panicked [{ v := .iface 157 (.agg #[]), recovered := false }]) w) := Lib.hid ⟨rfl, H.out.ext, World.grownBy.refl _ _⟩
    clear hN HN c0 f0
    go_wp2
    exact ⟨rfl, HB.out⟩
  | some p =>
    obtain ⟨n, k⟩ := p
    rw [hN] at hp
    obtain ⟨nq, rfl, rfl⟩ := hp
    have hE : Ext w (w.drewN nq) := (Ext.refl w).drewN nq
    have HB : Hid (Broken w0 w R (.panicked [{ v := .iface 157 (.agg #[]), recovered := false }]) (w.drewN nq)) := Lib.hid ⟨rfl, H.out.ext.trans hE, grown_ext hE _⟩
    rcases HN.out n k hN with hlt | hlt
    · clear hN HN c0 f0 hE
      go_wp2
      exact ⟨rfl, HB.out⟩
    · clear hN HN c0 f0 hE
      by_cases hlo : n < lo
      · go_wp2
        exact ⟨rfl, HB.out⟩
      · go_wp2
        exact ⟨rfl, HB.out⟩

set_option maxRecDepth 100000 in
set_option maxHeartbeats 2000000 in
theorem rdtext_ok {w0 w : World} {R : Nat} {v : Value} {xs : List UInt8} {m : Int} (h : RdAt w0 w R v xs m) (k n : Nat) (hN : takeT xs 100 = some (k, n)) :
    Calls Tryd.prog 118 #[.pointer (some ⟨R, 0, none⟩)] w (RdPost w0 w R ((xs.drop k).drop n) m (.string (str ((xs.drop k).take n)))) := by
  have HN := Lib.hid hN
  have H := Lib.hid h
  have c0 := h.c0
  have f0 := h.f0
  clear h hN
  go_enter Tryd.func118, Tryd.ntmps118
  go_wp2_with fail
  refine (takeText_any v xs 100 (by unfold isI64; omega) w (H.out.bytes.ext H.out.ext)).mono ?_
  intro e w1 hp
  unfold TakeTextPost at hp
  rw [HN.out] at hp
  obtain ⟨nq, rfl, rfl⟩ := hp
  have hE : Ext w (w.drewN nq) := (Ext.refl w).drewN nq
  have hr := H.out.then hE
  obtain ⟨_, _, hkn⟩ := takeT_inv HN.out
  have hb2 := (hr.bytes.drop (k := k) (by omega)).drop (k := n) (by simp; omega)
  generalize dropV (dropV v k) n = v2 at *
  obtain ⟨a2, cap2, rfl, -⟩ := id hb2
  have hr2 := hr.setLeft hb2
  clear hb2
  generalize (xs.drop k).drop n = ys at *
  generalize ys.length = ly at *
  have hg2 := grown_trans (grown_ext hE (some R)) (grown_set (w.drewN nq) R 0 (.slice a2 ly cap2))
  have HR := Lib.hid hr2
  have HG := Lib.hid hg2
  clear hr hr2 hg2 hkn
  go_wp2
  go_ret
  exact ⟨rfl, ⟨_, HR.out⟩, HG.out⟩

set_option maxRecDepth 100000 in
set_option maxHeartbeats 2000000 in
theorem rdtext_no {w0 w : World} {R : Nat} {v : Value} {xs : List UInt8} {m : Int} (h : RdAt w0 w R v xs m) (hN : takeT xs 100 = none) :
    Calls Tryd.prog 118 #[.pointer (some ⟨R, 0, none⟩)] w (Broken w0 w R) := by
  have HN := Lib.hid hN
  have H := Lib.hid h
  have c0 := h.c0
  have f0 := h.f0
  clear h hN
  go_enter Tryd.func118, Tryd.ntmps118
  go_wp2_with fail
  refine (takeText_any v xs 100 (by unfold isI64; omega) w (H.out.bytes.ext H.out.ext)).mono ?_
  intro e w1 hp
  unfold TakeTextPost at hp
  rw [HN.out] at hp
  obtain ⟨nq, rfl, rfl⟩ := hp
  have hE : Ext w (w.drewN nq) := (Ext.refl w).drewN nq
  have HB : Hid (Broken w0 w R (.panicked [{ v := .iface 157 (.agg #[]), recovered := false }]) (w.drewN nq)) := Lib.hid ⟨rfl, H.out.ext.trans hE, grown_ext hE _⟩
  clear HN c0 f0 hE
  go_wp2
  exact ⟨rfl, HB.out⟩
end Go.Proofs.YtdienbcjfljjnaaDoor

/- Walks: the reader's value. -/
open Go.RowKit Go.Shelf
namespace Go.Proofs.YtdienbcjfljjnaaDoor
open Go Go.Proofs Fm

theorem broken_then {w0 w w1 : World} {R : Nat} {e : Ending} {w' : World} (hg : w.grownBy w1 (some R)) (h : Broken w0 w1 R e w') : Broken w0 w R e w' := ⟨h.1, h.2.1, grown_trans hg h.2.2⟩

set_option maxRecDepth 100000 in
set_option maxHeartbeats 2000000 in
theorem value_bad {w0 w : World} {R : Nat} {v : Value} {xs : List UInt8} {m : Int} (D : Int) (h : RdAt w0 w R v xs m) (hN : ∀ n k, takeN xs = some (n, k) → n < 0 ∨ 2 < n) :
    Calls Tryd.prog 103 #[.pointer (some ⟨R, 0, none⟩), .int .i64 D] w (Broken w0 w R) := by
  have HN := Lib.hid hN
  have H := Lib.hid h
  clear h hN
  go_enter Tryd.func103, Tryd.ntmps103
  go_wp2_with fail
  have hE0 := (Ext.refl w).alloc (.cells #[.int .u8 0, .int .i64 0, .string (str []), .slice none 0 0] 45)
  refine (rdnum_no (H.out.then hE0) 0 2 HN.out).mono ?_
  rintro e w1 ⟨rfl, hE1, hg1⟩
  have HB : Hid (Broken w0 w R (.panicked [{ v := .iface 157 (.agg #[]), recovered := false }]) w1) := Lib.hid ⟨rfl, hE1, grown_trans (grown_ext hE0 _) hg1⟩
  clear hE1 hg1 hE0 HN
  go_wp2
  exact ⟨rfl, HB.out⟩

/-- A struct of four cells in a block of its own. -/
def Box4 (w : World) (b : Nat) (c0 c1 c2 c3 : Value) : Prop := w.heap[b]? = some (.cells #[c0, c1, c2, c3] 45 (0, 0))
theorem Box4.new (w : World) (c0 c1 c2 c3 : Value) : Box4 (w.alloc (.cells #[c0, c1, c2, c3] 45)) w.heap.size c0 c1 c2 c3 := heap_alloc_new w _
theorem Box4.lt {w : World} {b : Nat} {c0 c1 c2 c3 : Value} (h : Box4 w b c0 c1 c2 c3) : b < w.heap.size := (Array.getElem?_eq_some_iff.1 h).1
theorem Box4.kept {w w' : World} {b : Nat} {c0 c1 c2 c3 : Value} (h : Box4 w b c0 c1 c2 c3) {row : Option Nat} (hg : w.grownBy w' row) (hr : row ≠ some b) : Box4 w' b c0 c1 c2 c3 := (hg.block b h.lt (fun e => hr e.symm)).trans h
theorem Box4.ext {w w' : World} {b : Nat} {c0 c1 c2 c3 : Value} (h : Box4 w b c0 c1 c2 c3) (hE : Ext w w') : Box4 w' b c0 c1 c2 c3 := (hE.block b h.lt).trans h
theorem Box4.cells {w : World} {b : Nat} {c0 c1 c2 c3 : Value} (h : Box4 w b c0 c1 c2 c3) : w.cell? ⟨b, 0, none⟩ = some c0 ∧ w.cell? ⟨b, 1, none⟩ = some c1 ∧ w.cell? ⟨b, 2, none⟩ = some c2 ∧ w.cell? ⟨b, 3, none⟩ = some c3 := by
  unfold Box4 at h
  refine ⟨?_, ?_, ?_, ?_⟩ <;> simp [World.cell?, h]
theorem Box4.frozen {w : World} {b : Nat} {c0 c1 c2 c3 : Value} (h : Box4 w b c0 c1 c2 c3) : w.frozen? ⟨b, 0, none⟩ = false ∧ w.frozen? ⟨b, 1, none⟩ = false ∧ w.frozen? ⟨b, 2, none⟩ = false ∧ w.frozen? ⟨b, 3, none⟩ = false := by
  unfold Box4 at h
  refine ⟨?_, ?_, ?_, ?_⟩ <;> simp [World.frozen?, h]
theorem grown_new {a b : World} {row : Option Nat} (h : a.grownBy b row) {p : Addr} (hp : a.heap.size ≤ p.block) (u : Value) : a.grownBy (b.setCell p u) row :=
  ⟨h.os, h.tape, h.output, by simpa [World.setCell] using h.size, fun i hi hne => (Below.heap_setCell b p u i (by omega)).trans (h.block i hi hne)⟩

/-- The world of value when its variable is laid and one part is counted. -/
def valW (w : World) (R : Nat) (m : Int) (k : Int) : World := (w.setCell ⟨R, 1, none⟩ (.int .i64 (m - 1))).alloc (.cells #[.int .u8 k, .int .i64 0, .string { data := #[] }, .slice none 0 0] 45)
theorem valW_facts {w0 w : World} {R : Nat} {v : Value} {xs : List UInt8} {m : Int} (h : RdAt w0 w R v xs m) (k : Int) :
    RdAt w0 (valW w R m k) R v xs (m - 1) ∧ w.grownBy (valW w R m k) (some R) ∧ Box4 (valW w R m k) w.heap.size (.int .u8 k) (.int .i64 0) (.string { data := #[] }) (.slice none 0 0) ∧ (valW w R m k).heap.size = w.heap.size + 1 := by
  have h1 := h.setRoom (m - 1)
  have hz : (w.setCell ⟨R, 1, none⟩ (.int .i64 (m - 1))).heap.size = w.heap.size := by simp [World.setCell]
  refine ⟨h1.then ((Ext.refl _).alloc _), grown_trans (grown_set w R 1 _) (grown_ext ((Ext.refl _).alloc _) _), ?_, by simp [valW, hz]⟩
  have := Box4.new (w.setCell ⟨R, 1, none⟩ (.int .i64 (m - 1))) (.int .u8 k) (.int .i64 0) (.string { data := #[] }) (.slice none 0 0)
  rw [hz] at this
  exact this

/-- It tells a tree in memory of its own, and has read on. -/
def ValOK (w0 w : World) (R : Nat) (t : Tr) (xs : List UInt8) (m : Int) (e : Ending) (w' : World) : Prop :=
  ∃ v, e = .returned v ∧ (∃ v', RdAt w0 w' R v' xs m) ∧ w.grownBy w' (some R) ∧ OwnT 45 w' w.heap.size t v

set_option maxRecDepth 100000 in
set_option maxHeartbeats 2000000 in
theorem value_num {w0 w : World} {R : Nat} {v : Value} {xs : List UInt8} {m : Nat} (D : Int) (hD : 0 < D) (hm : 0 < m) (hm2 : m ≤ 1000) (h : RdAt w0 w R v xs m) (k : Nat) (hN : takeN xs = some (0, k)) (n : Int) (k2 : Nat) (hN2 : takeN (xs.drop k) = some (n, k2)) :
    Calls Tryd.prog 103 #[.pointer (some ⟨R, 0, none⟩), .int .i64 D] w (ValOK w0 w R (.node 0 n [] []) ((xs.drop k).drop k2) (m - 1)) := by
  have HN := Lib.hid hN
  have HN2 := Lib.hid hN2
  have H := Lib.hid h
  have hR := h.lt
  clear h hN hN2
  have hD0 : (D == 0) = false := by simp; omega
  have hm' : ((m : Int) - 1 < 0) = False := by simp; omega
  go_enter Tryd.func103, Tryd.ntmps103
  go_wp2_with fail
  have hE0 := (Ext.refl w).alloc (.cells #[.int .u8 0, .int .i64 0, .string (str []), .slice none 0 0] 45)
  have hB4 := Box4.new w (.int .u8 0) (.int .i64 0) (.string (str [])) (.slice none 0 0)
  refine (rdnum_ok (H.out.then hE0) 0 2 0 k HN.out (by omega) (by omega)).mono ?_
  rintro e w1 ⟨rfl, ⟨v1, hr1⟩, hg1⟩
  have c0 := hr1.c0
  have c1 := hr1.c1
  have f0 := hr1.f0
  have f1 := hr1.f1
  have hlt := hr1.lt
  go_wp2_with fail
  change Calls _ _ _ (valW w1 R m 0) _
  obtain ⟨hr2, hg2, hb2, hz2⟩ := valW_facts hr1 0
  have hB5 := hB4.kept hg1 (by simp; omega)
  have hB6 := hB5.kept hg2 (by simp; omega)
  have hg3 := grown_trans (grown_trans (grown_ext hE0 (some R)) hg1) hg2
  have hlw := hg3.size
  have hlw1 := hE0.size
  have hlw2 := hg1.size
  generalize valW w1 R m 0 = W2 at *
  generalize hV : w1.heap.size = V at *
  have HV : Hid (w1.heap.size = V) := hV
  clear hV
  refine (rdnum_ok hr2 _ _ n k2 HN2.out (takeN_inv HN2.out).1.1 (takeN_inv HN2.out).1.2).mono ?_
  rintro e w3 ⟨rfl, ⟨v3, hr3⟩, hg4⟩
  have hb3 := hb2.kept hg4 (by simp; omega)
  have hB7 := hB6.kept hg4 (by simp; omega)
  obtain ⟨d0, d1, d2, d3⟩ := hb3.cells
  obtain ⟨e0, e1, e2, e3⟩ := hb3.frozen
  obtain ⟨p0, p1, p2, p3⟩ := hB7.cells
  obtain ⟨q0, q1, q2, q3⟩ := hB7.frozen
  have hsz1 : (w.alloc (.cells #[.int .u8 0, .int .i64 0, .string (str []), .slice none 0 0] 45)).heap.size = w.heap.size + 1 := by simp
  have hPV : ¬ w.heap.size = V := by omega
  have hPV' : w.heap.size ≤ V := by omega
  have hRV : R < V := hlt
  have hVP : ¬ V = w.heap.size := by omega
  have ha1 := World.cell?_setCell_same w3 ⟨V, 1, none⟩ (.int .i64 n) d1
  clear hb2 hB6 hB5 hB4 hb3 hB7 hr2 hr1 hg1 hg2 hz2 hsz1 hlw hlw1 hlw2 c0 c1 f0 f1 hE0 hlt
  go_wp2
  refine bodyPost_ret (v := .agg #[.int .u8 0, .int .i64 n, .string (str []), .slice none 0 0]) (by simp [results, Tryd.results103, go_sem, p0, p1, p2, p3]; rfl) rfl ?_
  have hk1 : ∀ k, some V = some k → w0.heap.size ≤ k ∧ k ≠ R := fun k hk => by
    injection hk with hk; have := H.out.ext.size; omega
  have hk2 : ∀ k, some w.heap.size = some k → w0.heap.size ≤ k ∧ k ≠ R := fun k hk => by
    injection hk with hk; have := H.out.ext.size; omega
  refine ⟨_, rfl, ⟨_, ((((hr3.kept (grown_set w3 V 1 _) hk1).kept (grown_set _ _ 0 _) hk2).kept (grown_set _ _ 1 _) hk2).kept (grown_set _ _ 2 _) hk2).kept (grown_set _ _ 3 _) hk2⟩, ?_, ?_⟩
  · exact grown_new (grown_new (grown_new (grown_new (grown_new (grown_trans hg3 hg4) (by simp; omega) _) (Nat.le_refl _) _) (Nat.le_refl _) _) (Nat.le_refl _) _) (Nat.le_refl _) _
  · exact OwnT.mk (k := 0) (takeN_inv HN2.out).1 (by simp) (OwnL.nil _ _ _)
set_option maxRecDepth 100000 in
set_option maxHeartbeats 4000000 in
theorem value_room {w0 w : World} {R : Nat} {v : Value} {xs : List UInt8} {m : Nat} (D : Int) (hm : m = 0 ∨ D = 0) (hm2 : m ≤ 1000) (h : RdAt w0 w R v xs m) (n : Int) (k : Nat) (hN : takeN xs = some (n, k)) (hn : n = 0 ∨ n = 1 ∨ n = 2) :
    Calls Tryd.prog 103 #[.pointer (some ⟨R, 0, none⟩), .int .i64 D] w (Broken w0 w R) := by
  have HN := Lib.hid hN
  have H := Lib.hid h
  have hR := h.lt
  clear h hN
  have hn0 : 0 ≤ n := by omega
  have hn2 : n ≤ 2 := by omega
  go_enter Tryd.func103, Tryd.ntmps103
  go_wp2_with fail
  have hE0 := (Ext.refl w).alloc (.cells #[.int .u8 0, .int .i64 0, .string (str []), .slice none 0 0] 45)
  have hB4 := Box4.new w (.int .u8 0) (.int .i64 0) (.string (str [])) (.slice none 0 0)
  refine (rdnum_ok (H.out.then hE0) 0 2 n k HN.out (by omega) (by omega)).mono ?_
  rintro e w1 ⟨rfl, ⟨v1, hr1⟩, hg1⟩
  have hg := grown_trans (grown_ext hE0 (some R)) hg1
  have c0 := hr1.c0
  have c1 := hr1.c1
  have f0 := hr1.f0
  have f1 := hr1.f1
  have hlt := hr1.lt
  rcases hn with rfl | rfl | rfl
  all_goals
    by_cases hm0 : m = 0
    · obtain rfl : m = 0 := hm0
      go_wp2
      exact ⟨rfl, rfl, (hr1.setRoom _).ext.alloc _, grown_trans hg (grown_trans (grown_set w1 R 1 _) (grown_ext ((Ext.refl _).alloc _) _))⟩
    · have hD0 : (D == 0) = true := by simp; omega
      have hm' : ((m : Int) - 1 < 0) = False := by simp; omega
      go_wp2
      exact ⟨rfl, rfl, (hr1.setRoom _).ext.alloc _, grown_trans hg (grown_trans (grown_set w1 R 1 _) (grown_ext ((Ext.refl _).alloc _) _))⟩

set_option maxRecDepth 100000 in
set_option maxHeartbeats 4000000 in
theorem value_num_no {w0 w : World} {R : Nat} {v : Value} {xs : List UInt8} {m : Nat} (D : Int) (hD : 0 < D) (hm : 0 < m) (hm2 : m ≤ 1000) (h : RdAt w0 w R v xs m) (k : Nat) (hN : takeN xs = some (0, k)) (hN2 : takeN (xs.drop k) = none) :
    Calls Tryd.prog 103 #[.pointer (some ⟨R, 0, none⟩), .int .i64 D] w (Broken w0 w R) := by
  have HN2 := Lib.hid hN2
  clear hN2
  have HN := Lib.hid hN
  have H := Lib.hid h
  have hR := h.lt
  clear h hN
  have hD0 : (D == 0) = false := by simp; omega
  have hm' : ((m : Int) - 1 < 0) = False := by simp; omega
  go_enter Tryd.func103, Tryd.ntmps103
  go_wp2_with fail
  have hE0 := (Ext.refl w).alloc (.cells #[.int .u8 0, .int .i64 0, .string (str []), .slice none 0 0] 45)
  have hB4 := Box4.new w (.int .u8 0) (.int .i64 0) (.string (str [])) (.slice none 0 0)
  refine (rdnum_ok (H.out.then hE0) 0 2 0 k HN.out (by omega) (by omega)).mono ?_
  rintro e w1 ⟨rfl, ⟨v1, hr1⟩, hg1⟩
  have c0 := hr1.c0
  have c1 := hr1.c1
  have f0 := hr1.f0
  have f1 := hr1.f1
  have hlt := hr1.lt
  go_wp2_with fail
  change Calls _ _ _ (valW w1 R m 0) _
  obtain ⟨hr2, hg2, hb2, hz2⟩ := valW_facts hr1 0
  have hB5 := hB4.kept hg1 (by simp; omega)
  have hB6 := hB5.kept hg2 (by simp; omega)
  have hg3 := grown_trans (grown_trans (grown_ext hE0 (some R)) hg1) hg2
  have hlw := hg3.size
  have hlw1 := hE0.size
  have hlw2 := hg1.size
  generalize valW w1 R m 0 = W2 at *
  generalize hV : w1.heap.size = V at *
  have HV : Hid (w1.heap.size = V) := hV
  clear hV
  refine (rdnum_no hr2 _ _ (fun n k h => by rw [HN2.out] at h; cases h)).mono ?_
  rintro e w3 ⟨rfl, hE3, hg4⟩
  have HB : Hid (Broken w0 w R (.panicked [{ v := .iface 157 (.agg #[]), recovered := false }]) w3) := Lib.hid ⟨rfl, hE3, grown_trans hg3 hg4⟩
  clear hE3 hg4
  go_wp2
  exact ⟨rfl, HB.out⟩

set_option maxRecDepth 100000 in
set_option maxHeartbeats 4000000 in
theorem value_text_no {w0 w : World} {R : Nat} {v : Value} {xs : List UInt8} {m : Nat} (D : Int) (hD : 0 < D) (hm : 0 < m) (hm2 : m ≤ 1000) (h : RdAt w0 w R v xs m) (k : Nat) (hN : takeN xs = some (1, k)) (hN2 : takeT (xs.drop k) 100 = none) :
    Calls Tryd.prog 103 #[.pointer (some ⟨R, 0, none⟩), .int .i64 D] w (Broken w0 w R) := by
  have HN2 := Lib.hid hN2
  clear hN2
  have HN := Lib.hid hN
  have H := Lib.hid h
  have hR := h.lt
  clear h hN
  have hD0 : (D == 0) = false := by simp; omega
  have hm' : ((m : Int) - 1 < 0) = False := by simp; omega
  go_enter Tryd.func103, Tryd.ntmps103
  go_wp2_with fail
  have hE0 := (Ext.refl w).alloc (.cells #[.int .u8 0, .int .i64 0, .string (str []), .slice none 0 0] 45)
  have hB4 := Box4.new w (.int .u8 0) (.int .i64 0) (.string (str [])) (.slice none 0 0)
  refine (rdnum_ok (H.out.then hE0) 0 2 1 k HN.out (by omega) (by omega)).mono ?_
  rintro e w1 ⟨rfl, ⟨v1, hr1⟩, hg1⟩
  have c0 := hr1.c0
  have c1 := hr1.c1
  have f0 := hr1.f0
  have f1 := hr1.f1
  have hlt := hr1.lt
  go_wp2_with fail
  change Calls _ _ _ (valW w1 R m 1) _
  obtain ⟨hr2, hg2, hb2, hz2⟩ := valW_facts hr1 1
  have hB5 := hB4.kept hg1 (by simp; omega)
  have hB6 := hB5.kept hg2 (by simp; omega)
  have hg3 := grown_trans (grown_trans (grown_ext hE0 (some R)) hg1) hg2
  have hlw := hg3.size
  have hlw1 := hE0.size
  have hlw2 := hg1.size
  generalize valW w1 R m 1 = W2 at *
  generalize hV : w1.heap.size = V at *
  have HV : Hid (w1.heap.size = V) := hV
  clear hV
  refine (rdtext_no hr2 HN2.out).mono ?_
  rintro e w3 ⟨rfl, hE3, hg4⟩
  have HB : Hid (Broken w0 w R (.panicked [{ v := .iface 157 (.agg #[]), recovered := false }]) w3) := Lib.hid ⟨rfl, hE3, grown_trans hg3 hg4⟩
  clear hE3 hg4
  go_wp2
  exact ⟨rfl, HB.out⟩

set_option maxRecDepth 100000 in
set_option maxHeartbeats 4000000 in
theorem value_text {w0 w : World} {R : Nat} {v : Value} {xs : List UInt8} {m : Nat} (D : Int) (hD : 0 < D) (hm : 0 < m) (hm2 : m ≤ 1000) (h : RdAt w0 w R v xs m) (k : Nat) (hN : takeN xs = some (1, k)) (k2 n2 : Nat) (hN2 : takeT (xs.drop k) 100 = some (k2, n2)) :
    Calls Tryd.prog 103 #[.pointer (some ⟨R, 0, none⟩), .int .i64 D] w (ValOK w0 w R (.node 1 0 (((xs.drop k).drop k2).take n2) []) (((xs.drop k).drop k2).drop n2) (m - 1)) := by
  have HN2 := Lib.hid hN2
  clear hN2
  have HN := Lib.hid hN
  have H := Lib.hid h
  have hR := h.lt
  clear h hN
  have hD0 : (D == 0) = false := by simp; omega
  have hm' : ((m : Int) - 1 < 0) = False := by simp; omega
  go_enter Tryd.func103, Tryd.ntmps103
  go_wp2_with fail
  have hE0 := (Ext.refl w).alloc (.cells #[.int .u8 0, .int .i64 0, .string (str []), .slice none 0 0] 45)
  have hB4 := Box4.new w (.int .u8 0) (.int .i64 0) (.string (str [])) (.slice none 0 0)
  refine (rdnum_ok (H.out.then hE0) 0 2 1 k HN.out (by omega) (by omega)).mono ?_
  rintro e w1 ⟨rfl, ⟨v1, hr1⟩, hg1⟩
  have c0 := hr1.c0
  have c1 := hr1.c1
  have f0 := hr1.f0
  have f1 := hr1.f1
  have hlt := hr1.lt
  go_wp2_with fail
  change Calls _ _ _ (valW w1 R m 1) _
  obtain ⟨hr2, hg2, hb2, hz2⟩ := valW_facts hr1 1
  have hB5 := hB4.kept hg1 (by simp; omega)
  have hB6 := hB5.kept hg2 (by simp; omega)
  have hg3 := grown_trans (grown_trans (grown_ext hE0 (some R)) hg1) hg2
  have hlw := hg3.size
  have hlw1 := hE0.size
  have hlw2 := hg1.size
  generalize valW w1 R m 1 = W2 at *
  generalize hV : w1.heap.size = V at *
  have HV : Hid (w1.heap.size = V) := hV
  clear hV
  refine (rdtext_ok hr2 k2 n2 HN2.out).mono ?_
  rintro e w3 ⟨rfl, ⟨v3, hr3⟩, hg4⟩
  have hsl : (((xs.drop k).drop k2).take n2).length ≤ 9223372036854775807 := by
    have := (takeT_inv HN2.out).2.1
    rw [List.length_take]; omega
  generalize ((xs.drop k).drop k2).take n2 = s2 at *
  generalize ((xs.drop k).drop k2).drop n2 = r2 at *
  have hb3 := hb2.kept hg4 (by simp; omega)
  have hB7 := hB6.kept hg4 (by simp; omega)
  obtain ⟨d0, d1, d2, d3⟩ := hb3.cells
  obtain ⟨e0, e1, e2, e3⟩ := hb3.frozen
  obtain ⟨p0, p1, p2, p3⟩ := hB7.cells
  obtain ⟨q0, q1, q2, q3⟩ := hB7.frozen
  have hsz1 : (w.alloc (.cells #[.int .u8 0, .int .i64 0, .string (str []), .slice none 0 0] 45)).heap.size = w.heap.size + 1 := by simp
  have hPV : ¬ w.heap.size = V := by omega
  have hPV' : w.heap.size ≤ V := by omega
  have hRV : R < V := hlt
  have hVP : ¬ V = w.heap.size := by omega
  have ha1 := World.cell?_setCell_same w3 ⟨V, 2, none⟩ (.string (str s2)) d2
  clear hb2 hB6 hB5 hB4 hb3 hB7 hr2 hr1 hg1 hg2 hz2 hsz1 hlw hlw1 hlw2 c0 c1 f0 f1 hE0 hlt
  go_wp2
  refine bodyPost_ret (v := .agg #[.int .u8 1, .int .i64 0, .string (str s2), .slice none 0 0]) (by simp [results, Tryd.results103, go_sem, p0, p1, p2, p3]) rfl ?_
  have hk1 : ∀ k, some V = some k → w0.heap.size ≤ k ∧ k ≠ R := fun k hk => by
    injection hk with hk; have := H.out.ext.size; omega
  have hk2 : ∀ k, some w.heap.size = some k → w0.heap.size ≤ k ∧ k ≠ R := fun k hk => by
    injection hk with hk; have := H.out.ext.size; omega
  refine ⟨_, rfl, ⟨_, ((((hr3.kept (grown_set w3 V 2 _) hk1).kept (grown_set _ _ 0 _) hk2).kept (grown_set _ _ 1 _) hk2).kept (grown_set _ _ 2 _) hk2).kept (grown_set _ _ 3 _) hk2⟩, ?_, ?_⟩
  · exact grown_new (grown_new (grown_new (grown_new (grown_new (grown_trans hg3 hg4) (by simp; omega) _) (Nat.le_refl _) _) (Nat.le_refl _) _) (Nat.le_refl _) _) (Nat.le_refl _) _
  · exact OwnT.mk (k := 1) (by unfold isI64; omega) hsl (OwnL.nil _ _ _)

set_option maxRecDepth 100000 in
set_option maxHeartbeats 4000000 in
theorem value_list_no {w0 w : World} {R : Nat} {v : Value} {xs : List UInt8} {m : Nat} (D : Int) (hD : 0 < D) (hm : 0 < m) (hm2 : m ≤ 1000) (h : RdAt w0 w R v xs m) (k : Nat) (hN : takeN xs = some (2, k)) (hN2 : ∀ n k2, takeN (xs.drop k) = some (n, k2) → n < 0 ∨ 40 < n) :
    Calls Tryd.prog 103 #[.pointer (some ⟨R, 0, none⟩), .int .i64 D] w (Broken w0 w R) := by
  have HN2 := Lib.hid hN2
  clear hN2
  have HN := Lib.hid hN
  have H := Lib.hid h
  have hR := h.lt
  clear h hN
  have hD0 : (D == 0) = false := by simp; omega
  have hm' : ((m : Int) - 1 < 0) = False := by simp; omega
  go_enter Tryd.func103, Tryd.ntmps103
  go_wp2_with fail
  have hE0 := (Ext.refl w).alloc (.cells #[.int .u8 0, .int .i64 0, .string (str []), .slice none 0 0] 45)
  have hB4 := Box4.new w (.int .u8 0) (.int .i64 0) (.string (str [])) (.slice none 0 0)
  refine (rdnum_ok (H.out.then hE0) 0 2 2 k HN.out (by omega) (by omega)).mono ?_
  rintro e w1 ⟨rfl, ⟨v1, hr1⟩, hg1⟩
  have c0 := hr1.c0
  have c1 := hr1.c1
  have f0 := hr1.f0
  have f1 := hr1.f1
  have hlt := hr1.lt
  go_wp2_with fail
  change Calls _ _ _ (valW w1 R m 2) _
  obtain ⟨hr2, hg2, hb2, hz2⟩ := valW_facts hr1 2
  have hB5 := hB4.kept hg1 (by simp; omega)
  have hB6 := hB5.kept hg2 (by simp; omega)
  have hg3 := grown_trans (grown_trans (grown_ext hE0 (some R)) hg1) hg2
  have hlw := hg3.size
  have hlw1 := hE0.size
  have hlw2 := hg1.size
  generalize valW w1 R m 2 = W2 at *
  generalize hV : w1.heap.size = V at *
  have HV : Hid (w1.heap.size = V) := hV
  clear hV
  refine (rdnum_no hr2 _ _ HN2.out).mono ?_
  rintro e w3 ⟨rfl, hE3, hg4⟩
  have HB : Hid (Broken w0 w R (.panicked [{ v := .iface 157 (.agg #[]), recovered := false }]) w3) := Lib.hid ⟨rfl, hE3, grown_trans hg3 hg4⟩
  clear hE3 hg4
  go_wp2
  exact ⟨rfl, HB.out⟩

end Go.Proofs.YtdienbcjfljjnaaDoor
