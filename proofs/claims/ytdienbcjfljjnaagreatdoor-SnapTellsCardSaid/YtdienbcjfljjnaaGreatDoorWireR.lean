/- The contracts of the reference of layer 7. -/
import Derived.Test.YtdienbcjfljjnaaGreatDoorWireB
import Derived.Test.YtdienbcjfljjnaaGreatDoorShelfF
import Derived.Test.YtdienbcjfljjnaaGreatDoorFrgA
import Derived.Shelf.GgClosureLib.Lays
import Derived.Lib.LaidTab
import Derived.ChangeBears2
import Derived.Deep.Cut
import Derived.Test.YtdienbcjfljjnaaGreatDoorPlT
import Derived.WalkLawsBesides
import Derived.Deep.RegionHeld3
import Derived.LoopTactic
namespace Go.Proofs
open Go.Shelf
def Tryz.lays17_ren : Go.Shelf.Ren := ⟨fun | 17 => 61 | 15 => 100 | 20 => 121 | n => n, fun | 9 => 9 | 23 => 94 | 4 => 4 | 3 => 3 | 0 => 0 | 21 => 21 | n => n, fun | n => n⟩
theorem Tryz.lays17 : Go.Proofs.LaysGw.n17 Tryz.prog Tryz.lays17_ren := {
  mixed := by kernel_rfl
  f15 := Tryz.func100.trans (congrArg some (by kernel_rfl))
  f17 := Tryz.func61.trans (congrArg some (by kernel_rfl))
  f20 := Tryz.func121.trans (congrArg some (by kernel_rfl))
  t0 := Tryz.underlying0
  a0 := Tryz.isAgg0
  z0 := Tryz.sizeOf0
  v0 := Tryz.zeroValue0
  i0 := by kernel_rfl
  t3 := Tryz.underlying3
  a3 := Tryz.isAgg3
  z3 := Tryz.sizeOf3
  v3 := Tryz.zeroValue3
  i3 := by kernel_rfl
  t4 := Tryz.underlying4
  a4 := Tryz.isAgg4
  z4 := Tryz.sizeOf4
  v4 := Tryz.zeroValue4
  i4 := by kernel_rfl
  t9 := Tryz.underlying9
  a9 := Tryz.isAgg9
  z9 := Tryz.sizeOf9
  v9 := Tryz.zeroValue9
  i9 := by kernel_rfl
  t21 := Tryz.underlying21
  a21 := Tryz.isAgg21
  z21 := Tryz.sizeOf21
  v21 := Tryz.zeroValue21
  i21 := by kernel_rfl
  t23 := Tryz.underlying94
  a23 := Tryz.isAgg94
  z23 := Tryz.sizeOf94
  v23 := Tryz.zeroValue94
  i23 := by kernel_rfl }
end Go.Proofs
open Go.RowKit Go.Shelf
namespace Go.Proofs.YtdienbcjfljjnaaGreatDoor
open Go Go.Proofs Fm

theorem notC_pred (w : World) : PredAt Tryz.prog 60 #[] encR notC w := fun W r _ => by
  unfold FnGives
  by_cases h1 : r < 33 <;> by_cases h2 : 126 < r
  all_goals
    have z1 : (r : Int) < 33 ↔ r < 33 := by omega
    have z2 : (126 : Int) < (r : Int) ↔ 126 < r := by omega
    go_enter Tryz.func60, Tryz.ntmps60
    go_wp2
    all_goals first | (exfalso; omega) | (go_ret; exact ⟨by simp [notC, h1, h2], 0, rfl⟩)
theorem has_notC (s : List UInt8) (w : World) :
    Calls Tryz.prog 61 #[.string (str s), .func (.func 60) #[] #[]] w fun e w' => e = .returned (.bool (!(s.all idC))) ∧ Ext w w' := by
  have hC := Any.strings_ContainsFunc Tryz.lays17 60 #[] (enters_of Tryz.func60 (by kernel_rfl) rfl) notC (str s) w (notC_pred w)
  rw [idx_id] at hC
  exact hC

set_option maxHeartbeats 1000000 in
theorem opID_any (s : List UInt8) (hs : s.length ≤ 9223372036854775807) (w : World) :
    Calls Tryz.prog 20 #[.string (str s)] w fun e w' => e = .returned (.bool (idB s)) ∧ Ext w w' := by
  have hss := str_size s
  by_cases h1 : 1 ≤ s.length
  case neg =>
    have HX := Lib.hid (idB_short h1)
    have h1' : ¬ (1 : Int) ≤ (s.length : Int) := by omega
    go_enter Tryz.func20, Tryz.ntmps20
    go_wp2
    go_ret
    exact ⟨by rw [HX.out]; rfl, Ext.refl w⟩
  have h1' : (1 : Int) ≤ (s.length : Int) := by omega
  by_cases h2 : s.length ≤ 400
  case neg =>
    have HX := Lib.hid (idB_long h2)
    have h2' : ¬ (s.length : Int) ≤ 400 := by omega
    go_enter Tryz.func20, Tryz.ntmps20
    go_wp2
    go_ret
    exact ⟨by rw [HX.out]; rfl, Ext.refl w⟩
  have h2' : (s.length : Int) ≤ 400 := by omega
  have HX := Lib.hid (idB_all h1 h2)
  go_enter Tryz.func20, Tryz.ntmps20
  go_wp2_with fail
  refine (has_notC s w).mono ?_
  rintro e w1 ⟨rfl, hE⟩
  cases ha : s.all idC with
  | true =>
    have HA := Lib.hid ha
    clear ha
    go_wp2
    go_ret
    exact ⟨by rw [HX.out, HA.out]; rfl, hE⟩
  | false =>
    have HA := Lib.hid ha
    clear ha
    go_wp2
    go_ret
    exact ⟨by rw [HX.out, HA.out]; rfl, hE⟩

/-- The table of the kinds is as the program's text lays it. -/
def KTab (w : World) : Prop := Lib.TabIs Tryz.prog w "foreman/op.kinds" .u8 [0, 3, 4, 29, 12, 4]
theorem KTab.is {w : World} (h : KTab w) : ∃ o, w.heap[0]? = some o ∧ w.var? Tryz.prog "foreman/op.kinds" = some #[.int .u8 0, .int .u8 3, .int .u8 4, .int .u8 29, .int .u8 12, .int .u8 4] := by
  have hg : Tryz.prog.globalNamed "foreman/op.kinds" = some 0 := by kernel_rfl
  have h' : w.var? Tryz.prog "foreman/op.kinds" = some #[.int .u8 0, .int .u8 3, .int .u8 4, .int .u8 29, .int .u8 12, .int .u8 4] := h
  cases hh : w.heap[0]? with
  | none =>
    unfold World.var? at h'
    rw [hg, Option.bind_some, hh] at h'
    cases h'
  | some o => exact ⟨o, rfl, h'⟩
theorem KTab.ext {w w' : World} (h : KTab w) (hE : Ext w w') : KTab w' := by
  obtain ⟨o, ho, hv⟩ := h.is
  have hg : Tryz.prog.globalNamed "foreman/op.kinds" = some 0 := by kernel_rfl
  have hlt : 0 < w.heap.size := (Array.getElem?_eq_some_iff.1 ho).1
  show w'.var? Tryz.prog "foreman/op.kinds" = _
  unfold World.var? at hv ⊢
  rw [hg, Option.bind_some] at hv ⊢
  rw [hE.block _ hlt]
  exact hv
theorem KTab.cells {w : World} (h : KTab w) : w.cell? ⟨0, 0, none⟩ = some (.int .u8 0) ∧ w.cell? ⟨0, 1, none⟩ = some (.int .u8 3) ∧ w.cell? ⟨0, 2, none⟩ = some (.int .u8 4) ∧ w.cell? ⟨0, 3, none⟩ = some (.int .u8 29) ∧ w.cell? ⟨0, 4, none⟩ = some (.int .u8 12) ∧ w.cell? ⟨0, 5, none⟩ = some (.int .u8 4) := by
  obtain ⟨o, ho, hv⟩ := h.is
  have hg : Tryz.prog.globalNamed "foreman/op.kinds" = some 0 := by kernel_rfl
  refine ⟨?_, ?_, ?_, ?_, ?_, ?_⟩ <;> exact (var?_cell hg hv _)

end Go.Proofs.YtdienbcjfljjnaaGreatDoor

open Go.RowKit Go.Shelf
namespace Go.Proofs.YtdienbcjfljjnaaGreatDoor
open Go Go.Proofs Fm

/-- The world of fits when its three variables are laid and one part is counted. -/
def fitsW (w : World) (R : Nat) (left : Int) (K n : Int) (s : ByteArray) (sl : Value) (d : Int) : World :=
  (((w.alloc (.cells #[.pointer (some ⟨R, 0, none⟩)] 144)).alloc (.cells #[.int .u8 K, .int .i64 n, .string s, sl] 43)).alloc (.cells #[.int .i64 d] 3)).setCell ⟨R, 0, none⟩ (.int .i64 (left - 1))

theorem fitsW_facts {w0 w : World} {R : Nat} {left : Int} (h : RoomAt w0 w R left) (K n : Int) (s : ByteArray) (sl : Value) (d : Int) :
    RoomAt w0 (fitsW w R left K n s sl d) R (left - 1) ∧ w.grownBy (fitsW w R left K n s sl d) (some R) ∧ w.heap.size + 2 < (fitsW w R left K n s sl d).heap.size ∧
    (fitsW w R left K n s sl d).cell? ⟨w.heap.size, 0, none⟩ = some (.pointer (some ⟨R, 0, none⟩)) ∧ (fitsW w R left K n s sl d).cell? ⟨w.heap.size + 1, 3, none⟩ = some sl ∧
    (fitsW w R left K n s sl d).cell? ⟨w.heap.size + 2, 0, none⟩ = some (.int .i64 d) := by
  have hE := (((Ext.refl w).alloc (.cells #[.pointer (some ⟨R, 0, none⟩)] 144)).alloc (.cells #[.int .u8 K, .int .i64 n, .string s, sl] 43)).alloc (.cells #[.int .i64 d] 3)
  have hlt := h.lt
  have h1 : R ≠ w.heap.size := by omega
  have h2 : R ≠ w.heap.size + 1 := by omega
  have h3 : R ≠ w.heap.size + 2 := by omega
  obtain ⟨a, b⟩ := (h.then hE).set (left - 1)
  refine ⟨a, grown_trans (grown_ext hE _) b, ?_, ?_, ?_, ?_⟩
  · simp [fitsW]
  · unfold fitsW; rw [World.cell?_setCell_far _ _ _ _ (by simpa using h1)]
    have e1 : (w.alloc (.cells #[.pointer (some ⟨R, 0, none⟩)] 144)).cell? ⟨w.heap.size, 0, none⟩ = some (.pointer (some ⟨R, 0, none⟩)) := by simp
    exact ((((Ext.refl _).alloc _).alloc _).cell (p := ⟨w.heap.size, 0, none⟩) (by simp)).trans e1
  · unfold fitsW; rw [World.cell?_setCell_far _ _ _ _ (by simpa using h2)]
    have e1 := (alloc4 (w.alloc (.cells #[.pointer (some ⟨R, 0, none⟩)] 144)) (.int .u8 K) (.int .i64 n) (.string s) sl 43).2.2.2.1
    rw [show (w.alloc (.cells #[.pointer (some ⟨R, 0, none⟩)] 144)).heap.size = w.heap.size + 1 by simp] at e1
    exact (((Ext.refl _).alloc _).cell (p := ⟨w.heap.size + 1, 3, none⟩) (by simp)).trans e1
  · unfold fitsW; rw [World.cell?_setCell_far _ _ _ _ (by simpa using h3)]
    have hz : ((w.alloc (.cells #[.pointer (some ⟨R, 0, none⟩)] 144)).alloc (.cells #[.int .u8 K, .int .i64 n, .string s, sl] 43)).heap.size = w.heap.size + 2 := by simp
    generalize (w.alloc (.cells #[.pointer (some ⟨R, 0, none⟩)] 144)).alloc (.cells #[.int .u8 K, .int .i64 n, .string s, sl] 43) = W2 at *
    rw [← hz]
    simp

/-- The contract of fits at one tree. -/
def FitsAt (t : Tr) : Prop := ∀ (w0 w : World) (R : Nat) (left : Int) (D : Int) (d : Nat) (v : Value), Hid (D = d) → Lies w0 t v → RoomAt w0 w R left → 0 ≤ left → left ≤ 1000000 → d ≤ 100 →
    Calls Tryz.prog 104 #[.pointer (some ⟨R, 0, none⟩), v, .int .i64 D] w (FitsPost w0 w R left t d)

set_option maxRecDepth 100000 in
set_option maxHeartbeats 4000000 in
theorem clos_any (t : Tr) (ih : FitsAt t) (w0 w : World) (R X Y : Nat) (left : Int) (D : Int) (d : Nat) (v : Value) (hD : Hid (D = d + 1)) (hD1 : 1 ≤ D) (hD2 : D ≤ 100) (hv : Lies w0 t v) (hr : RoomAt w0 w R left) (hl0 : 0 ≤ left) (hl1 : left ≤ 1000000) (hX : X < w.heap.size) (hY : Y < w.heap.size)
    (cX : w.cell? ⟨X, 0, none⟩ = some (.pointer (some ⟨R, 0, none⟩))) (cY : w.cell? ⟨Y, 0, none⟩ = some (.int .i64 D)) :
    Calls Tryz.prog 128 #[v, .pointer (some ⟨X, 0, none⟩), .pointer (some ⟨Y, 0, none⟩)] w fun e w' => ∃ b, e = .returned (.bool (!b)) ∧ FitsPost w0 w R left t d (.returned (.bool b)) w' := by
  have HL := Lib.hid hv
  cases t with
  | node k n s l =>
  obtain ⟨dd, rfl, -, -, a, cap, rfl, -⟩ := hv.parts
  clear hv
  have HR := Lib.hid hr
  have cX' := ((Ext.refl w).alloc (.cells #[.int .u8 (k.toNat : Int), .int .i64 n, .string (str s), .slice a l.length cap] 43)).cell (p := ⟨X, 0, none⟩) hX |>.trans cX
  have cY' := ((Ext.refl w).alloc (.cells #[.int .u8 (k.toNat : Int), .int .i64 n, .string (str s), .slice a l.length cap] 43)).cell (p := ⟨Y, 0, none⟩) hY |>.trans cY
  go_enter Tryz.func128, Tryz.ntmps128
  go_wp2_with fail
  have hE0 := (Ext.refl w).alloc (.cells #[.int .u8 (k.toNat : Int), .int .i64 n, .string (str s), .slice a l.length cap] 43)
  refine (ih w0 _ R left (D - 1) d _ (Lib.hid (by have := hD.out; omega)) HL.out (HR.out.then hE0) hl0 hl1 (by have := hD.out; omega)).mono ?_
  rintro e w1 ⟨b, left', rfl, hb1, hb2, hb3, hb4, r1, g1⟩
  have hFP : ∃ b', Ending.returned (.bool (!b)) = .returned (.bool (!b')) ∧ FitsPost w0 w R left (.node k n s l) d (.returned (.bool b')) w1 :=
    ⟨b, rfl, b, left', rfl, hb1, hb2, hb3, hb4, r1, grown_trans (grown_ext hE0 _) g1⟩
  have HFP := Lib.hid hFP
  clear hb1 hb2 hb3 hb4 r1 g1 hFP cX' cY' cX cY hE0 HR hr
  cases b with
  | true =>
    go_wp2
    go_ret
    exact HFP.out
  | false =>
    go_wp2
    go_ret
    exact HFP.out

set_option maxRecDepth 100000 in
set_option maxHeartbeats 4000000 in
theorem indexF_any (l : List Tr) (ih : ∀ t, t ∈ l → FitsAt t)
    (w0 w : World) (R X Y : Nat) (left : Int) (D : Int) (d : Nat) (v : Value) (hD : Hid (D = d + 1)) (hD1 : 1 ≤ D) (hD2 : D ≤ 100) (hv : LiesS w0 l v) (hr : RoomAt w0 w R left) (hl0 : 0 ≤ left) (hl1 : left ≤ 1000000)
    (hX : R < X) (hXY : X < Y) (hY : Y < w.heap.size) (cX : w.cell? ⟨X, 0, none⟩ = some (.pointer (some ⟨R, 0, none⟩))) (cY : w.cell? ⟨Y, 0, none⟩ = some (.int .i64 D)) :
    Calls Tryz.prog 143 #[v, .func (.func 128) #[] #[.pointer (some ⟨X, 0, none⟩), .pointer (some ⟨Y, 0, none⟩)]] w fun e w' => ∃ r : Int, e = .returned (.int .i64 r) ∧ ListPost w0 w R left l d (decide (r < 0)) w' := by
  obtain ⟨a, cap, rfl, h1, h2, h3, C, h4, h5⟩ := hv
  have H4 := Lib.hid h4; have H5 := Lib.hid h5
  have hll : l.length ≤ 9223372036854775807 := by unfold maxLen at h2; omega
  clear h3 h4 h5 h1 h2
  have HR := Lib.hid hr
  clear hr
  go_enter Tryz.func143, Tryz.ntmps143
  go_wp2_with fail
  go_loopw [8] (fun i wr => ∃ (j : Nat) (left' : Int), j ≤ l.length ∧ i = .int .i64 j ∧ 0 ≤ left' ∧ left' ≤ left ∧ Hid ((l.take j).all kindsT = true ∧ deepL (l.take j) ≤ d ∧ left' = left - partsL (l.take j)) ∧ Hid (RoomAt w0 wr R left') ∧ w.grownBy wr (some R)) (fun i _ => l.length - (intOf i).toNat)
  case atStart => exact ⟨0, left, by omega, rfl, hl0, by omega, Lib.hid (by simp [deepL_nil, partsL_nil]), HR, World.grownBy.refl _ _⟩
  case round =>
    obtain ⟨j, left', hj, rfl, hp0, hp1, HI, HR', hg⟩ := hrel
    have kX := (hg.cell_far ⟨X, 0, none⟩ (by show X < _; omega) (by simp; omega)).trans cX
    have kY := (hg.cell_far ⟨Y, 0, none⟩ (by show Y < _; omega) (by simp; omega)).trans cY
    by_cases hlt : j < l.length
    · obtain ⟨b, off, rfl, hb, hc⟩ := H4.out (by omega)
      obtain ⟨k0, n0, s0, a0, m0, c0, e0, e1, e2, e3, hx⟩ := elem4o HR'.out.ext hb hc H5.out j hlt
      have hgs := hg.size
      go_wp2_with fail
      refine (clos_any _ (ih _ (List.getElem_mem hlt)) w0 wr R X Y left' D d _ hD hD1 hD2 hx HR'.out hp0 (by omega) (by omega) (by omega) kX kY).mono ?_
      rintro e w1 ⟨b1, rfl, hFP⟩
      obtain ⟨b2, left2, hbe, hb1, hb2, hb3, hb4, r1, g1⟩ := hFP
      obtain rfl : b1 = b2 := by injection hbe with h; injection h
      have g2 := grown_trans hg g1
      cases b1 with
      | true =>
        have hh := hb1.1 rfl
        have hl2 := hb2 rfl
        have hI := HI.out
        have HI2 : Hid ((l.take (j + 1)).all kindsT = true ∧ deepL (l.take (j + 1)) ≤ d ∧ left2 = left - partsL (l.take (j + 1))) := Lib.hid ⟨all_take kindsT l j hlt hI.1 hh.1, by rw [deepL_at l j hlt]; omega, by rw [partsL_at l j hlt]; omega⟩
        have hl3 : 0 ≤ left2 := by omega
        have HR2 := Lib.hid r1
        clear hh hl2 hI HI HR' hb1 hb2 hb3 hbe r1 g1 hg kX kY e0 e1 e2 e3 hx hb hc
        go_wp2
        go_roundw
        case rel => exact ⟨j + 1, left2, by omega, by go_num, hl3, by omega, HI2, HR2, g2⟩
        case measure => simp [intOf]; omega
      | false =>
        have hI := HI.out
        have hpk := partsL_at l j hlt
        have hpl := partsL_take_le l (j + 1)
        have hdm := deepL_mem l j hlt
        have hLP : ListPost w0 w R left l d (decide ((j : Int) < 0)) w1 := ⟨left2, (by
            rw [decide_eq_false (by omega)]
            simp only [Bool.false_eq_true, false_iff]
            rintro ⟨q1, q2, q3⟩
            have := hb1.2 ⟨all_mem l j hlt q1, by omega, by omega⟩
            cases this), fun h => absurd (of_decide_eq_true h) (by omega), hb3, by omega, r1, g2⟩
        have HLP := Lib.hid hLP
        clear hLP hI HI HR' hb1 hb2 hb3 hbe r1 g1 hg kX kY e0 e1 e2 e3 hx hb hc hpk hpl hdm
        go_wp2
        go_ret
        exact ⟨_, rfl, HLP.out⟩
    · have hj' : j = l.length := by omega
      have hI := HI.out
      rw [hj', List.take_length] at hI
      have hLP : ListPost w0 w R left l d (decide ((-1 : Int) < 0)) wr := ⟨left', by
          rw [decide_eq_true (by omega)]
          simp only [true_iff]
          exact ⟨hI.1, hI.2.1, by omega⟩, fun _ => hI.2.2, by omega, hp1, HR'.out, hg⟩
      have HLP := Lib.hid hLP
      clear hLP hI HI HR' hj' hg kX kY
      go_wp2
      go_ret
      exact ⟨_, rfl, HLP.out⟩

set_option maxRecDepth 100000 in
set_option maxHeartbeats 4000000 in
theorem containsF_any (l : List Tr) (ih : ∀ t, t ∈ l → FitsAt t)
    (w0 w : World) (R X Y : Nat) (left : Int) (D : Int) (d : Nat) (v : Value) (hD : Hid (D = d + 1)) (hD1 : 1 ≤ D) (hD2 : D ≤ 100) (hv : LiesS w0 l v) (hr : RoomAt w0 w R left) (hl0 : 0 ≤ left) (hl1 : left ≤ 1000000)
    (hX : R < X) (hXY : X < Y) (hY : Y < w.heap.size) (cX : w.cell? ⟨X, 0, none⟩ = some (.pointer (some ⟨R, 0, none⟩))) (cY : w.cell? ⟨Y, 0, none⟩ = some (.int .i64 D)) :
    Calls Tryz.prog 127 #[v, .func (.func 128) #[] #[.pointer (some ⟨X, 0, none⟩), .pointer (some ⟨Y, 0, none⟩)]] w fun e w' => ∃ b, e = .returned (.bool (!b)) ∧ ListPost w0 w R left l d b w' := by
  have HV := Lib.hid hv
  obtain ⟨a, cap, rfl, -⟩ := hv
  go_enter Tryz.func127, Tryz.ntmps127
  go_wp2_with fail
  refine (indexF_any l ih w0 w R X Y left D d _ hD hD1 hD2 HV.out hr hl0 hl1 hX hXY hY cX cY).mono ?_
  rintro e w1 ⟨r, rfl, hLP⟩
  have HLP := Lib.hid hLP
  clear hLP cX cY hr
  have HE := Lib.hid (show decide (0 ≤ r) = !decide (r < 0) by rw [Bool.eq_iff_iff]; simp)
  go_wp2
  go_ret
  exact ⟨decide (r < 0), by rw [← HE.out]; rfl, HLP.out⟩

set_option maxRecDepth 100000 in
set_option maxHeartbeats 4000000 in
theorem fits_any (t : Tr) : FitsAt t := by
  induction t using Tr.ind with
  | h k n s l ih =>
  intro w0 w R left D d v HD hv hr hl0 hl1 hd
  have HL := Lib.hid hv
  obtain ⟨dd, rfl, hn, hs, hls⟩ := hv.parts
  have ⟨a, cap, hda, h1, h2, h3, C, h4, h5⟩ := hls
  subst hda
  have HS := Lib.hid hls
  have hll : l.length ≤ 9223372036854775807 := by unfold maxLen at h2; omega
  obtain ⟨r4, g4, z4, p0, p1, p2⟩ := fitsW_facts hr (k.toNat : Int) n (str s) (.slice a l.length cap) D
  have hW3 := (((Ext.refl w).alloc (.cells #[.pointer (some ⟨R, 0, none⟩)] 144)).alloc (.cells #[.int .u8 (k.toNat : Int), .int .i64 n, .string (str s), .slice a l.length cap] 43)).alloc (.cells #[.int .i64 D] 3)
  have hR := hr.lt
  have hcc := (hW3.cell (p := ⟨R, 0, none⟩) hR).trans hr.cell
  have hff := (hW3.frozen (p := ⟨R, 0, none⟩) hR).trans hr.free
  have HP := Lib.hid (partsT_node k n s l)
  have HDP := Lib.hid (deepT_node k n s l)
  have HKN := Lib.hid (kindsT_node k n s l)
  clear hls h4 h5 h3 h1 h2 hn hs hv hW3 hr
  by_cases h0 : left - 1 < 0
  · have hFP : FitsPost w0 w R left (.node k n s l) d (.returned (.bool false)) (fitsW w R left k.toNat n (str s) (.slice a l.length cap) D) :=
      ⟨false, left - 1, rfl, by have := HP.out; simp only [Bool.false_eq_true, false_iff]; rintro ⟨_, _, h⟩; omega, (fun h => by cases h), by omega, by omega, r4, g4⟩
    clear r4 g4 z4 p0 p1 p2
    go_enter Tryz.func104, Tryz.ntmps104
    go_wp2
    go_ret
    exact hFP
  · have hD := HD.out
    by_cases hd0 : d = 0
    · have hD0 : (D == 0) = true := by simp; omega
      have hFP : FitsPost w0 w R left (.node k n s l) d (.returned (.bool false)) (fitsW w R left k.toNat n (str s) (.slice a l.length cap) D) :=
        ⟨false, left - 1, rfl, by have := HDP.out; simp only [Bool.false_eq_true, false_iff]; rintro ⟨_, h, _⟩; omega, (fun h => by cases h), by omega, by omega, r4, g4⟩
      clear r4 g4 z4 p0 p1 p2 hd0 hD
      go_enter Tryz.func104, Tryz.ntmps104
      go_wp2
      go_ret
      exact hFP
    · have hD0 : (D == 0) = false := by simp; omega
      have hD1 : 1 ≤ D := by omega
      have hD2 : D ≤ 100 := by omega
      clear hD
      obtain ⟨W4, hW4⟩ : ∃ W4, W4 = fitsW w R left k.toNat n (str s) (.slice a l.length cap) D := ⟨_, rfl⟩
      rw [← hW4] at r4 g4 z4 p0 p1 p2
      have HW4 := Lib.hid hW4
      clear hW4
      go_enter Tryz.func104, Tryz.ntmps104
      go_wp2_with fail
      have hW4 := HW4.out
      unfold fitsW at hW4
      rw [← hW4]
      clear hW4 hcc hff
      refine (vplain_any k n s l _ _ (HL.out.ext r4.ext)).mono ?_
      rintro e w1 ⟨rfl, hE1⟩
      have r5 := r4.then hE1
      have g5 := grown_trans g4 (grown_ext hE1 _)
      have q0 := (hE1.cell (p := ⟨w.heap.size, 0, none⟩) (by show w.heap.size < _; omega)).trans p0
      have q1 := (hE1.cell (p := ⟨w.heap.size + 1, 3, none⟩) (by show w.heap.size + 1 < _; omega)).trans p1
      have q2 := (hE1.cell (p := ⟨w.heap.size + 2, 0, none⟩) (by show w.heap.size + 2 < _; omega)).trans p2
      have z5 := Nat.lt_of_lt_of_le z4 hE1.size
      clear r4 g4 z4 p0 p1 p2 hE1
      cases hp : plainB k n s l.length with
      | false =>
        have hFP : FitsPost w0 w R left (.node k n s l) d (.returned (.bool false)) w1 :=
          ⟨false, left - 1, rfl, by have := HKN.out; rw [hp, Bool.false_and] at this; rw [this]; simp, (fun h => by cases h), by omega, by omega, r5, g5⟩
        clear r5 g5 q0 q1 q2 z5 hp
        go_wp2
        go_ret
        exact hFP
      | true =>
        have HKN2 : Hid (kindsT (.node k n s l) = l.all kindsT) := Lib.hid (by rw [HKN.out, hp, Bool.true_and])
        clear hp HKN
        go_wp2_with fail
        refine (containsF_any l ih w0 w1 R w.heap.size (w.heap.size + 1 + 1) (left - 1) D (d - 1) _ (Lib.hid (by have := HD.out; omega)) hD1 hD2 HS.out r5 (by omega) (by omega) hR (by omega) (by omega) q0 q2).mono ?_
        rintro e w2 ⟨b, rfl, left2, hb1, hb2, hb3, hb4, r6, g6⟩
        have hFP : FitsPost w0 w R left (.node k n s l) d (.returned (.bool b)) w2 := by
          have e1 := HP.out; have e2 := HDP.out; have e3 := HKN2.out
          refine ⟨b, left2, rfl, ?_, fun h => ?_, hb3, by omega, r6, grown_trans g5 g6⟩
          · rw [hb1, e1, e2, e3]
            exact and_congr Iff.rfl (and_congr ⟨fun h => by omega, fun h => by omega⟩ ⟨fun h => by omega, fun h => by omega⟩)
          · have := hb2 h; rw [e1]; omega
        have HFP := Lib.hid hFP
        clear hFP hb1 hb2 hb3 hb4 r6 g6 r5 g5 q0 q1 q2 z5
        cases b with
        | true =>
          go_wp2
          go_ret
          exact HFP.out
        | false =>
          go_wp2
          go_ret
          exact HFP.out
end Go.Proofs.YtdienbcjfljjnaaGreatDoor

/- Walks: Right, Bytes. -/
open Go.RowKit Go.Shelf
namespace Go.Proofs.YtdienbcjfljjnaaGreatDoor
open Go Go.Proofs Fm

set_option maxRecDepth 100000 in
set_option maxHeartbeats 4000000 in
theorem vright_any (t : Tr) (w : World) (v : Value) (h : Lies w t v) :
    Calls Tryz.prog 64 #[v] w fun e w' => e = .returned (.bool (rightT t)) ∧ Ext w w' := by
  have HL := Lib.hid h
  have HR : Hid (∀ b : Bool, (b = true ↔ kindsT t = true ∧ deepT t ≤ 6 ∧ (partsT t : Int) ≤ 200) → rightT t = b) := Lib.hid (fun b hb => by
    rw [rightT, Bool.eq_iff_iff, hb]
    simp only [Bool.and_eq_true, decide_eq_true_eq, and_assoc]
    exact and_congr Iff.rfl (and_congr Iff.rfl ⟨fun h => by omega, fun h => by omega⟩))
  cases t with
  | node k n s l =>
  obtain ⟨dd, rfl, -, -, a, cap, rfl, -⟩ := h.parts
  clear h
  go_enter Tryz.func64, Tryz.ntmps64
  go_wp2_with fail
  have hE0 := (Ext.refl w).alloc (.cells #[.int .u8 (k.toNat : Int), .int .i64 n, .string (str s), .slice a l.length cap] 43)
  have hz : (w.alloc (.cells #[.int .u8 (k.toNat : Int), .int .i64 n, .string (str s), .slice a l.length cap] 43)).heap.size = w.heap.size + 1 := by simp
  generalize w.alloc (.cells #[.int .u8 (k.toNat : Int), .int .i64 n, .string (str s), .slice a l.length cap] 43) = W1 at *
  have hr : RoomAt w (W1.alloc (.cells #[.int .i64 200] 146)) W1.heap.size 200 := ⟨hE0.alloc _, hE0.size, by simp, by simp, by simp⟩
  rw [hz] at hr
  refine (fits_any (.node k n s l) w _ (w.heap.size + 1) 200 6 6 _ (Lib.hid rfl) HL.out hr (by omega) (by omega) (by omega)).mono ?_
  rintro e w2 ⟨b, left', rfl, hb, -, -, -, r2, -⟩
  have HX := Lib.hid (HR.out b hb)
  have hE2 := r2.ext
  clear r2 hb hr
  go_wp2
  go_ret
  exact ⟨by rw [HX.out]; rfl, hE2⟩

end Go.Proofs.YtdienbcjfljjnaaGreatDoor

/- Walks: the reader's num and text. -/
open Go.RowKit Go.Shelf
namespace Go.Proofs.YtdienbcjfljjnaaGreatDoor
open Go Go.Proofs Fm

/-- The reader in block R: what is left, and how much room. -/
structure RdAt (w0 w : World) (R : Nat) (v : Value) (xs : List UInt8) (m : Int) : Prop where
  ext : Ext w0 w
  old : w0.heap.size ≤ R
  lt : R < w.heap.size
  c0 : w.cell? ⟨R, 0, none⟩ = some v
  c1 : w.cell? ⟨R, 1, none⟩ = some (.int .i64 m)
  f0 : w.frozen? ⟨R, 0, none⟩ = false
  f1 : w.frozen? ⟨R, 1, none⟩ = false
  bytes : Bytes w0 v xs
theorem RdAt.kept {w0 w w' : World} {R : Nat} {v : Value} {xs : List UInt8} {m : Int} (h : RdAt w0 w R v xs m) {row : Option Nat} (hg : w.grownBy w' row) (hr : ∀ k, row = some k → w0.heap.size ≤ k ∧ k ≠ R) : RdAt w0 w' R v xs m := by
  have hne : some R ≠ row := fun e => (hr R e.symm).2 rfl
  exact ⟨h.ext.grown hg (fun k hk => (hr k hk).1), h.old, Nat.lt_of_lt_of_le h.lt hg.size, (hg.cell_far ⟨R, 0, none⟩ h.lt hne).trans h.c0, (hg.cell_far ⟨R, 1, none⟩ h.lt hne).trans h.c1,
    (hg.frozen_far ⟨R, 0, none⟩ h.lt hne).trans h.f0, (hg.frozen_far ⟨R, 1, none⟩ h.lt hne).trans h.f1, h.bytes⟩
theorem RdAt.then {w0 w w' : World} {R : Nat} {v : Value} {xs : List UInt8} {m : Int} (h : RdAt w0 w R v xs m) (hE : Ext w w') : RdAt w0 w' R v xs m := h.kept hE.grownBy (fun k hk => by cases hk)
theorem grown_set (w : World) (R o : Nat) (u : Value) : w.grownBy (w.setCell ⟨R, o, none⟩ u) (some R) := ⟨rfl, rfl, rfl, by simp [World.setCell], fun k _ hk => Below.heap_setCell _ _ _ _ (fun e => hk (by simp [e]))⟩
theorem RdAt.setLeft {w0 w : World} {R : Nat} {v : Value} {xs : List UInt8} {m : Int} (h : RdAt w0 w R v xs m) {v' : Value} {xs' : List UInt8} (hb : Bytes w0 v' xs') : RdAt w0 (w.setCell ⟨R, 0, none⟩ v') R v' xs' m := by
  refine ⟨h.ext.setCell h.old _, h.old, by simp [h.lt], World.cell?_setCell_same _ _ _ h.c0, ?_, ?_, ?_, hb⟩
  · rw [World.cell?_setCell_other _ _ _ _ (by simp)]; exact h.c1
  · rw [World.frozen?_setCell]; exact h.f0
  · rw [World.frozen?_setCell]; exact h.f1
theorem RdAt.setRoom {w0 w : World} {R : Nat} {v : Value} {xs : List UInt8} {m : Int} (h : RdAt w0 w R v xs m) (m' : Int) : RdAt w0 (w.setCell ⟨R, 1, none⟩ (.int .i64 m')) R v xs m' := by
  refine ⟨h.ext.setCell h.old _, h.old, by simp [h.lt], ?_, World.cell?_setCell_same _ _ _ h.c1, ?_, ?_, h.bytes⟩
  · rw [World.cell?_setCell_other _ _ _ _ (by simp)]; exact h.c0
  · rw [World.frozen?_setCell]; exact h.f0
  · rw [World.frozen?_setCell]; exact h.f1

def Broken (w0 w : World) (R : Nat) (e : Ending) (w' : World) : Prop := e = .panicked [{ v := .iface 166 (.agg #[]), recovered := false }] ∧ Ext w0 w' ∧ w.grownBy w' (some R)

/-- It tells r, and has read on. -/
def RdPost (w0 w : World) (R : Nat) (xs : List UInt8) (m : Int) (r : Value) (e : Ending) (w' : World) : Prop := e = .returned r ∧ (∃ v', RdAt w0 w' R v' xs m) ∧ w.grownBy w' (some R)

set_option maxRecDepth 100000 in
set_option maxHeartbeats 2000000 in
theorem rdnum_ok {w0 w : World} {R : Nat} {v : Value} {xs : List UInt8} {m : Int} (h : RdAt w0 w R v xs m) (lo hi n : Int) (k : Nat) (hN : takeN xs = some (n, k)) (h1 : lo ≤ n) (h2 : n ≤ hi) :
    Calls Tryz.prog 140 #[.pointer (some ⟨R, 0, none⟩), .int .i64 lo, .int .i64 hi] w (RdPost w0 w R (xs.drop k) m (.int .i64 n)) := by
  have HN := Lib.hid hN
  have H := Lib.hid h
  have c0 := h.c0
  have f0 := h.f0
  clear h hN
  go_enter Tryz.func140, Tryz.ntmps140
  go_wp2_with fail
  refine (takeNum_any v xs w (H.out.bytes.ext H.out.ext)).mono ?_
  intro e w1 hp
  unfold TakeNumPost at hp
  rw [HN.out] at hp
  obtain ⟨nq, rfl, rfl⟩ := hp
  have hE : Ext w (w.drewN nq) := (Ext.refl w).drewN nq
  have hr := H.out.then hE
  have hb2 := hr.bytes.drop (takeN_inv HN.out).2.2.2.1
  generalize dropV v k = v2 at *
  obtain ⟨a2, cap2, rfl, -⟩ := id hb2
  have hr2 := hr.setLeft hb2
  clear hb2
  generalize xs.drop k = ys at *
  generalize ys.length = ly at *
  have hg2 := grown_trans (grown_ext hE (some R)) (grown_set (w.drewN nq) R 0 (.slice a2 ly cap2))
  have HR := Lib.hid hr2
  have HG := Lib.hid hg2
  clear hr hr2 hg2
  go_wp2
  go_ret
  exact ⟨rfl, ⟨_, HR.out⟩, HG.out⟩

set_option maxRecDepth 100000 in
set_option maxHeartbeats 2000000 in
theorem rdnum_no {w0 w : World} {R : Nat} {v : Value} {xs : List UInt8} {m : Int} (h : RdAt w0 w R v xs m) (lo hi : Int) (hN : ∀ n k, takeN xs = some (n, k) → n < lo ∨ hi < n) :
    Calls Tryz.prog 140 #[.pointer (some ⟨R, 0, none⟩), .int .i64 lo, .int .i64 hi] w (Broken w0 w R) := by
  have HN := Lib.hid hN
  have H := Lib.hid h
  have c0 := h.c0
  have f0 := h.f0
  clear h hN
  go_enter Tryz.func140, Tryz.ntmps140
  go_wp2_with fail
  refine (takeNum_any v xs w (H.out.bytes.ext H.out.ext)).mono ?_
  intro e w1 hp
  unfold TakeNumPost at hp
  cases hN : takeN xs with
  | none =>
    rw [hN] at hp
    obtain ⟨rfl, rfl⟩ := hp
    have HB : Hid (Broken w0 w R (.panicked [{ v := .iface 166 (.agg #[]), recovered := false }]) w) := Lib.hid ⟨rfl, H.out.ext, World.grownBy.refl _ _⟩
    clear hN HN c0 f0
    go_wp2
    exact ⟨rfl, HB.out⟩
  | some p =>
    obtain ⟨n, k⟩ := p
    rw [hN] at hp
    obtain ⟨nq, rfl, rfl⟩ := hp
    have hE : Ext w (w.drewN nq) := (Ext.refl w).drewN nq
    have HB : Hid (Broken w0 w R (.panicked [{ v := .iface 166 (.agg #[]), recovered := false }]) (w.drewN nq)) := Lib.hid ⟨rfl, H.out.ext.trans hE, grown_ext hE _⟩
    rcases HN.out n k hN with hlt | hlt
    · clear hN HN c0 f0 hE
      go_wp2
      exact ⟨rfl, HB.out⟩
    · clear hN HN c0 f0 hE
      by_cases hlo : n < lo
      · go_wp2
        exact ⟨rfl, HB.out⟩
      · go_wp2
        exact ⟨rfl, HB.out⟩

set_option maxRecDepth 100000 in
set_option maxHeartbeats 2000000 in
theorem rdtext_ok {w0 w : World} {R : Nat} {v : Value} {xs : List UInt8} {m : Int} (h : RdAt w0 w R v xs m) (k n : Nat) (hN : takeT xs 100 = some (k, n)) :
    Calls Tryz.prog 141 #[.pointer (some ⟨R, 0, none⟩)] w (RdPost w0 w R ((xs.drop k).drop n) m (.string (str ((xs.drop k).take n)))) := by
  have HN := Lib.hid hN
  have H := Lib.hid h
  have c0 := h.c0
  have f0 := h.f0
  clear h hN
  go_enter Tryz.func141, Tryz.ntmps141
  go_wp2_with fail
  refine (takeText_any v xs 100 (by unfold isI64; omega) w (H.out.bytes.ext H.out.ext)).mono ?_
  intro e w1 hp
  unfold TakeTextPost at hp
  rw [HN.out] at hp
  obtain ⟨nq, rfl, rfl⟩ := hp
  have hE : Ext w (w.drewN nq) := (Ext.refl w).drewN nq
  have hr := H.out.then hE
  obtain ⟨_, _, hkn⟩ := takeT_inv HN.out
  have hb2 := (hr.bytes.drop (k := k) (by omega)).drop (k := n) (by simp; omega)
  generalize dropV (dropV v k) n = v2 at *
  obtain ⟨a2, cap2, rfl, -⟩ := id hb2
  have hr2 := hr.setLeft hb2
  clear hb2
  generalize (xs.drop k).drop n = ys at *
  generalize ys.length = ly at *
  have hg2 := grown_trans (grown_ext hE (some R)) (grown_set (w.drewN nq) R 0 (.slice a2 ly cap2))
  have HR := Lib.hid hr2
  have HG := Lib.hid hg2
  clear hr hr2 hg2 hkn
  go_wp2
  go_ret
  exact ⟨rfl, ⟨_, HR.out⟩, HG.out⟩

set_option maxRecDepth 100000 in
set_option maxHeartbeats 2000000 in
theorem rdtext_no {w0 w : World} {R : Nat} {v : Value} {xs : List UInt8} {m : Int} (h : RdAt w0 w R v xs m) (hN : takeT xs 100 = none) :
    Calls Tryz.prog 141 #[.pointer (some ⟨R, 0, none⟩)] w (Broken w0 w R) := by
  have HN := Lib.hid hN
  have H := Lib.hid h
  have c0 := h.c0
  have f0 := h.f0
  clear h hN
  go_enter Tryz.func141, Tryz.ntmps141
  go_wp2_with fail
  refine (takeText_any v xs 100 (by unfold isI64; omega) w (H.out.bytes.ext H.out.ext)).mono ?_
  intro e w1 hp
  unfold TakeTextPost at hp
  rw [HN.out] at hp
  obtain ⟨nq, rfl, rfl⟩ := hp
  have hE : Ext w (w.drewN nq) := (Ext.refl w).drewN nq
  have HB : Hid (Broken w0 w R (.panicked [{ v := .iface 166 (.agg #[]), recovered := false }]) (w.drewN nq)) := Lib.hid ⟨rfl, H.out.ext.trans hE, grown_ext hE _⟩
  clear HN c0 f0 hE
  go_wp2
  exact ⟨rfl, HB.out⟩
end Go.Proofs.YtdienbcjfljjnaaGreatDoor

/- Walks: the reader's value. -/
open Go.RowKit Go.Shelf
namespace Go.Proofs.YtdienbcjfljjnaaGreatDoor
open Go Go.Proofs Fm

set_option maxRecDepth 100000 in
set_option maxHeartbeats 2000000 in
theorem value_bad {w0 w : World} {R : Nat} {v : Value} {xs : List UInt8} {m : Int} (D : Int) (h : RdAt w0 w R v xs m) (hN : ∀ n k, takeN xs = some (n, k) → n < 0 ∨ 2 < n) :
    Calls Tryz.prog 119 #[.pointer (some ⟨R, 0, none⟩), .int .i64 D] w (Broken w0 w R) := by
  have HN := Lib.hid hN
  have H := Lib.hid h
  clear h hN
  go_enter Tryz.func119, Tryz.ntmps119
  go_wp2_with fail
  have hE0 := (Ext.refl w).alloc (.cells #[.int .u8 0, .int .i64 0, .string (str []), .slice none 0 0] 43)
  refine (rdnum_no (H.out.then hE0) 0 2 HN.out).mono ?_
  rintro e w1 ⟨rfl, hE1, hg1⟩
  have HB : Hid (Broken w0 w R (.panicked [{ v := .iface 166 (.agg #[]), recovered := false }]) w1) := Lib.hid ⟨rfl, hE1, grown_trans (grown_ext hE0 _) hg1⟩
  clear hE1 hg1 hE0 HN
  go_wp2
  exact ⟨rfl, HB.out⟩

/-- A struct of four cells in a block of its own. -/
def Box4 (w : World) (b : Nat) (c0 c1 c2 c3 : Value) : Prop := w.heap[b]? = some (.cells #[c0, c1, c2, c3] 43 (0, 0))
theorem Box4.new (w : World) (c0 c1 c2 c3 : Value) : Box4 (w.alloc (.cells #[c0, c1, c2, c3] 43)) w.heap.size c0 c1 c2 c3 := heap_alloc_new w _
theorem Box4.lt {w : World} {b : Nat} {c0 c1 c2 c3 : Value} (h : Box4 w b c0 c1 c2 c3) : b < w.heap.size := (Array.getElem?_eq_some_iff.1 h).1
theorem Box4.kept {w w' : World} {b : Nat} {c0 c1 c2 c3 : Value} (h : Box4 w b c0 c1 c2 c3) {row : Option Nat} (hg : w.grownBy w' row) (hr : row ≠ some b) : Box4 w' b c0 c1 c2 c3 := (hg.block b h.lt (fun e => hr e.symm)).trans h
theorem Box4.ext {w w' : World} {b : Nat} {c0 c1 c2 c3 : Value} (h : Box4 w b c0 c1 c2 c3) (hE : Ext w w') : Box4 w' b c0 c1 c2 c3 := (hE.block b h.lt).trans h
theorem Box4.cells {w : World} {b : Nat} {c0 c1 c2 c3 : Value} (h : Box4 w b c0 c1 c2 c3) : w.cell? ⟨b, 0, none⟩ = some c0 ∧ w.cell? ⟨b, 1, none⟩ = some c1 ∧ w.cell? ⟨b, 2, none⟩ = some c2 ∧ w.cell? ⟨b, 3, none⟩ = some c3 := by
  unfold Box4 at h
  refine ⟨?_, ?_, ?_, ?_⟩ <;> simp [World.cell?, h]
theorem Box4.frozen {w : World} {b : Nat} {c0 c1 c2 c3 : Value} (h : Box4 w b c0 c1 c2 c3) : w.frozen? ⟨b, 0, none⟩ = false ∧ w.frozen? ⟨b, 1, none⟩ = false ∧ w.frozen? ⟨b, 2, none⟩ = false ∧ w.frozen? ⟨b, 3, none⟩ = false := by
  unfold Box4 at h
  refine ⟨?_, ?_, ?_, ?_⟩ <;> simp [World.frozen?, h]
theorem grown_new {a b : World} {row : Option Nat} (h : a.grownBy b row) {p : Addr} (hp : a.heap.size ≤ p.block) (u : Value) : a.grownBy (b.setCell p u) row :=
  ⟨h.os, h.tape, h.output, by simpa [World.setCell] using h.size, fun i hi hne => (Below.heap_setCell b p u i (by omega)).trans (h.block i hi hne)⟩

/-- The world of value when its variable is laid and one part is counted. -/
def valW (w : World) (R : Nat) (m : Int) (k : Int) : World := (w.setCell ⟨R, 1, none⟩ (.int .i64 (m - 1))).alloc (.cells #[.int .u8 k, .int .i64 0, .string { data := #[] }, .slice none 0 0] 43)
theorem valW_facts {w0 w : World} {R : Nat} {v : Value} {xs : List UInt8} {m : Int} (h : RdAt w0 w R v xs m) (k : Int) :
    RdAt w0 (valW w R m k) R v xs (m - 1) ∧ w.grownBy (valW w R m k) (some R) ∧ Box4 (valW w R m k) w.heap.size (.int .u8 k) (.int .i64 0) (.string { data := #[] }) (.slice none 0 0) ∧ (valW w R m k).heap.size = w.heap.size + 1 := by
  have h1 := h.setRoom (m - 1)
  have hz : (w.setCell ⟨R, 1, none⟩ (.int .i64 (m - 1))).heap.size = w.heap.size := by simp [World.setCell]
  refine ⟨h1.then ((Ext.refl _).alloc _), grown_trans (grown_set w R 1 _) (grown_ext ((Ext.refl _).alloc _) _), ?_, by simp [valW, hz]⟩
  have := Box4.new (w.setCell ⟨R, 1, none⟩ (.int .i64 (m - 1))) (.int .u8 k) (.int .i64 0) (.string { data := #[] }) (.slice none 0 0)
  rw [hz] at this
  exact this

/-- It tells a tree in memory of its own, and has read on. -/
def ValOK (w0 w : World) (R : Nat) (t : Tr) (xs : List UInt8) (m : Int) (e : Ending) (w' : World) : Prop :=
  ∃ v, e = .returned v ∧ (∃ v', RdAt w0 w' R v' xs m) ∧ w.grownBy w' (some R) ∧ OwnT 43 w' w.heap.size t v

set_option maxRecDepth 100000 in
set_option maxHeartbeats 2000000 in
theorem value_num {w0 w : World} {R : Nat} {v : Value} {xs : List UInt8} {m : Nat} (D : Int) (hD : 0 < D) (hm : 0 < m) (hm2 : m ≤ 1000) (h : RdAt w0 w R v xs m) (k : Nat) (hN : takeN xs = some (0, k)) (n : Int) (k2 : Nat) (hN2 : takeN (xs.drop k) = some (n, k2)) :
    Calls Tryz.prog 119 #[.pointer (some ⟨R, 0, none⟩), .int .i64 D] w (ValOK w0 w R (.node 0 n [] []) ((xs.drop k).drop k2) (m - 1)) := by
  have HN := Lib.hid hN
  have HN2 := Lib.hid hN2
  have H := Lib.hid h
  have hR := h.lt
  clear h hN hN2
  have hD0 : (D == 0) = false := by simp; omega
  have hm' : ((m : Int) - 1 < 0) = False := by simp; omega
  go_enter Tryz.func119, Tryz.ntmps119
  go_wp2_with fail
  have hE0 := (Ext.refl w).alloc (.cells #[.int .u8 0, .int .i64 0, .string (str []), .slice none 0 0] 43)
  have hB4 := Box4.new w (.int .u8 0) (.int .i64 0) (.string (str [])) (.slice none 0 0)
  refine (rdnum_ok (H.out.then hE0) 0 2 0 k HN.out (by omega) (by omega)).mono ?_
  rintro e w1 ⟨rfl, ⟨v1, hr1⟩, hg1⟩
  have c0 := hr1.c0
  have c1 := hr1.c1
  have f0 := hr1.f0
  have f1 := hr1.f1
  have hlt := hr1.lt
  go_wp2_with fail
  change Calls _ _ _ (valW w1 R m 0) _
  obtain ⟨hr2, hg2, hb2, hz2⟩ := valW_facts hr1 0
  have hB5 := hB4.kept hg1 (by simp; omega)
  have hB6 := hB5.kept hg2 (by simp; omega)
  have hg3 := grown_trans (grown_trans (grown_ext hE0 (some R)) hg1) hg2
  have hlw := hg3.size
  have hlw1 := hE0.size
  have hlw2 := hg1.size
  generalize valW w1 R m 0 = W2 at *
  generalize hV : w1.heap.size = V at *
  have HV : Hid (w1.heap.size = V) := hV
  clear hV
  refine (rdnum_ok hr2 _ _ n k2 HN2.out (takeN_inv HN2.out).1.1 (takeN_inv HN2.out).1.2).mono ?_
  rintro e w3 ⟨rfl, ⟨v3, hr3⟩, hg4⟩
  have hb3 := hb2.kept hg4 (by simp; omega)
  have hB7 := hB6.kept hg4 (by simp; omega)
  obtain ⟨d0, d1, d2, d3⟩ := hb3.cells
  obtain ⟨e0, e1, e2, e3⟩ := hb3.frozen
  obtain ⟨p0, p1, p2, p3⟩ := hB7.cells
  obtain ⟨q0, q1, q2, q3⟩ := hB7.frozen
  have hsz1 : (w.alloc (.cells #[.int .u8 0, .int .i64 0, .string (str []), .slice none 0 0] 43)).heap.size = w.heap.size + 1 := by simp
  have hPV : ¬ w.heap.size = V := by omega
  have hPV' : w.heap.size ≤ V := by omega
  have hRV : R < V := hlt
  have hVP : ¬ V = w.heap.size := by omega
  have ha1 := World.cell?_setCell_same w3 ⟨V, 1, none⟩ (.int .i64 n) d1
  clear hb2 hB6 hB5 hB4 hb3 hB7 hr2 hr1 hg1 hg2 hz2 hsz1 hlw hlw1 hlw2 c0 c1 f0 f1 hE0 hlt
  go_wp2
  refine bodyPost_ret (v := .agg #[.int .u8 0, .int .i64 n, .string (str []), .slice none 0 0]) (by simp [results, Tryz.results119, go_sem, p0, p1, p2, p3]; rfl) rfl ?_
  have hk1 : ∀ k, some V = some k → w0.heap.size ≤ k ∧ k ≠ R := fun k hk => by
    injection hk with hk; have := H.out.ext.size; omega
  have hk2 : ∀ k, some w.heap.size = some k → w0.heap.size ≤ k ∧ k ≠ R := fun k hk => by
    injection hk with hk; have := H.out.ext.size; omega
  refine ⟨_, rfl, ⟨_, ((((hr3.kept (grown_set w3 V 1 _) hk1).kept (grown_set _ _ 0 _) hk2).kept (grown_set _ _ 1 _) hk2).kept (grown_set _ _ 2 _) hk2).kept (grown_set _ _ 3 _) hk2⟩, ?_, ?_⟩
  · exact grown_new (grown_new (grown_new (grown_new (grown_new (grown_trans hg3 hg4) (by simp; omega) _) (Nat.le_refl _) _) (Nat.le_refl _) _) (Nat.le_refl _) _) (Nat.le_refl _) _
  · exact OwnT.mk (k := 0) (takeN_inv HN2.out).1 (by simp) (OwnL.nil _ _ _)
set_option maxRecDepth 100000 in
set_option maxHeartbeats 4000000 in
theorem value_room {w0 w : World} {R : Nat} {v : Value} {xs : List UInt8} {m : Nat} (D : Int) (hm : m = 0 ∨ D = 0) (hm2 : m ≤ 1000) (h : RdAt w0 w R v xs m) (n : Int) (k : Nat) (hN : takeN xs = some (n, k)) (hn : n = 0 ∨ n = 1 ∨ n = 2) :
    Calls Tryz.prog 119 #[.pointer (some ⟨R, 0, none⟩), .int .i64 D] w (Broken w0 w R) := by
  have HN := Lib.hid hN
  have H := Lib.hid h
  have hR := h.lt
  clear h hN
  have hn0 : 0 ≤ n := by omega
  have hn2 : n ≤ 2 := by omega
  go_enter Tryz.func119, Tryz.ntmps119
  go_wp2_with fail
  have hE0 := (Ext.refl w).alloc (.cells #[.int .u8 0, .int .i64 0, .string (str []), .slice none 0 0] 43)
  have hB4 := Box4.new w (.int .u8 0) (.int .i64 0) (.string (str [])) (.slice none 0 0)
  refine (rdnum_ok (H.out.then hE0) 0 2 n k HN.out (by omega) (by omega)).mono ?_
  rintro e w1 ⟨rfl, ⟨v1, hr1⟩, hg1⟩
  have hg := grown_trans (grown_ext hE0 (some R)) hg1
  have c0 := hr1.c0
  have c1 := hr1.c1
  have f0 := hr1.f0
  have f1 := hr1.f1
  have hlt := hr1.lt
  rcases hn with rfl | rfl | rfl
  all_goals
    by_cases hm0 : m = 0
    · obtain rfl : m = 0 := hm0
      go_wp2
      exact ⟨rfl, rfl, (hr1.setRoom _).ext.alloc _, grown_trans hg (grown_trans (grown_set w1 R 1 _) (grown_ext ((Ext.refl _).alloc _) _))⟩
    · have hD0 : (D == 0) = true := by simp; omega
      have hm' : ((m : Int) - 1 < 0) = False := by simp; omega
      go_wp2
      exact ⟨rfl, rfl, (hr1.setRoom _).ext.alloc _, grown_trans hg (grown_trans (grown_set w1 R 1 _) (grown_ext ((Ext.refl _).alloc _) _))⟩

set_option maxRecDepth 100000 in
set_option maxHeartbeats 4000000 in
theorem value_num_no {w0 w : World} {R : Nat} {v : Value} {xs : List UInt8} {m : Nat} (D : Int) (hD : 0 < D) (hm : 0 < m) (hm2 : m ≤ 1000) (h : RdAt w0 w R v xs m) (k : Nat) (hN : takeN xs = some (0, k)) (hN2 : takeN (xs.drop k) = none) :
    Calls Tryz.prog 119 #[.pointer (some ⟨R, 0, none⟩), .int .i64 D] w (Broken w0 w R) := by
  have HN2 := Lib.hid hN2
  clear hN2
  have HN := Lib.hid hN
  have H := Lib.hid h
  have hR := h.lt
  clear h hN
  have hD0 : (D == 0) = false := by simp; omega
  have hm' : ((m : Int) - 1 < 0) = False := by simp; omega
  go_enter Tryz.func119, Tryz.ntmps119
  go_wp2_with fail
  have hE0 := (Ext.refl w).alloc (.cells #[.int .u8 0, .int .i64 0, .string (str []), .slice none 0 0] 43)
  have hB4 := Box4.new w (.int .u8 0) (.int .i64 0) (.string (str [])) (.slice none 0 0)
  refine (rdnum_ok (H.out.then hE0) 0 2 0 k HN.out (by omega) (by omega)).mono ?_
  rintro e w1 ⟨rfl, ⟨v1, hr1⟩, hg1⟩
  have c0 := hr1.c0
  have c1 := hr1.c1
  have f0 := hr1.f0
  have f1 := hr1.f1
  have hlt := hr1.lt
  go_wp2_with fail
  change Calls _ _ _ (valW w1 R m 0) _
  obtain ⟨hr2, hg2, hb2, hz2⟩ := valW_facts hr1 0
  have hB5 := hB4.kept hg1 (by simp; omega)
  have hB6 := hB5.kept hg2 (by simp; omega)
  have hg3 := grown_trans (grown_trans (grown_ext hE0 (some R)) hg1) hg2
  have hlw := hg3.size
  have hlw1 := hE0.size
  have hlw2 := hg1.size
  generalize valW w1 R m 0 = W2 at *
  generalize hV : w1.heap.size = V at *
  have HV : Hid (w1.heap.size = V) := hV
  clear hV
  refine (rdnum_no hr2 _ _ (fun n k h => by rw [HN2.out] at h; cases h)).mono ?_
  rintro e w3 ⟨rfl, hE3, hg4⟩
  have HB : Hid (Broken w0 w R (.panicked [{ v := .iface 166 (.agg #[]), recovered := false }]) w3) := Lib.hid ⟨rfl, hE3, grown_trans hg3 hg4⟩
  clear hE3 hg4
  go_wp2
  exact ⟨rfl, HB.out⟩

set_option maxRecDepth 100000 in
set_option maxHeartbeats 4000000 in
theorem value_text_no {w0 w : World} {R : Nat} {v : Value} {xs : List UInt8} {m : Nat} (D : Int) (hD : 0 < D) (hm : 0 < m) (hm2 : m ≤ 1000) (h : RdAt w0 w R v xs m) (k : Nat) (hN : takeN xs = some (1, k)) (hN2 : takeT (xs.drop k) 100 = none) :
    Calls Tryz.prog 119 #[.pointer (some ⟨R, 0, none⟩), .int .i64 D] w (Broken w0 w R) := by
  have HN2 := Lib.hid hN2
  clear hN2
  have HN := Lib.hid hN
  have H := Lib.hid h
  have hR := h.lt
  clear h hN
  have hD0 : (D == 0) = false := by simp; omega
  have hm' : ((m : Int) - 1 < 0) = False := by simp; omega
  go_enter Tryz.func119, Tryz.ntmps119
  go_wp2_with fail
  have hE0 := (Ext.refl w).alloc (.cells #[.int .u8 0, .int .i64 0, .string (str []), .slice none 0 0] 43)
  have hB4 := Box4.new w (.int .u8 0) (.int .i64 0) (.string (str [])) (.slice none 0 0)
  refine (rdnum_ok (H.out.then hE0) 0 2 1 k HN.out (by omega) (by omega)).mono ?_
  rintro e w1 ⟨rfl, ⟨v1, hr1⟩, hg1⟩
  have c0 := hr1.c0
  have c1 := hr1.c1
  have f0 := hr1.f0
  have f1 := hr1.f1
  have hlt := hr1.lt
  go_wp2_with fail
  change Calls _ _ _ (valW w1 R m 1) _
  obtain ⟨hr2, hg2, hb2, hz2⟩ := valW_facts hr1 1
  have hB5 := hB4.kept hg1 (by simp; omega)
  have hB6 := hB5.kept hg2 (by simp; omega)
  have hg3 := grown_trans (grown_trans (grown_ext hE0 (some R)) hg1) hg2
  have hlw := hg3.size
  have hlw1 := hE0.size
  have hlw2 := hg1.size
  generalize valW w1 R m 1 = W2 at *
  generalize hV : w1.heap.size = V at *
  have HV : Hid (w1.heap.size = V) := hV
  clear hV
  refine (rdtext_no hr2 HN2.out).mono ?_
  rintro e w3 ⟨rfl, hE3, hg4⟩
  have HB : Hid (Broken w0 w R (.panicked [{ v := .iface 166 (.agg #[]), recovered := false }]) w3) := Lib.hid ⟨rfl, hE3, grown_trans hg3 hg4⟩
  clear hE3 hg4
  go_wp2
  exact ⟨rfl, HB.out⟩

set_option maxRecDepth 100000 in
set_option maxHeartbeats 4000000 in
theorem value_text {w0 w : World} {R : Nat} {v : Value} {xs : List UInt8} {m : Nat} (D : Int) (hD : 0 < D) (hm : 0 < m) (hm2 : m ≤ 1000) (h : RdAt w0 w R v xs m) (k : Nat) (hN : takeN xs = some (1, k)) (k2 n2 : Nat) (hN2 : takeT (xs.drop k) 100 = some (k2, n2)) :
    Calls Tryz.prog 119 #[.pointer (some ⟨R, 0, none⟩), .int .i64 D] w (ValOK w0 w R (.node 1 0 (((xs.drop k).drop k2).take n2) []) (((xs.drop k).drop k2).drop n2) (m - 1)) := by
  have HN2 := Lib.hid hN2
  clear hN2
  have HN := Lib.hid hN
  have H := Lib.hid h
  have hR := h.lt
  clear h hN
  have hD0 : (D == 0) = false := by simp; omega
  have hm' : ((m : Int) - 1 < 0) = False := by simp; omega
  go_enter Tryz.func119, Tryz.ntmps119
  go_wp2_with fail
  have hE0 := (Ext.refl w).alloc (.cells #[.int .u8 0, .int .i64 0, .string (str []), .slice none 0 0] 43)
  have hB4 := Box4.new w (.int .u8 0) (.int .i64 0) (.string (str [])) (.slice none 0 0)
  refine (rdnum_ok (H.out.then hE0) 0 2 1 k HN.out (by omega) (by omega)).mono ?_
  rintro e w1 ⟨rfl, ⟨v1, hr1⟩, hg1⟩
  have c0 := hr1.c0
  have c1 := hr1.c1
  have f0 := hr1.f0
  have f1 := hr1.f1
  have hlt := hr1.lt
  go_wp2_with fail
  change Calls _ _ _ (valW w1 R m 1) _
  obtain ⟨hr2, hg2, hb2, hz2⟩ := valW_facts hr1 1
  have hB5 := hB4.kept hg1 (by simp; omega)
  have hB6 := hB5.kept hg2 (by simp; omega)
  have hg3 := grown_trans (grown_trans (grown_ext hE0 (some R)) hg1) hg2
  have hlw := hg3.size
  have hlw1 := hE0.size
  have hlw2 := hg1.size
  generalize valW w1 R m 1 = W2 at *
  generalize hV : w1.heap.size = V at *
  have HV : Hid (w1.heap.size = V) := hV
  clear hV
  refine (rdtext_ok hr2 k2 n2 HN2.out).mono ?_
  rintro e w3 ⟨rfl, ⟨v3, hr3⟩, hg4⟩
  have hsl : (((xs.drop k).drop k2).take n2).length ≤ 9223372036854775807 := by
    have := (takeT_inv HN2.out).2.1
    rw [List.length_take]; omega
  generalize ((xs.drop k).drop k2).take n2 = s2 at *
  generalize ((xs.drop k).drop k2).drop n2 = r2 at *
  have hb3 := hb2.kept hg4 (by simp; omega)
  have hB7 := hB6.kept hg4 (by simp; omega)
  obtain ⟨d0, d1, d2, d3⟩ := hb3.cells
  obtain ⟨e0, e1, e2, e3⟩ := hb3.frozen
  obtain ⟨p0, p1, p2, p3⟩ := hB7.cells
  obtain ⟨q0, q1, q2, q3⟩ := hB7.frozen
  have hsz1 : (w.alloc (.cells #[.int .u8 0, .int .i64 0, .string (str []), .slice none 0 0] 43)).heap.size = w.heap.size + 1 := by simp
  have hPV : ¬ w.heap.size = V := by omega
  have hPV' : w.heap.size ≤ V := by omega
  have hRV : R < V := hlt
  have hVP : ¬ V = w.heap.size := by omega
  have ha1 := World.cell?_setCell_same w3 ⟨V, 2, none⟩ (.string (str s2)) d2
  clear hb2 hB6 hB5 hB4 hb3 hB7 hr2 hr1 hg1 hg2 hz2 hsz1 hlw hlw1 hlw2 c0 c1 f0 f1 hE0 hlt
  go_wp2
  refine bodyPost_ret (v := .agg #[.int .u8 1, .int .i64 0, .string (str s2), .slice none 0 0]) (by simp [results, Tryz.results119, go_sem, p0, p1, p2, p3]) rfl ?_
  have hk1 : ∀ k, some V = some k → w0.heap.size ≤ k ∧ k ≠ R := fun k hk => by
    injection hk with hk; have := H.out.ext.size; omega
  have hk2 : ∀ k, some w.heap.size = some k → w0.heap.size ≤ k ∧ k ≠ R := fun k hk => by
    injection hk with hk; have := H.out.ext.size; omega
  refine ⟨_, rfl, ⟨_, ((((hr3.kept (grown_set w3 V 2 _) hk1).kept (grown_set _ _ 0 _) hk2).kept (grown_set _ _ 1 _) hk2).kept (grown_set _ _ 2 _) hk2).kept (grown_set _ _ 3 _) hk2⟩, ?_, ?_⟩
  · exact grown_new (grown_new (grown_new (grown_new (grown_new (grown_trans hg3 hg4) (by simp; omega) _) (Nat.le_refl _) _) (Nat.le_refl _) _) (Nat.le_refl _) _) (Nat.le_refl _) _
  · exact OwnT.mk (k := 1) (by unfold isI64; omega) hsl (OwnL.nil _ _ _)

set_option maxRecDepth 100000 in
set_option maxHeartbeats 4000000 in
theorem value_list_no {w0 w : World} {R : Nat} {v : Value} {xs : List UInt8} {m : Nat} (D : Int) (hD : 0 < D) (hm : 0 < m) (hm2 : m ≤ 1000) (h : RdAt w0 w R v xs m) (k : Nat) (hN : takeN xs = some (2, k)) (hN2 : ∀ n k2, takeN (xs.drop k) = some (n, k2) → n < 0 ∨ 40 < n) :
    Calls Tryz.prog 119 #[.pointer (some ⟨R, 0, none⟩), .int .i64 D] w (Broken w0 w R) := by
  have HN2 := Lib.hid hN2
  clear hN2
  have HN := Lib.hid hN
  have H := Lib.hid h
  have hR := h.lt
  clear h hN
  have hD0 : (D == 0) = false := by simp; omega
  have hm' : ((m : Int) - 1 < 0) = False := by simp; omega
  go_enter Tryz.func119, Tryz.ntmps119
  go_wp2_with fail
  have hE0 := (Ext.refl w).alloc (.cells #[.int .u8 0, .int .i64 0, .string (str []), .slice none 0 0] 43)
  have hB4 := Box4.new w (.int .u8 0) (.int .i64 0) (.string (str [])) (.slice none 0 0)
  refine (rdnum_ok (H.out.then hE0) 0 2 2 k HN.out (by omega) (by omega)).mono ?_
  rintro e w1 ⟨rfl, ⟨v1, hr1⟩, hg1⟩
  have c0 := hr1.c0
  have c1 := hr1.c1
  have f0 := hr1.f0
  have f1 := hr1.f1
  have hlt := hr1.lt
  go_wp2_with fail
  change Calls _ _ _ (valW w1 R m 2) _
  obtain ⟨hr2, hg2, hb2, hz2⟩ := valW_facts hr1 2
  have hB5 := hB4.kept hg1 (by simp; omega)
  have hB6 := hB5.kept hg2 (by simp; omega)
  have hg3 := grown_trans (grown_trans (grown_ext hE0 (some R)) hg1) hg2
  have hlw := hg3.size
  have hlw1 := hE0.size
  have hlw2 := hg1.size
  generalize valW w1 R m 2 = W2 at *
  generalize hV : w1.heap.size = V at *
  have HV : Hid (w1.heap.size = V) := hV
  clear hV
  refine (rdnum_no hr2 _ _ HN2.out).mono ?_
  rintro e w3 ⟨rfl, hE3, hg4⟩
  have HB : Hid (Broken w0 w R (.panicked [{ v := .iface 166 (.agg #[]), recovered := false }]) w3) := Lib.hid ⟨rfl, hE3, grown_trans hg3 hg4⟩
  clear hE3 hg4
  go_wp2
  exact ⟨rfl, HB.out⟩

end Go.Proofs.YtdienbcjfljjnaaGreatDoor

namespace Fm
open Go

section
variable {P : Program} {ops : Array Oper} {Q : Exit → Act → World → Prop} {md : Region.Mode} {S : World → Prop}

/-- Operation i is wanted, and only reads: it may come first. -/
theorem take_w (i : Nat) (d : Option Tmp) {v : Value} {fuel : Nat} {listed : Array Bool} {a : Act} {w : World}
    (hi : ops[i]? = some (ops.getD i default)) (hd : (ops.getD i default).dst = d) (hs : Region.noSelect ops = true) (hf : Region.free md ops listed i = true) (hr : (Region.ready md ops listed).contains i = true)
    (hQ : ∀ c a w, Q (.panic c) (a.put d v) w → Q (.panic c) a w) (hw : Region.wanted (ops.getD i default) (yielded ops a.tmps) = true)
    (hy : ∀ w, S w → (execOp a.eval (ops.getD i default)).run P w = .ok (.value v) w) (hS : S w)
    (h : wpAnyH P md ops Q S fuel (listed.setIfInBounds i true) (a.put d v) w) : wpAnyH P md ops Q S (fuel + 1) listed a w := by
  subst hd; exact wpAnyH_take hi hs hf hr hQ (.inl ⟨hw, hy⟩) hS h
/-- Operation i is not wanted: it may come first. -/
theorem take_u (i : Nat) (d : Option Tmp) {fuel : Nat} {listed : Array Bool} {a : Act} {w : World}
    (hi : ops[i]? = some (ops.getD i default)) (hd : (ops.getD i default).dst = d) (hs : Region.noSelect ops = true) (hf : Region.free md ops listed i = true) (hr : (Region.ready md ops listed).contains i = true)
    (hQ : ∀ c a w, Q (.panic c) (a.put d undef) w → Q (.panic c) a w) (hw : Region.wanted (ops.getD i default) (yielded ops a.tmps) = false) (hS : S w)
    (h : wpAnyH P md ops Q S fuel (listed.setIfInBounds i true) (a.put d undef) w) : wpAnyH P md ops Q S (fuel + 1) listed a w := by
  subst hd; exact wpAnyH_take hi hs hf hr hQ (.inr ⟨hw, rfl⟩) hS h
/-- Operations that are not wanted, one behind the other: each may come first. -/
def skipB (md : Region.Mode) (ops : Array Oper) : List (Nat × Option Tmp) → Array Bool → Act → Bool
  | [], _, _ => true
  | (i, d) :: is, listed, a => decide (i < ops.size) && decide ((ops.getD i default).dst = d) && Region.noSelect ops && Region.free md ops listed i && (Region.ready md ops listed).contains i && !(Region.wanted (ops.getD i default) (yielded ops a.tmps)) && skipB md ops is (listed.setIfInBounds i true) (a.put d undef)
def putU : List (Nat × Option Tmp) → Act → Act
  | [], a => a
  | (_, d) :: is, a => putU is (a.put d undef)
def setU : List (Nat × Option Tmp) → Array Bool → Array Bool
  | [], l => l
  | (i, _) :: is, l => setU is (l.setIfInBounds i true)
theorem take_us : ∀ (is : List (Nat × Option Tmp)) {fuel : Nat} {listed : Array Bool} {a : Act} {w : World}, skipB md ops is listed a = true →
    (∀ i c a w, Q (.panic c) (a.put (some i) undef) w → Q (.panic c) a w) → S w → wpAnyH P md ops Q S fuel (setU is listed) (putU is a) w → wpAnyH P md ops Q S (fuel + is.length) listed a w
  | [], _, _, _, _, _, _, _, h => h
  | (i, d) :: is, fuel, listed, a, w, hb, hQ, hS, h => by
    unfold skipB at hb
    simp only [Bool.and_eq_true, decide_eq_true_eq, Bool.not_eq_true'] at hb
    obtain ⟨⟨⟨⟨⟨⟨h1, h2⟩, h3⟩, h4⟩, h5⟩, h6⟩, h7⟩ := hb
    rw [List.length_cons, ← Nat.add_assoc]
    refine take_u i d ?_ h2 h3 h4 h5 (match d with | none => fun _ _ _ h => h | some j => hQ j) h6 hS (take_us is h7 hQ hS h)
    rw [Array.getElem?_eq_getElem h1, Array.getD_eq_getD_getElem?, Array.getElem?_eq_getElem h1]
    rfl
theorem take_un (n : Nat) (is : List (Nat × Option Tmp)) (hn : is.length = n) {fuel : Nat} {listed : Array Bool} {a : Act} {w : World} (hb : skipB md ops is listed a = true)
    (hQ : ∀ i c a w, Q (.panic c) (a.put (some i) undef) w → Q (.panic c) a w) (hS : S w) (h : wpAnyH P md ops Q S fuel (setU is listed) (putU is a) w) : wpAnyH P md ops Q S (fuel + n) listed a w := by
  subst hn; exact take_us is hb hQ hS h
/-- Operation i alone may come up. -/
theorem ready_one (i : Nat) {fuel : Nat} {listed : Array Bool} {a : Act} {w : World}
    (hi : ops[i]? = some (ops.getD i default)) (hr : Region.ready md ops listed = [i]) (hw : Region.wanted (ops.getD i default) (yielded ops a.tmps) = true)
    (h : ∀ K' : Act → World → Prop, Shut (∀ a w, S w → (S w → wpAnyH P md ops Q S fuel (listed.setIfInBounds i true) a w) → K' a w) → Oper.wp P (ops.getD i default) a w K' Q) : wpAnyH P md ops Q S (fuel + 1) listed a w :=
  wpAnyH_ready hr (by simp) (AllReadyH.cons hi (fun K hK => by rw [if_pos hw]; exact h K hK) AllReadyH.nil)
end
end Fm

open Go.RowKit Go.Shelf
namespace Go.Proofs.YtdienbcjfljjnaaGreatDoor
open Go Go.Proofs Fm

theorem Lies_zT (w : World) : Lies w zT (.agg #[.int .u8 0, .int .i64 0, .string { data := #[] }, .slice none 0 0]) := Lies.mk (k := 0) (s := []) (by unfold isI64; omega) (by simp) (LiesS.nil w none)

end Go.Proofs.YtdienbcjfljjnaaGreatDoor

open Go.RowKit Go.Shelf
namespace Go.Proofs.YtdienbcjfljjnaaGreatDoor
open Go Go.Proofs Fm

theorem textB_ge (s : List UInt8) : s.length ≤ (textB s).length := by unfold textB; rw [List.length_append]; omega
end Go.Proofs.YtdienbcjfljjnaaGreatDoor

open Go.RowKit Go.Shelf
namespace Go.Proofs.YtdienbcjfljjnaaGreatDoor
open Go Go.Proofs Fm

theorem rplain_any (n : Int) (h : isI64 n) (w : World) :
    Calls Tryz.prog 108 #[.int .i64 n] w fun e w' => e = .returned (.int .u64 (zig n : Nat)) ∧ w = w' := by
  unfold isI64 at h
  obtain ⟨h1, h2⟩ := h
  by_cases h0 : 0 ≤ n
  · go_enter Tryz.func108, Tryz.ntmps108
    go_wp2
    go_ret
    have hz : ((zig n : Nat) : Int) = 2 * n := by unfold zig; rw [if_pos h0]; omega
    exact ⟨by rw [hz]; rfl, rfl⟩
  · go_enter Tryz.func108, Tryz.ntmps108
    go_wp2
    go_ret
    have hz : ((zig n : Nat) : Int) = 2 * -(n + 1) + 1 := by unfold zig; rw [if_neg (by omega)]; omega
    exact ⟨by rw [hz]; rfl, rfl⟩

set_option maxHeartbeats 1000000 in
theorem rnum_any (m : Int) (h : isI64 m) (w : World) :
    Calls Tryz.prog 69 #[.int .i64 m] w (RetBytes w (numB m)) := by
  go_enter Tryz.func69, Tryz.ntmps69
  go_wp2_with (go_at_call 108; refine (rplain_any m h _).mono ?_; rintro e w' ⟨rfl, rfl⟩)
  go_loopw [3, 4] (fun u s wr => ∃ (pre : List UInt8) (v : Nat), u = .int .u64 v ∧ Hid (numB m = pre ++ grpN (10 - pre.length) v) ∧ Hid (v * 128 ^ pre.length < 18446744073709551616 ∧ (pre.length = 0 ∨ 0 < v)) ∧ Hid (wr.ownsRow w.heap.size 5 1 s pre.length (pre.map bv)) ∧ Ext w wr)
    (fun u _ _ => (intOf u).toNat)
  case atStart =>
    exact ⟨[], zig m, rfl, rfl, ⟨by simpa using zig_lt h, .inl rfl⟩, World.ownsRow_nil _ _ _ _, Ext.refl w⟩
  case round =>
    obtain ⟨pre, v, rfl, HN, HV, HO, hE⟩ := hrel
    have hv64 : v < 18446744073709551616 := by
      have h1 := HV.out.1
      have h2 : v * 1 ≤ v * 128 ^ pre.length := Nat.mul_le_mul_left _ (Nat.pow_pos (by omega))
      omega
    have hpl : pre.length < 10 := by
      rcases HV.out.2 with h0 | h0
      · omega
      · have := le9 h0 HV.out.1; omega
    have hsz := hE.size
    by_cases hv : v < 128
    · have hg := grp_last hpl hv
      have HG := Lib.hid (HN.out.trans (by rw [hg])); clear hg
      have hv' : ¬ (128 : Int) ≤ v := by omega
      go_wp2_with (at_builtin; refine wpList_app _ elem_u8 rfl _ _ 27 rfl w.heap.size _ _ _ rfl (HO.out.alloc _) _ 1 [.int .u8 v] rfl (Src.ofSlice _ Tryz.underlying27 _ _ _ _ rfl (cell_one_new _ _ _) (by simp [Value.oneCell'])) ?c1 ?c2 ?c3 ?_)
      case c1 => unfold maxLen; omega
      case c2 => omega
      case c3 => first | omega | (simp; omega)
      intro v' w1 hown hgrow _
      have hE2 := (hE.alloc _).grown hgrow (own_lt HO.out)
      clear hgrow
      go_wp2
      go_ret
      refine ⟨v', rfl, ?_, hE2⟩
      rw [HG.out]
      have e : bv (UInt8.ofNat v) = .int .u8 v := by unfold bv; rw [toNat_ofNat_lt (by omega)]
      simpa [e] using hown
    · have hg := grp_cons hpl hv
      have hv' : (128 : Int) ≤ v := by omega
      have hst := step_eq 0 v pre.length
      have HG := Lib.hid (HN.out.trans (by rw [hg])); clear hg
      have HST := Lib.hid hst; clear hst
      have hvp : (v : Int) ≤ 18446744073709551615 := by omega
      have H64 := Lib.hid hv64; clear hv64
      go_wp2_with (at_builtin; refine wpList_app _ elem_u8 rfl _ _ 27 rfl w.heap.size _ _ _ rfl (HO.out.alloc _) _ 1 [.int .u8 (v % 128 + 128)] rfl (Src.ofSlice _ Tryz.underlying27 _ _ _ _ rfl (cell_one_new _ _ _) (by simp [Value.oneCell'])) ?c1 ?c2 ?c3 ?_)
      case c1 => unfold maxLen; omega
      case c2 => omega
      case c3 => first | omega | (simp; omega)
      intro v' w1 hown hgrow _
      have hE2 := (hE.alloc _).grown hgrow (own_lt HO.out)
      clear hgrow
      go_wp2
      go_roundw
      case rel =>
        refine ⟨pre ++ [UInt8.ofNat (v % 128 + 128)], v / 128, by go_num, by have := HG.out; simpa [Hid] using this, ⟨?_, ?_⟩, ?_, hE2⟩
        · have h1 := HV.out; have h2 := HST.out
          rw [List.length_append, List.length_cons, List.length_nil, Nat.zero_add]; omega
        · right; omega
        · have e : bv (UInt8.ofNat (v % 128 + 128)) = .int .u8 (v % 128 + 128) := by unfold bv; rw [toNat_ofNat_lt (by omega)]; congr 1
          rw [List.map_append, List.map_cons, List.map_nil, e]
          simpa [Hid] using hown
      case measure => simp [intOf]; omega

set_option maxHeartbeats 1000000 in
theorem rtext_any (s : List UInt8) (hs : s.length ≤ 1099511627776) (w : World) :
    Calls Tryz.prog 44 #[.string (str s)] w (RetBytes w (textB s)) := by
  have hm : isI64 (s.length : Int) := by unfold isI64; omega
  have hl := str_size s
  have hn := numB_le (s.length : Int)
  go_enter Tryz.func44, Tryz.ntmps44
  go_wp2_with fail
  refine (rnum_any _ hm w).mono ?_
  rintro e w1 ⟨v1, rfl, hr1, hE1⟩
  have HR1 := Lib.hid hr1; clear hr1
  go_wp2
  go_loopw [3, 4] (fun o i wr => ∃ k : Nat, k ≤ s.length ∧ i = .int .i64 k ∧ Hid (wr.ownsRow w.heap.size 5 1 o ((numB s.length).length + k) ((numB s.length).map bv ++ (s.take k).map bv)) ∧ Ext w wr) (fun _ i _ => s.length - (intOf i).toNat)
  case atStart => exact ⟨0, by omega, rfl, by simpa [Hid] using HR1.out, hE1⟩
  case round =>
    obtain ⟨k, hk, rfl, HO, hE⟩ := hrel
    have hsz := hE.size
    by_cases hlt : k < s.length
    · obtain ⟨x, hx⟩ : ∃ x, x = s[k]?.getD 0 := ⟨_, rfl⟩
      have hix := run_index_str (P := Tryz.prog) Tryz.underlying9 s k hlt
      rw [← hx] at hix
      have HX := Lib.hid hx; clear hx
      go_wp2_with (at_builtin; refine wpList_app _ elem_u8 rfl _ _ 27 rfl w.heap.size _ _ _ rfl (HO.out.alloc _) _ 1 [.int .u8 x.toNat] rfl (Src.ofSlice _ Tryz.underlying27 _ _ _ _ rfl (cell_one_new _ _ _) (by simp [Value.oneCell'])) ?c1 ?c2 ?c3 ?_)
      case c1 => unfold maxLen; omega
      case c2 => omega
      case c3 => first | omega | (simp; omega)
      intro v' w2 hown hgrow _
      have hE2 := (hE.alloc _).grown hgrow (own_lt HO.out)
      clear hgrow hix
      go_wp2
      go_roundw
      case rel =>
        refine ⟨k + 1, by omega, by go_num, ?_, hE2⟩
        have e : s.take (k + 1) = s.take k ++ [x] := by rw [List.take_succ_eq_append_getElem hlt, HX.out]; simp [hlt]
        rw [e, List.map_append, ← List.append_assoc, ← Nat.add_assoc]
        simpa [Hid, List.map_take, bv] using hown
      case measure => simp [intOf]; omega
    · obtain rfl : k = s.length := by omega
      go_wp2
      go_ret
      exact ⟨_, rfl, by have := HO.out; rw [List.take_length] at this; simpa [textB] using this, hE⟩

def RTakeNumPost (xs : List UInt8) (w : World) (e : Ending) (w' : World) : Prop :=
  (match takeN xs with
  | some (n, k) => e = .returned (.tuple #[.int .i64 n, .int .i64 (k : Nat)])
  | none => e = .returned (.tuple #[.int .i64 0, .int .i64 0])) ∧ w = w'
theorem rtake_none_of {xs : List UInt8} (h : takeG 0 0 xs = none) {w : World} : RTakeNumPost xs w (.returned (.tuple #[.int .i64 0, .int .i64 0])) w := by
  unfold RTakeNumPost takeN; rw [h]; exact ⟨rfl, rfl⟩
theorem rtake_some_of {xs : List UInt8} {t k : Nat} (h : takeG 0 0 xs = some (t, k)) {w : World} : RTakeNumPost xs w (.returned (.tuple #[.int .i64 (unzig t), .int .i64 (k : Nat)])) w := by
  unfold RTakeNumPost takeN; rw [h]; exact ⟨rfl, rfl⟩

set_option maxRecDepth 100000 in
set_option maxHeartbeats 2000000 in
theorem rtakeNum_any (v : Value) (xs : List UInt8) (w : World) (h : Bytes w v xs) :
    Calls Tryz.prog 93 #[v] w (RTakeNumPost xs w) := by
  rcases h.parts with ⟨a, rfl, rfl⟩ | ⟨b, off, cap, rfl, hl, hc, hb, hcell⟩
  · go_enter Tryz.func93, Tryz.ntmps93
    go_wp2
    go_loop [6] (fun i => i = .int .i64 0) (fun _ => 0)
    case atStart => exact rfl
    case round =>
      subst hrel
      go_wp2
      go_ret2
      exact rtake_none_of rfl
  · clear hb h
    unfold maxLen at hc
    obtain ⟨len, hlen⟩ : ∃ len, len = xs.length := ⟨_, rfl⟩
    rw [← hlen] at hl hcell ⊢
    have HL := Lib.hid hlen; clear hlen
    go_enter Tryz.func93, Tryz.ntmps93
    go_wp2
    go_loop [4, 5, 6] (fun u wo i => ∃ (k t : Nat) (wv : Int), k ≤ len ∧ k ≤ 10 ∧ Hid (k ≤ 9 → wv = ((128 ^ k : Nat) : Int)) ∧ Hid (t < 128 ^ k) ∧ Hid (takeG 0 0 xs = takeG k t (xs.drop k)) ∧ i = .int .i64 k ∧ u = .int .u64 t ∧ wo = .int .u64 wv) (fun _ _ i => 10 - (intOf i).toNat)
    case atStart => exact ⟨0, 0, 1, by omega, by omega, by simp [Hid], by simp [Hid], by simp [Hid], rfl, rfl, rfl⟩
    case round =>
      obtain ⟨k, t, wv, hk, hk10, HW, HTT, HT, rfl, rfl, rfl⟩ := hrel
      by_cases hlt : k < len ∧ k < 10
      · obtain ⟨hlt, hl10⟩ := hlt
        have hck := hcell k hlt
        clear hcell
        obtain ⟨x, hx⟩ : ∃ x : UInt8, x = xs[k]?.getD 0 := ⟨_, rfl⟩
        rw [← hx] at hck
        unfold bv at hck
        have hxl : (x.toNat : Int) ≤ 255 := by have := x.toNat_lt; omega
        have hp : x.toNat % 128 < 128 := Nat.mod_lt _ (by omega)
        have hpe' : (x.toNat : Int) % 128 = ((x.toNat % 128 : Nat) : Int) := by omega
        obtain ⟨p, hpe⟩ : ∃ p, p = x.toNat % 128 := ⟨_, rfl⟩
        rw [← hpe] at hpe' hp
        have hat := takeG_at (t := t) (p := p) (k := k) (by rw [← HL.out]; omega) hx hpe
        have hpl : x.toNat < 128 → p = x.toNat := fun h => by omega
        rw [if_neg (by omega)] at hat
        clear hx hpe
        by_cases h9 : k = 9 ∧ 1 < p
        · have HF := Lib.hid (HT.out.trans (by rw [hat, if_pos (.inl h9)])); clear hat hpl
          have h9' : ((k : Int) == 9) = true := by simp; omega
          have h1' : (1 : Int) < p := by omega
          clear h9
          go_wp2
          all_goals (go_ret2; exact rtake_none_of HF.out)
        · obtain ⟨-, h64, h128⟩ := or_step t p k HTT.out hp (by omega)
          have hpw : (p : Int) * wv = ((p * 128 ^ k : Nat) : Int) := by rw [HW.out (by omega)]; simp
          obtain ⟨t', ht'⟩ : ∃ t', t' = t + p * 128 ^ k := ⟨_, rfl⟩
          rw [← ht'] at h64 h128 hat
          have hs1 : (t : Int) + (p : Int) * wv = (t' : Int) := by rw [hpw, ht']; simp
          have hs2 : 0 ≤ (p : Int) * wv := by rw [hpw]; omega
          have hs3 : (p : Int) * wv ≤ 18446744073709551615 := by rw [hpw]; omega
          have hs4 : (t : Int) + (p : Int) * wv ≤ 18446744073709551615 := by rw [hs1]; omega
          have hw9 : ∀ q, q = IntKind.u64.wrap (wv * 128) → k + 1 ≤ 9 → q = ((128 ^ (k + 1) : Nat) : Int) := by
            intro q hq hk9
            rw [HW.out (by omega)] at hq
            have h9 : 128 ^ (k + 1) ≤ 128 ^ 9 := Nat.pow_le_pow_right (by omega) hk9
            have e9 : (128 : Nat) ^ 9 = 9223372036854775808 := by decide
            have e10 : ((128 ^ k : Nat) : Int) * 128 = ((128 ^ (k + 1) : Nat) : Int) := by rw [Nat.pow_succ]; simp
            rw [hq, e10, IntKind.wrap_u64]
            rw [e9] at h9
            generalize 128 ^ (k + 1) = g at *
            omega
          have HW9 := Lib.hid hw9; clear hw9
          have HS := Lib.hid h128; clear h128
          have hcases : ((((k : Int) == 9) = true) ∧ ¬ (1 : Int) < p) ∨ (((k : Int) == 9) = false) := by
            by_cases h : k = 9
            · exact .inl ⟨by simp; omega, by omega⟩
            · exact .inr (by simp; omega)
          clear hpw ht' h64
          by_cases hx1 : x.toNat < 128
          · have hx1' : ¬ (128 : Int) ≤ x.toNat := by omega
            have hpx := hpl hx1
            by_cases hp0 : p = 0 ∧ 0 < k
            · have HF := Lib.hid (HT.out.trans (by rw [hat, if_pos (.inr ⟨by omega, hp0.2⟩)])); clear hat hpl hpx hx1 hs1
              have hp0' : ((p : Int) == 0) = true := by simp; omega
              have hk0 : (0 : Int) < k := by omega
              clear hp0 h9
              rcases hcases with ⟨q1, q2⟩ | q1
              all_goals
                go_wp2
                go_ret2
                exact rtake_none_of HF.out
            · have HF := Lib.hid (HT.out.trans (by rw [hat, if_neg (by omega), if_pos hx1])); clear hat hpl hpx hx1
              have hcases2 : ((((p : Int) == 0) = true) ∧ ¬ (0 : Int) < k) ∨ (((p : Int) == 0) = false) := by
                by_cases h : p = 0
                · exact .inl ⟨by simp; omega, by omega⟩
                · exact .inr (by simp; omega)
              have hr : Hid (k < 10) := hl10
              obtain ⟨s, hs⟩ : ∃ s, s = (t : Int) + (p : Int) * wv := ⟨_, rfl⟩
              rw [← hs] at hs1 hs4
              have hs0 : 0 ≤ s := by omega
              have hu1 : t' % 2 = 0 → s / 2 = unzig t' := by intro h; unfold unzig; rw [if_pos h]; omega
              have hu2 : t' % 2 ≠ 0 → -(s / 2) - 1 = unzig t' := by intro h; unfold unzig; rw [if_neg h]; omega
              have hse : s = (t : Int) + (p : Int) * wv := hs
              have HU1 := Lib.hid hu1; clear hu1
              have HU2 := Lib.hid hu2; clear hu2
              have hsw : (t : Int) + (p : Int) * wv = s := hs.symm
              clear hs hse hp0 h9
              by_cases hpar : t' % 2 = 0
              · have hm2 : (s % 2 == 0) = true := by simp; omega
                have HU := Lib.hid (HU1.out hpar)
                clear hs1 hpar
                rcases hcases with ⟨q1, q2⟩ | q1
                all_goals rcases hcases2 with ⟨q3, q4⟩ | q3
                all_goals
                  go_wp2
                  go_ret2
                  have hF := rtake_some_of (w := w) HF.out
                  rw [← HU.out, show ((k + 1 : Nat) : Int) = (k : Int) + 1 from rfl] at hF
                  exact hF
              · have hm2 : (s % 2 == 0) = false := by simp; omega
                have HU := Lib.hid (HU2.out hpar)
                clear hs1 hpar
                rcases hcases with ⟨q1, q2⟩ | q1
                all_goals rcases hcases2 with ⟨q3, q4⟩ | q3
                all_goals
                  go_wp2
                  go_ret2
                  have hF := rtake_some_of (w := w) HF.out
                  rw [← HU.out, show ((k + 1 : Nat) : Int) = (k : Int) + 1 from rfl] at hF
                  exact hF
          · have hx1' : (128 : Int) ≤ x.toNat := by omega
            have HF := Lib.hid (HT.out.trans (by rw [hat, if_neg (by omega), if_neg hx1])); clear hat hpl hx1 h9
            have HS1 := Lib.hid hs1; clear hs1
            rcases hcases with ⟨q1, q2⟩ | q1
            all_goals
              go_wp2
              go_round
              case rel => exact ⟨k + 1, t', _, by omega, by omega, fun h => HW9.out _ rfl h, HS, HF, by go_num, by rw [HS1.out], rfl⟩
              case measure => simp [intOf]; omega
      · clear hcell
        have HF := Lib.hid (HT.out.trans (takeG_end (by have := HL.out; omega)))
        by_cases hlt2 : k < len
        · have h10' : ¬ (k : Int) < 10 := by omega
          clear hlt
          go_wp2
          go_ret2
          exact rtake_none_of HF.out
        · clear hlt
          go_wp2
          go_ret2
          exact rtake_none_of HF.out

theorem str_add {P : Program} (a b : List UInt8) (h : a.length + b.length ≤ 9223372036854775807) (w : World) : (Op.stringOp .add (str a) (str b)).run P w = .ok (.string (str (a ++ b))) w := by
  have h' : ¬ (str a).size + (str b).size > 9223372036854775807 := by rw [str_size, str_size]; omega
  rw [run_string_add_if, if_neg h']
  unfold str; rw [ByteArray.mk_append_mk]

theorem slice_lh (a : Option Addr) (len cap : Nat) (l h : Int) (h0 : 0 ≤ l) (h1 : l ≤ h) (h2 : h ≤ cap) (w : World) :
    (Instr.slice 27 (.slice a len cap) (some (.int .i64 l)) (some (.int .i64 h)) none).run Tryz.prog w = .ok (takeV (dropV (.slice a len cap) l.toNat) (h.toNat - l.toNat)) w := by
  have hs : (sizeOf (Tryz.prog.elem 27)).run Tryz.prog w = .ok 1 w := by kernel_rfl
  rw [run_slice_lh (ht := by kernel_rfl) (h0 := h0) (h1 := h1) (h2 := h2), hs]
  simp [Result.andThen, sliced, dropV, takeV]

def RTakeTextPost (xs : List UInt8) (top : Int) (w : World) (e : Ending) (w' : World) : Prop :=
  (match takeT xs top with
  | some (k, n) => e = .returned (.tuple #[.string (str ((xs.drop k).take n)), .int .i64 ((k + n : Nat) : Int), .bool true])
  | none => e = .returned (.tuple #[.string (str []), .int .i64 0, .bool false])) ∧ w = w'
theorem rtext_none_of {xs : List UInt8} {top : Int} (h : takeT xs top = none) {w : World} : RTakeTextPost xs top w (.returned (.tuple #[.string (str []), .int .i64 0, .bool false])) w := by
  unfold RTakeTextPost; rw [h]; exact ⟨rfl, rfl⟩
theorem rtext_some_of {xs : List UInt8} {top : Int} {k n : Nat} (h : takeT xs top = some (k, n)) {w : World} :
    RTakeTextPost xs top w (.returned (.tuple #[.string (str ((xs.drop k).take n)), .int .i64 ((k + n : Nat) : Int), .bool true])) w := by
  unfold RTakeTextPost; rw [h]; exact ⟨rfl, rfl⟩

set_option maxHeartbeats 400000 in
theorem rtakeText_any (v : Value) (xs : List UInt8) (top : Int) (ht : isI64 top) (w : World) (h : Bytes w v xs) :
    Calls Tryz.prog 94 #[v, .int .i64 top] w (RTakeTextPost xs top w) := by
  obtain ⟨ht1, ht2⟩ := ht
  obtain ⟨a2, c2, hv, hc1, hc2, _, _⟩ := id h
  unfold maxLen at hc2
  obtain ⟨m, hm⟩ : ∃ m, m = xs.length := ⟨_, rfl⟩
  have HB := Lib.hid h; clear h
  rw [← hm] at hv hc1
  have hlv : ∀ w', (Builtin.len_ #[27] 3 #[v]).run Tryz.prog w' = .ok (.int .i64 (m : Nat)) w' := by subst hv; intro w'; kernel_rfl
  have HV := Lib.hid hv; clear hv
  have HM := Lib.hid hm; clear hm
  go_enter Tryz.func94, Tryz.ntmps94
  go_wp2_with fail
  refine (rtakeNum_any v xs w HB.out).mono ?_
  rintro e w1 ⟨hp, rfl⟩
  cases hn : takeN xs with
  | none =>
    rw [hn] at hp
    subst hp
    have HF := Lib.hid (takeT_none hn top); clear hn
    go_wp2
    go_ret3
    exact rtext_none_of HF.out
  | some p =>
    obtain ⟨n, k⟩ := p
    rw [hn] at hp
    simp only at hp
    subst hp
    obtain ⟨hn64, hk0, hk10, hkl, _, _⟩ := takeN_inv hn
    obtain ⟨hn1, hn2⟩ := hn64
    rw [← HM.out] at hkl
    have hk0' : ((k : Int) == 0) = false := by simp; omega
    by_cases hbad : n < 0 ∨ top < n ∨ ((xs.length - k : Nat) : Int) < n
    · have HF := Lib.hid (takeT_bad hn hbad); clear hn
      rw [← HM.out] at hbad
      by_cases b1 : n < 0
      · clear hbad
        go_wp2
        go_ret3
        exact rtext_none_of HF.out
      · by_cases b2 : top < n
        · clear hbad
          go_wp2
          go_ret3
          exact rtext_none_of HF.out
        · have b3 : (m : Int) - k < n := by omega
          clear hbad
          go_wp2
          go_ret3
          exact rtext_none_of HF.out
    · have HF := Lib.hid (takeT_some hn hbad); clear hn
      rw [← HM.out] at hbad
      have b1 : ¬ n < 0 := by omega
      have b2 : ¬ top < n := by omega
      have b3 : ¬ (m : Int) - k < n := by omega
      clear hbad
      go_wp2
      go_loop [9, 10] (fun s i => ∃ j : Nat, (j : Int) ≤ n ∧ i = .int .i64 ((k : Int) + j) ∧ s = .string (str ((xs.drop k).take j))) (fun _ i => (k + n - intOf i).toNat)
      case atStart => exact ⟨0, by omega, by simp, by simp [str]⟩
      case round =>
        obtain ⟨j, hj, rfl, rfl⟩ := hrel
        by_cases hlt : (j : Int) < n
        · have hs1 := slice_lh a2 m c2 ((k : Int) + j) ((k : Int) + j + 1) (by omega) (by omega) (by omega)
          rw [← HV.out, show ((k : Int) + j).toNat = k + j by omega, show ((k : Int) + j + 1).toNat - (k + j) = 1 by omega] at hs1
          have hbt := (HB.out.drop (k := k + j) (by rw [← HM.out]; omega)).take (k := 1) (by simp; have := HM.out; omega)
          have hcv := conv_bytes (P := Tryz.prog) (src := 27) (dst := 9) (e := 5) Tryz.underlying27 Tryz.underlying5 Tryz.underlying9 hbt
          obtain ⟨x, hx⟩ : ∃ x, x = ((xs.drop (k + j)).take 1) := ⟨_, rfl⟩
          rw [← hx] at hcv
          obtain ⟨pre, hpre⟩ : ∃ pre, pre = (xs.drop k).take j := ⟨_, rfl⟩
          rw [← hpre]
          have hxl : x.length ≤ 1 := by rw [hx]; simp; omega
          have hpl : pre.length ≤ j := by rw [hpre]; simp; omega
          have hadd := str_add (P := Tryz.prog) pre x (by omega)
          have HREL : Hid ((xs.drop k).take (j + 1) = pre ++ x) := by
            show _ = _
            rw [hpre, hx, List.take_add, List.drop_drop]
          clear hx hpre hbt hxl hpl
          go_wp2
          go_round
          case rel => exact ⟨j + 1, by omega, by go_num, by rw [HREL.out]⟩
          case measure => simp [intOf]; omega
        · have hge : n ≤ (j : Int) := by omega
          have hF := rtext_some_of (w := w) HF.out
          rw [show n.toNat = j by omega, show ((k + j : Nat) : Int) = (k : Int) + n by omega] at hF
          have HF2 := Lib.hid hF; clear hF
          clear hlt
          go_wp2
          go_ret3
          exact HF2.out
end Go.Proofs.YtdienbcjfljjnaaGreatDoor
