/- Walks: op.ID, of, either, Same. -/
import Derived.Test.YtdienbcjfljjnaaDoorOpI
import Derived.Test.YtdienbcjfljjnaaDoorVaA
import Derived.Test.YtdienbcjfljjnaaDoorFragE
import Derived.Test.YtdienbcjfljjnaaDoorFragG
import Derived.Shelf.GgClosureLib.Lays
import Derived.Lib.LaidTab
import Derived.ChangeBears2
import Derived.Deep.Cut
namespace Go.Proofs
open Go.Shelf
def Tryd.lays17_ren : Go.Shelf.Ren := ⟨fun | 17 => 59 | 15 => 88 | 20 => 107 | n => n, fun | 9 => 9 | 23 => 98 | 4 => 4 | 3 => 3 | 0 => 0 | 21 => 21 | n => n, fun | n => n⟩
theorem Tryd.lays17 : Go.Proofs.LaysGw.n17 Tryd.prog Tryd.lays17_ren := {
  mixed := by kernel_rfl
  f15 := Tryd.func88.trans (congrArg some (by kernel_rfl))
  f17 := Tryd.func59.trans (congrArg some (by kernel_rfl))
  f20 := Tryd.func107.trans (congrArg some (by kernel_rfl))
  t0 := Tryd.underlying0
  a0 := Tryd.isAgg0
  z0 := Tryd.sizeOf0
  v0 := Tryd.zeroValue0
  i0 := by kernel_rfl
  t3 := Tryd.underlying3
  a3 := Tryd.isAgg3
  z3 := Tryd.sizeOf3
  v3 := Tryd.zeroValue3
  i3 := by kernel_rfl
  t4 := Tryd.underlying4
  a4 := Tryd.isAgg4
  z4 := Tryd.sizeOf4
  v4 := Tryd.zeroValue4
  i4 := by kernel_rfl
  t9 := Tryd.underlying9
  a9 := Tryd.isAgg9
  z9 := Tryd.sizeOf9
  v9 := Tryd.zeroValue9
  i9 := by kernel_rfl
  t21 := Tryd.underlying21
  a21 := Tryd.isAgg21
  z21 := Tryd.sizeOf21
  v21 := Tryd.zeroValue21
  i21 := by kernel_rfl
  t23 := Tryd.underlying98
  a23 := Tryd.isAgg98
  z23 := Tryd.sizeOf98
  v23 := Tryd.zeroValue98
  i23 := by kernel_rfl }
end Go.Proofs
open Go.RowKit Go.Shelf
namespace Go.Proofs.YtdienbcjfljjnaaDoor
open Go Go.Proofs Fm

theorem notC_pred (w : World) : PredAt Tryd.prog 58 #[] encR notC w := fun W r _ => by
  unfold FnGives
  by_cases h1 : r < 33 <;> by_cases h2 : 126 < r
  all_goals
    have z1 : (r : Int) < 33 ↔ r < 33 := by omega
    have z2 : (126 : Int) < (r : Int) ↔ 126 < r := by omega
    go_enter Tryd.func58, Tryd.ntmps58
    go_wp2
    all_goals first | (exfalso; omega) | (go_ret; exact ⟨by simp [notC, h1, h2], 0, rfl⟩)
theorem has_notC (s : List UInt8) (w : World) :
    Calls Tryd.prog 59 #[.string (str s), .func (.func 58) #[] #[]] w fun e w' => e = .returned (.bool (!(s.all idC))) ∧ Ext w w' := by
  have hC := Any.strings_ContainsFunc Tryd.lays17 58 #[] (enters_of Tryd.func58 (by kernel_rfl) rfl) notC (str s) w (notC_pred w)
  rw [idx_id] at hC
  exact hC

set_option maxHeartbeats 1000000 in
theorem opID_any (s : List UInt8) (hs : s.length ≤ 9223372036854775807) (w : World) :
    Calls Tryd.prog 26 #[.string (str s)] w fun e w' => e = .returned (.bool (idB s)) ∧ Ext w w' := by
  have hss := str_size s
  by_cases h1 : 1 ≤ s.length
  case neg =>
    have HX := Lib.hid (idB_short h1)
    have h1' : ¬ (1 : Int) ≤ (s.length : Int) := by omega
    go_enter Tryd.func26, Tryd.ntmps26
    go_wp2
    go_ret
    exact ⟨by rw [HX.out]; rfl, Ext.refl w⟩
  have h1' : (1 : Int) ≤ (s.length : Int) := by omega
  by_cases h2 : s.length ≤ 400
  case neg =>
    have HX := Lib.hid (idB_long h2)
    have h2' : ¬ (s.length : Int) ≤ 400 := by omega
    go_enter Tryd.func26, Tryd.ntmps26
    go_wp2
    go_ret
    exact ⟨by rw [HX.out]; rfl, Ext.refl w⟩
  have h2' : (s.length : Int) ≤ 400 := by omega
  have HX := Lib.hid (idB_all h1 h2)
  go_enter Tryd.func26, Tryd.ntmps26
  go_wp2_with fail
  refine (has_notC s w).mono ?_
  rintro e w1 ⟨rfl, hE⟩
  cases ha : s.all idC with
  | true =>
    have HA := Lib.hid ha
    clear ha
    go_wp2
    go_ret
    exact ⟨by rw [HX.out, HA.out]; rfl, hE⟩
  | false =>
    have HA := Lib.hid ha
    clear ha
    go_wp2
    go_ret
    exact ⟨by rw [HX.out, HA.out]; rfl, hE⟩

/-- The table of the kinds is as the program's text lays it. -/
def KTab (w : World) : Prop := Lib.TabIs Tryd.prog w "foreman/op.kinds" .u8 [0, 3, 4, 29, 12, 4]
theorem KTab.is {w : World} (h : KTab w) : ∃ o, w.heap[0]? = some o ∧ w.var? Tryd.prog "foreman/op.kinds" = some #[.int .u8 0, .int .u8 3, .int .u8 4, .int .u8 29, .int .u8 12, .int .u8 4] := by
  have hg : Tryd.prog.globalNamed "foreman/op.kinds" = some 0 := by kernel_rfl
  have h' : w.var? Tryd.prog "foreman/op.kinds" = some #[.int .u8 0, .int .u8 3, .int .u8 4, .int .u8 29, .int .u8 12, .int .u8 4] := h
  cases hh : w.heap[0]? with
  | none =>
    unfold World.var? at h'
    rw [hg, Option.bind_some, hh] at h'
    cases h'
  | some o => exact ⟨o, rfl, h'⟩
theorem KTab.ext {w w' : World} (h : KTab w) (hE : Ext w w') : KTab w' := by
  obtain ⟨o, ho, hv⟩ := h.is
  have hg : Tryd.prog.globalNamed "foreman/op.kinds" = some 0 := by kernel_rfl
  have hlt : 0 < w.heap.size := (Array.getElem?_eq_some_iff.1 ho).1
  show w'.var? Tryd.prog "foreman/op.kinds" = _
  unfold World.var? at hv ⊢
  rw [hg, Option.bind_some] at hv ⊢
  rw [hE.block _ hlt]
  exact hv
theorem KTab.cells {w : World} (h : KTab w) : w.cell? ⟨0, 0, none⟩ = some (.int .u8 0) ∧ w.cell? ⟨0, 1, none⟩ = some (.int .u8 3) ∧ w.cell? ⟨0, 2, none⟩ = some (.int .u8 4) ∧ w.cell? ⟨0, 3, none⟩ = some (.int .u8 29) ∧ w.cell? ⟨0, 4, none⟩ = some (.int .u8 12) ∧ w.cell? ⟨0, 5, none⟩ = some (.int .u8 4) := by
  obtain ⟨o, ho, hv⟩ := h.is
  have hg : Tryd.prog.globalNamed "foreman/op.kinds" = some 0 := by kernel_rfl
  refine ⟨?_, ?_, ?_, ?_, ?_, ?_⟩ <;> exact (var?_cell hg hv _)

theorem of_any (k : UInt8) (w : World) (hT : KTab w) :
    Calls Tryd.prog 51 #[.int .u8 (k.toNat : Int)] w fun e w' => e = .returned (.int .u8 (oN k)) ∧ w = w' := by
  by_cases h : 6 ≤ k.toNat
  · have HX := Lib.hid (oN_big h)
    have h6 : (6 : Int) ≤ (k.toNat : Int) := by omega
    have hk := k.toNat_lt
    go_enter Tryd.func51, Tryd.ntmps51
    go_wp2
    go_ret
    exact ⟨by rw [HX.out]; rfl, rfl⟩
  · obtain ⟨c0, c1, c2, c3, c4, c5⟩ := hT.cells
    rcases (by omega : k.toNat = 0 ∨ k.toNat = 1 ∨ k.toNat = 2 ∨ k.toNat = 3 ∨ k.toNat = 4 ∨ k.toNat = 5) with h0 | h0 | h0 | h0 | h0 | h0
    all_goals
      have HX := Lib.hid h0
      rw [h0]
      clear h h0
      go_enter Tryd.func51, Tryd.ntmps51
      go_wp2
      go_ret
      exact ⟨by rw [u8_is (by decide) HX.out]; rfl, rfl⟩

theorem either_any (a b c : Bool) (w : World) :
    Calls Tryd.prog 55 #[.bool a, .bool b, .bool c] w fun e w' => e = .returned (.bool (bif a then b else c)) ∧ w = w' := by
  cases a with
  | true =>
    go_enter Tryd.func55, Tryd.ntmps55
    go_wp2
    go_ret
    exact ⟨rfl, rfl⟩
  | false =>
    go_enter Tryd.func55, Tryd.ntmps55
    go_wp2
    go_ret
    exact ⟨rfl, rfl⟩

set_option maxRecDepth 100000 in
set_option maxHeartbeats 8000000 in
theorem opSame_any (o p : Opn) (w : World) (v x : Value) (hv : OpV w o v) (hx : OpV w p x) :
    Calls Tryd.prog 25 #[v, x] w fun e w' => e = .returned (.bool (eqO o p)) ∧ Ext w w' := by
  obtain ⟨k, n, s, d, a, m, c, rfl, hl, hr, hi, ht, hq⟩ := hv
  obtain ⟨k', n', s', d', a', m', c', rfl, hl', hr', hi', ht', hq'⟩ := hx
  obtain ⟨K, hK⟩ : ∃ K : Int, K = (o.what.toNat : Int) := ⟨_, rfl⟩
  obtain ⟨K', hK'⟩ : ∃ K' : Int, K' = (p.what.toNat : Int) := ⟨_, rfl⟩
  have hX : eqO o p = ((K == K') && ((str o.id).toList == (str p.id).toList) && (o.tok == p.tok) && (o.quo == p.quo) && eqT o.val p.val && eqF o.frg p.frg) := by
    have e1 : (o.tok == p.tok) = decide (o.tok = p.tok) := by rw [Bool.eq_iff_iff]; simp
    have e2 : (o.quo == p.quo) = decide (o.quo = p.quo) := by rw [Bool.eq_iff_iff]; simp
    rw [eqO_all, hK, hK', u8_eq, str_beq, e1, e2]
  rw [← hK, ← hK']
  have HL := Lib.hid hl
  have HR := Lib.hid hr
  have HL' := Lib.hid hl'
  have HR' := Lib.hid hr'
  clear hl hr hl' hr' hK hK' hi hi' ht ht' hq hq'
  obtain ⟨I, hI⟩ : ∃ I, I = str o.id := ⟨_, rfl⟩
  obtain ⟨I', hI'⟩ : ∃ I', I' = str p.id := ⟨_, rfl⟩
  obtain ⟨T, hT⟩ : ∃ T, T = o.tok := ⟨_, rfl⟩
  obtain ⟨T', hT'⟩ : ∃ T', T' = p.tok := ⟨_, rfl⟩
  obtain ⟨Q, hQ⟩ : ∃ Q, Q = o.quo := ⟨_, rfl⟩
  obtain ⟨Q', hQ'⟩ : ∃ Q', Q' = p.quo := ⟨_, rfl⟩
  rw [← hI, ← hI', ← hT, ← hT', ← hQ, ← hQ'] at hX ⊢
  have HX := Lib.hid hX
  clear hX hI hI' hT hT' hQ hQ'
  have h1 := (BoxL.new w [.int .u8 K, .string I, .int .i64 T, k, n, s, d, .slice a m c, .int .i64 Q] 52).ext ((Ext.refl _).alloc (.cells #[.int .u8 K', .string I', .int .i64 T', k', n', s', d', .slice a' m' c', .int .i64 Q'] 52))
  have h2 := BoxL.new (w.alloc (.cells #[.int .u8 K, .string I, .int .i64 T, k, n, s, d, .slice a m c, .int .i64 Q] 52)) [.int .u8 K', .string I', .int .i64 T', k', n', s', d', .slice a' m' c', .int .i64 Q'] 52
  have hz : (w.alloc (.cells #[.int .u8 K, .string I, .int .i64 T, k, n, s, d, .slice a m c, .int .i64 Q] 52)).heap.size = w.heap.size + 1 := by simp
  rw [hz] at h2
  have hE := ((Ext.refl w).alloc (.cells #[.int .u8 K, .string I, .int .i64 T, k, n, s, d, .slice a m c, .int .i64 Q] 52)).alloc (.cells #[.int .u8 K', .string I', .int .i64 T', k', n', s', d', .slice a' m' c', .int .i64 Q'] 52)
  clear hz
  go_enter Tryd.func25, Tryd.ntmps25
  go_upto_region 1 with (fail)
  have H1 := Lib.hid h1
  have H2 := Lib.hid h2
  have HE := Lib.hid hE
  clear h1 h2 hE
  generalize (w.alloc _).alloc _ = W1 at *
  have ⟨p0, p1, p2, p3, p4, p5, p6, p7, p8⟩ := H1.out.nine
  have ⟨q0, q1, q2, q3, q4, q5, q6, q7, q8⟩ := H2.out.nine
  cases b1 : (K == K') with
  | false =>
    have HB := Lib.hid (by rw [HX.out, b1]; rfl : eqO o p = false)
    go_wp2
    go_ret
    exact ⟨by rw [HB.out]; rfl, HE.out⟩
  | true =>
  cases b2 : (I.toList == I'.toList) with
  | false =>
    have HB := Lib.hid (by rw [HX.out, b1, b2]; rfl : eqO o p = false)
    go_wp2
    go_ret
    exact ⟨by rw [HB.out]; rfl, HE.out⟩
  | true =>
  cases b3 : (T == T') with
  | false =>
    have HB := Lib.hid (by rw [HX.out, b1, b2, b3]; rfl : eqO o p = false)
    go_wp2
    go_ret
    exact ⟨by rw [HB.out]; rfl, HE.out⟩
  | true =>
  cases b4 : (Q == Q') with
  | false =>
    have HB := Lib.hid (by rw [HX.out, b1, b2, b3, b4]; rfl : eqO o p = false)
    go_wp2
    go_ret
    exact ⟨by rw [HB.out]; rfl, HE.out⟩
  | true =>
    have HB : Hid (eqO o p = (eqT o.val p.val && eqF o.frg p.frg)) := Lib.hid (by rw [HX.out, b1, b2, b3, b4]; rfl)
    clear HX
    go_wp2_with fail
    refine (vsame_any o.val p.val W1 _ _ (HL.out.ext HE.out) (HL'.out.ext HE.out)).mono ?_
    rintro e w2 ⟨rfl, hE2⟩
    have H12 := Lib.hid (H1.out.ext hE2)
    have H22 := Lib.hid (H2.out.ext hE2)
    have HE2 := Lib.hid (HE.out.trans hE2)
    clear hE2 p0 p1 p2 p3 p4 p5 p6 p7 p8 q0 q1 q2 q3 q4 q5 q6 q7 q8
    cases b5 : eqT o.val p.val with
    | false =>
      have HB2 := Lib.hid (by rw [HB.out, b5]; rfl : eqO o p = false)
      clear b5
      go_wp2
      go_ret
      exact ⟨by rw [HB2.out]; rfl, HE2.out⟩
    | true =>
      have HB2 := Lib.hid (by rw [HB.out, b5]; rfl : eqO o p = eqF o.frg p.frg)
      clear b5
      have ⟨p0, p1, p2, p3, p4, p5, p6, p7, p8⟩ := H12.out.nine
      have ⟨q0, q1, q2, q3, q4, q5, q6, q7, q8⟩ := H22.out.nine
      go_wp2_with fail
      refine (fSame_any o.frg p.frg w2 _ _ (HR.out.ext HE2.out) (HR'.out.ext HE2.out)).mono ?_
      rintro e w3 ⟨rfl, hE3⟩
      have HE3 := Lib.hid (HE2.out.trans hE3)
      clear hE3
      go_wp2
      go_ret
      exact ⟨by rw [HB2.out]; rfl, HE3.out⟩
end Go.Proofs.YtdienbcjfljjnaaDoor
