/- Walks of package ident: Parse. -/
import Derived.Test.YtpcgpcjleedilaaDoorFrgA
import Derived.Shelf.Strings.Builder1
import Derived.Shelf.LaysM
import Derived.Shelf.Strconv.Itoa4
import Derived.Test.YtpcgpcjleedilaaDoorProg
import Derived.WalkLawsBesides
import Derived.Deep.RegionWith
import Derived.Deep.RegionLaw
import Derived.Defers
import Derived.Recover
import Derived.Lib.ConvBytes
import Derived.Laws.BitsLemmas
import Derived.Shelf.LaysC
import Derived.Shelf.Strconv.AtoiAll
import Derived.Shelf.Strings.Search3
import Derived.Shelf.Small.Wraps
import Derived.BigQuiet
import Derived.IntWalk
import Derived.Deep.QuietTactic
import Derived.RangeFuncNested
import Derived.RangeFuncBound
import Derived.RangeFuncCalls
import Derived.RangeFuncLeaves
import Derived.OwnWalkIn
import Derived.TacticsInMore
import Derived.LoopNIn
import Derived.LoopIn
import Derived.Maps.AppendAt
import Derived.Shelf.Abstract
open Go.RowKit Go.Shelf
namespace Go.Proofs.YtpcgpcjleedilaaDoor
open Go Go.Proofs Fm

set_option maxRecDepth 100000 in
set_option maxHeartbeats 1000000 in
theorem indexSp_inv (l : List Stp) (f : FuncId) (eg : ∀ args w, (callFunc f args).run Tryd.prog w = .ok (.enter f args) w) (caps : Array Value) (q : Nat → Bool) (J : Nat → World → Prop) (w : World) (v : Value) (h : stpE.Row w l v) (hJ : ∀ i w', J i w' → Ext w w') (h0 : J 0 w)
    (hf : ∀ i (hi : i < l.length) w', J i w' → (∀ j, j < i → q j = false) → stpWf l[i] → Calls Tryd.prog f (#[.agg #[.string (str l[i].name), .int .i64 l[i].place]] ++ caps) w' fun e w'' => e = .returned (.bool (q i)) ∧ J (i + 1) w'') :
    Calls Tryd.prog 53 #[v, .func (.func f) #[] caps] w (IdxPost l.length q J) := by
  obtain ⟨a, c, rfl, hlc, hcm⟩ := h.slice
  have HR := Lib.hid h
  have HF := Lib.hid hf
  have HJ := Lib.hid hJ
  have hlm : l.length ≤ 9223372036854775807 := by omega
  clear h hf hJ
  go_enter Tryd.func53, Tryd.ntmps53
  go_wp2_with fail
  go_loopw [8] (fun i wr => ∃ j : Nat, j ≤ l.length ∧ i = .int .i64 j ∧ Hid (J j wr) ∧ Hid (∀ k, k < j → q k = false)) (fun i _ => l.length - (intOf i).toNat)
  case atStart => exact ⟨0, by omega, rfl, Lib.hid h0, Lib.hid (fun k hk => by omega)⟩
  case round =>
    clear h0
    obtain ⟨j, hj, rfl, HJj, HQ⟩ := hrel
    by_cases hlt : j < l.length
    · obtain ⟨b, off, rfl, hb, c0, c1, hs⟩ := stp_at HR.out (HJ.out _ _ HJj.out) j hlt
      have HS := Lib.hid hs
      clear hs
      go_wp2_with fail
      refine (HF.out j hlt wr HJj.out HQ.out HS.out).mono ?_
      rintro e w1 ⟨rfl, hJ1⟩
      have HJ1 := Lib.hid hJ1
      clear hJ1 c0 c1
      cases hq : q j with
      | true =>
        have HX : Hid (IdxPost l.length q J (.returned (.int .i64 (j : Int))) w1) := Lib.hid (.inl ⟨j, hlt, hq, HQ.out, rfl, HJ1.out⟩)
        clear hq
        go_wp2
        go_ret
        exact HX.out
      | false =>
        have HQ1 : Hid (∀ k, k < j + 1 → q k = false) := Lib.hid (fun k hk => by
          by_cases h : k = j
          · rw [h]; exact hq
          · exact HQ.out k (by omega))
        clear hq
        go_wp2
        go_roundw
        case rel => exact ⟨j + 1, by omega, by go_num, HJ1, HQ1⟩
        case measure => simp [intOf]; omega
    · obtain rfl : j = l.length := by omega
      have HX : Hid (IdxPost l.length q J (.returned (.int .i64 (-1))) wr) := Lib.hid (.inr ⟨HQ.out, rfl, HJj.out⟩)
      go_wp2
      go_ret
      exact HX.out
set_option maxRecDepth 100000 in
set_option maxHeartbeats 1000000 in
theorem hasSp_inv (l : List Stp) (f : FuncId) (eg : ∀ args w, (callFunc f args).run Tryd.prog w = .ok (.enter f args) w) (caps : Array Value) (q : Nat → Bool) (J : Nat → World → Prop) (w : World) (v : Value) (h : stpE.Row w l v) (hJ : ∀ i w', J i w' → Ext w w') (h0 : J 0 w)
    (hf : ∀ i (hi : i < l.length) w', J i w' → (∀ j, j < i → q j = false) → stpWf l[i] → Calls Tryd.prog f (#[.agg #[.string (str l[i].name), .int .i64 l[i].place]] ++ caps) w' fun e w'' => e = .returned (.bool (q i)) ∧ J (i + 1) w'') :
    Calls Tryd.prog 33 #[v, .func (.func f) #[] caps] w (HasPost l.length q J) := by
  have hC := indexSp_inv l f eg caps q J w v h hJ h0 hf
  obtain ⟨a, c, rfl, hlc, hcm⟩ := h.slice
  have HC := Lib.hid hC
  clear h hf hJ hC h0
  go_enter Tryd.func33, Tryd.ntmps33
  go_wp2_with fail
  refine HC.out.mono ?_
  rintro e w1 (⟨i, hi, h1, h2, rfl, h3⟩ | ⟨h1, rfl, h3⟩)
  · have HX : Hid (HasPost l.length q J (.returned (.bool true)) w1) := Lib.hid (.inl ⟨i, hi, h1, h2, rfl, h3⟩)
    clear h1 h2 h3
    have h0 : (0 : Int) ≤ (i : Int) := by omega
    go_wp2
    go_ret
    exact HX.out
  · have HX : Hid (HasPost l.length q J (.returned (.bool false)) w1) := Lib.hid (.inr ⟨h1, rfl, h3⟩)
    clear h1 h3
    go_wp2
    go_ret
    exact HX.out
/-- Where the world only grows. -/
theorem hasSp_any (l : List Stp) (f : FuncId) (eg : ∀ args w, (callFunc f args).run Tryd.prog w = .ok (.enter f args) w) (caps : Array Value) (q : Nat → Bool) (w : World) (v : Value) (h : stpE.Row w l v)
    (hf : ∀ i (hi : i < l.length) w', Ext w w' → stpWf l[i] → Calls Tryd.prog f (#[.agg #[.string (str l[i].name), .int .i64 l[i].place]] ++ caps) w' fun e w'' => e = .returned (.bool (q i)) ∧ Ext w' w'') :
    Calls Tryd.prog 33 #[v, .func (.func f) #[] caps] w fun e w' => ∃ b, e = .returned (.bool b) ∧ (b = true ↔ ∃ i, i < l.length ∧ q i = true) ∧ Ext w w' := by
  refine (hasSp_inv l f eg caps q (fun _ => Ext w) w v h (fun _ _ h => h) (Ext.refl w) (fun i hi w' hE _ hs => (hf i hi w' hE hs).mono fun e w'' ⟨a, b⟩ => ⟨a, hE.trans b⟩)).mono ?_
  rintro e w' (⟨i, hi, h1, h2, rfl, hE⟩ | ⟨h1, rfl, hE⟩)
  · exact ⟨true, rfl, ⟨fun _ => ⟨i, hi, h1⟩, fun _ => rfl⟩, hE⟩
  · exact ⟨false, rfl, ⟨(fun h => by cases h), (fun ⟨i, hi, h⟩ => by rw [h1 i hi] at h; cases h)⟩, hE⟩
end Go.Proofs.YtpcgpcjleedilaaDoor

open Go.RowKit Go.Shelf
namespace Go.Proofs.YtpcgpcjleedilaaDoor
open Go Go.Proofs Fm

theorem idMay_any (n : Int) (w : World) : Calls Tryd.prog 32 #[.int .i64 n] w fun e w' => e = .returned (.bool (mayB n)) ∧ w = w' := by
  have HX := Lib.hid (show mayB n = (decide (0 ≤ n) && decide (n ≤ 999999)) from rfl)
  by_cases h1 : 0 ≤ n
  · have k1 := Lib.hid (decide_eq_true h1)
    by_cases h2 : n ≤ 999999
    · have k2 := Lib.hid (decide_eq_true h2)
      go_enter Tryd.func32, Tryd.ntmps32
      go_wp2
      go_ret
      exact ⟨by rw [HX.out, k1.out, k2.out]; rfl, rfl⟩
    · have k2 := Lib.hid (decide_eq_false h2)
      have h3 : 999999 < n := by omega
      go_enter Tryd.func32, Tryd.ntmps32
      go_wp2
      go_ret
      exact ⟨by rw [HX.out, k1.out, k2.out]; rfl, rfl⟩
  · have k1 := Lib.hid (decide_eq_false h1)
    have h3 : n < 0 := by omega
    go_enter Tryd.func32, Tryd.ntmps32
    go_wp2
    go_ret
    exact ⟨by rw [HX.out, k1.out]; rfl, rfl⟩
set_option maxHeartbeats 1000000 in
theorem idWrong_any (x : Stp) (hx : stpWf x) (w : World) :
    Calls Tryd.prog 30 #[.agg #[.string (str x.name), .int .i64 x.place]] w fun e w' => e = .returned (.bool (!stpB x)) ∧ Ext w w' := by
  have HX := Lib.hid (show stpB x = (nameB x.name && (decide (x.place = -1) || mayB x.place)) from rfl)
  have hn := hx.1
  have HE0 := Lib.hid ((Ext.refl w).alloc (.cells #[.string (str x.name), .int .i64 x.place] 27))
  have hb := BoxL.new w [.string (str x.name), .int .i64 x.place] 27
  go_enter Tryd.func30, Tryd.ntmps30
  go_upto_region 1 with (fail)
  generalize w.alloc (.cells #[.string (str x.name), .int .i64 x.place] 27) = W1 at *
  have p0 := hb.cell 0 _ rfl
  have p1 := hb.cell 1 _ rfl
  have HB := Lib.hid hb
  clear hb
  go_wp2_with fail
  refine (name_any x.name hn W1).mono ?_
  rintro e w1 ⟨rfl, hE⟩
  have HE1 := Lib.hid (HE0.out.trans hE)
  have p0 := (HB.out.ext hE).cell 0 _ rfl
  have p1 := (HB.out.ext hE).cell 1 _ rfl
  clear hE HE0 HB
  cases hq : nameB x.name with
  | false =>
    have HY := Lib.hid (show stpB x = false by rw [HX.out, hq]; rfl)
    clear hq
    go_wp2
    go_ret
    exact ⟨by rw [HY.out]; rfl, HE1.out⟩
  | true =>
  by_cases hp : x.place = -1
  · have HY := Lib.hid (show stpB x = true by rw [HX.out, hq, decide_eq_true hp]; rfl)
    have ht : (x.place != -1) = false := by simp [hp]
    clear hq hp
    go_wp2
    go_ret
    exact ⟨by rw [HY.out]; rfl, HE1.out⟩
  · have HY := Lib.hid (show stpB x = mayB x.place by rw [HX.out, hq, decide_eq_false hp]; rfl)
    have ht : (x.place != -1) = true := by simp [hp]
    clear hq hp
    go_wp2_with fail
    refine (idMay_any x.place w1).mono ?_
    rintro e w2 ⟨rfl, rfl⟩
    go_wp2
    go_ret
    exact ⟨by rw [HY.out]; rfl, HE1.out⟩
theorem hasWrong_any (l : List Stp) (w : World) (v : Value) (h : stpE.Row w l v) :
    Calls Tryd.prog 33 #[v, .func (.func 30) #[] #[]] w fun e w' => e = .returned (.bool (!l.all stpB)) ∧ Ext w w' := by
  refine (hasSp_any l 30 Tryd.call30 #[] (fun i => if h : i < l.length then !stpB l[i] else false) w v h (fun i hi w' hE hs => ?_)).mono ?_
  · simp only [dif_pos hi]
    exact idWrong_any l[i] hs w'
  · rintro e w' ⟨b, rfl, hb, hE⟩
    refine ⟨?_, hE⟩
    congr 2
    rw [Bool.eq_iff_iff, hb, Bool.not_eq_true', ← Bool.not_eq_true, List.all_eq_true]
    constructor
    · rintro ⟨i, hi, hq⟩ h
      simp only [dif_pos hi] at hq
      rw [h _ (List.getElem_mem hi)] at hq
      cases hq
    · intro h
      rw [Classical.not_forall] at h
      obtain ⟨x, h⟩ := h
      rw [Classical.not_imp] at h
      obtain ⟨i, hi, rfl⟩ := List.getElem_of_mem h.1
      refine ⟨i, hi, ?_⟩
      simp only [dif_pos hi]
      simpa using h.2
set_option maxHeartbeats 1000000 in
theorem idRight_any (p : Pth) (w : World) (v : Value) (h : PthV w p v) :
    Calls Tryd.prog 11 #[v] w fun e w' => e = .returned (.bool (pthB p)) ∧ Ext w w' := by
  obtain ⟨a, m, c, rfl, hr, hi⟩ := h
  have HX := Lib.hid (show pthB p = (mayB p.flow && p.steps.all stpB) from rfl)
  have HE0 := Lib.hid ((Ext.refl w).alloc (.cells #[.int .i64 p.flow, .slice a m c] 24))
  have hb := BoxL.new w [.int .i64 p.flow, .slice a m c] 24
  have HR := Lib.hid (hr.ext HE0.out)
  clear hr
  go_enter Tryd.func11, Tryd.ntmps11
  go_wp2_with fail
  generalize w.alloc (.cells #[.int .i64 p.flow, .slice a m c] 24) = W1 at *
  have p0 := hb.cell 0 _ rfl
  have p1 := hb.cell 1 _ rfl
  clear hb
  refine (idMay_any p.flow _).mono ?_
  rintro e w1 ⟨rfl, rfl⟩
  cases hq : mayB p.flow with
  | false =>
    have HY := Lib.hid (show pthB p = false by rw [HX.out, hq]; rfl)
    clear hq
    go_wp2
    go_ret
    exact ⟨by rw [HY.out]; rfl, HE0.out⟩
  | true =>
    have HY := Lib.hid (show pthB p = p.steps.all stpB by rw [HX.out, hq]; rfl)
    clear hq
    go_wp2_with fail
    refine (hasWrong_any p.steps W1 _ HR.out).mono ?_
    rintro e w2 ⟨rfl, hE⟩
    have HE := Lib.hid (HE0.out.trans hE)
    clear hE
    go_wp2
    go_ret
    exact ⟨by rw [HY.out]; simp [go_sem], HE.out⟩
end Go.Proofs.YtpcgpcjleedilaaDoor

namespace Go.Proofs
open Go.Shelf
def Tryd.lays166_ren : Go.Shelf.Ren := ⟨fun | 166 => 27 | 240 => 50 | 276 => 68 | n => n, fun | 0 => 0 | 3 => 3 | 4 => 4 | 9 => 9 | 20 => 20 | 37 => 66 | 70 => 65 | 72 => 68 | 75 => 70 | 164 => 113 | 5 => 5 | 80 => 74 | n => n, fun | n => n⟩
theorem Tryd.lays166 : Go.Proofs.Lays.n166 Tryd.prog Tryd.lays166_ren := {
  mixed := by kernel_rfl
  f166 := Tryd.func27.trans (congrArg some (by kernel_rfl))
  f240 := Tryd.func50.trans (congrArg some (by kernel_rfl))
  f276 := Tryd.func68.trans (congrArg some (by kernel_rfl))
  t0 := Tryd.underlying0
  a0 := Tryd.isAgg0
  z0 := Tryd.sizeOf0
  v0 := Tryd.zeroValue0
  t3 := Tryd.underlying3
  a3 := Tryd.isAgg3
  z3 := Tryd.sizeOf3
  v3 := Tryd.zeroValue3
  t4 := Tryd.underlying4
  a4 := Tryd.isAgg4
  z4 := Tryd.sizeOf4
  v4 := Tryd.zeroValue4
  t9 := Tryd.underlying9
  a9 := Tryd.isAgg9
  z9 := Tryd.sizeOf9
  v9 := Tryd.zeroValue9
  t20 := Tryd.underlying20
  a20 := Tryd.isAgg20
  z20 := Tryd.sizeOf20
  v20 := Tryd.zeroValue20
  t37 := Tryd.underlying66
  a37 := Tryd.isAgg66
  z37 := Tryd.sizeOf66
  v37 := Tryd.zeroValue66
  t70 := Tryd.underlying65
  a70 := Tryd.isAgg65
  z70 := Tryd.sizeOf65
  v70 := Tryd.zeroValue65
  t72 := Tryd.underlying68
  a72 := Tryd.isAgg68
  z72 := Tryd.sizeOf68
  v72 := Tryd.zeroValue68
  t75 := Tryd.underlying70
  a75 := Tryd.isAgg70
  z75 := Tryd.sizeOf70
  v75 := Tryd.zeroValue70
  t164 := Tryd.underlying113
  a164 := Tryd.isAgg113
  z164 := Tryd.sizeOf113
  v164 := Tryd.zeroValue113 }
theorem Tryd.Builder_Extra_166 : Builder.Extra Tryd.prog Tryd.lays166_ren := {
  sizeBuilder := by kernel_rfl
  liesBuilder := by kernel_rfl
  t5 := Tryd.underlying5
  a5 := Tryd.isAgg5
  z5 := Tryd.sizeOf5
  v5 := Tryd.zeroValue5
  infoByte := by kernel_rfl
  cellsByte := by kernel_rfl
  sizeByte := by kernel_rfl
  neB5 := by decide }
def Tryd.lays169_ren : Go.Shelf.Ren := ⟨fun | 169 => 29 | n => n, fun | 70 => 65 | 9 => 9 | 0 => 0 | 72 => 68 | 37 => 66 | 127 => 101 | 3 => 3 | 5 => 5 | n => n, fun | n => n⟩
theorem Tryd.lays169 : Go.Proofs.Lays.n169 Tryd.prog Tryd.lays169_ren := {
  mixed := by kernel_rfl
  f169 := Tryd.func29.trans (congrArg some (by kernel_rfl))
  t0 := Tryd.underlying0
  a0 := Tryd.isAgg0
  z0 := Tryd.sizeOf0
  v0 := Tryd.zeroValue0
  t3 := Tryd.underlying3
  a3 := Tryd.isAgg3
  z3 := Tryd.sizeOf3
  v3 := Tryd.zeroValue3
  t9 := Tryd.underlying9
  a9 := Tryd.isAgg9
  z9 := Tryd.sizeOf9
  v9 := Tryd.zeroValue9
  t37 := Tryd.underlying66
  a37 := Tryd.isAgg66
  z37 := Tryd.sizeOf66
  v37 := Tryd.zeroValue66
  t70 := Tryd.underlying65
  a70 := Tryd.isAgg65
  z70 := Tryd.sizeOf65
  v70 := Tryd.zeroValue65
  t72 := Tryd.underlying68
  a72 := Tryd.isAgg68
  z72 := Tryd.sizeOf68
  v72 := Tryd.zeroValue68
  t127 := Tryd.underlying101
  a127 := Tryd.isAgg101
  z127 := Tryd.sizeOf101
  v127 := Tryd.zeroValue101 }
theorem Tryd.Builder_Extra_169 : Builder.Extra Tryd.prog Tryd.lays169_ren := {
  sizeBuilder := by kernel_rfl
  liesBuilder := by kernel_rfl
  t5 := Tryd.underlying5
  a5 := Tryd.isAgg5
  z5 := Tryd.sizeOf5
  v5 := Tryd.zeroValue5
  infoByte := by kernel_rfl
  cellsByte := by kernel_rfl
  sizeByte := by kernel_rfl
  neB5 := by decide }
open Go.RowKit in
theorem Tryd.Builder_String_any (B b : Nat) (l : List UInt8) (w : World) (h : Lib.IsBuilder 68 5 B b (Lib.byteCells l) w) (hBw : B ≤ w.heap.size) :
    Calls Tryd.prog 29 #[.pointer (some ⟨b, 0, none⟩)] w fun e w' => e = .returned (.string ⟨l.toArray⟩) ∧ Below B w w' := Any.Builder_String_any Tryd.lays169 Tryd.Builder_Extra_169 B b l w h hBw
end Go.Proofs

open Go.RowKit Go.Shelf
namespace Go.Proofs.YtpcgpcjleedilaaDoor
open Go Go.Proofs Fm

end Go.Proofs.YtpcgpcjleedilaaDoor

/- Walks: Right, Bytes. -/
open Go.RowKit Go.Shelf
namespace Go.Proofs.YtpcgpcjleedilaaDoor
open Go Go.Proofs Fm

end Go.Proofs.YtpcgpcjleedilaaDoor

/- Walks: the reader's num and text. -/
open Go.RowKit Go.Shelf
namespace Go.Proofs.YtpcgpcjleedilaaDoor
open Go Go.Proofs Fm

/-- The reader in block R: what is left, and how much room. -/
structure RdAt (w0 w : World) (R : Nat) (v : Value) (xs : List UInt8) (m : Int) : Prop where
  ext : Ext w0 w
  old : w0.heap.size ≤ R
  lt : R < w.heap.size
  c0 : w.cell? ⟨R, 0, none⟩ = some v
  c1 : w.cell? ⟨R, 1, none⟩ = some (.int .i64 m)
  f0 : w.frozen? ⟨R, 0, none⟩ = false
  f1 : w.frozen? ⟨R, 1, none⟩ = false
  bytes : Bytes w0 v xs
theorem RdAt.kept {w0 w w' : World} {R : Nat} {v : Value} {xs : List UInt8} {m : Int} (h : RdAt w0 w R v xs m) {row : Option Nat} (hg : w.grownBy w' row) (hr : ∀ k, row = some k → w0.heap.size ≤ k ∧ k ≠ R) : RdAt w0 w' R v xs m := by
  have hne : some R ≠ row := fun e => (hr R e.symm).2 rfl
  exact ⟨h.ext.grown hg (fun k hk => (hr k hk).1), h.old, Nat.lt_of_lt_of_le h.lt hg.size, (hg.cell_far ⟨R, 0, none⟩ h.lt hne).trans h.c0, (hg.cell_far ⟨R, 1, none⟩ h.lt hne).trans h.c1,
    (hg.frozen_far ⟨R, 0, none⟩ h.lt hne).trans h.f0, (hg.frozen_far ⟨R, 1, none⟩ h.lt hne).trans h.f1, h.bytes⟩
theorem RdAt.then {w0 w w' : World} {R : Nat} {v : Value} {xs : List UInt8} {m : Int} (h : RdAt w0 w R v xs m) (hE : Ext w w') : RdAt w0 w' R v xs m := h.kept hE.grownBy (fun k hk => by cases hk)
theorem grown_set (w : World) (R o : Nat) (u : Value) : w.grownBy (w.setCell ⟨R, o, none⟩ u) (some R) := ⟨rfl, rfl, rfl, by simp [World.setCell], fun k _ hk => Below.heap_setCell _ _ _ _ (fun e => hk (by simp [e]))⟩
end Go.Proofs.YtpcgpcjleedilaaDoor

/- Walks: the reader's value. -/
open Go.RowKit Go.Shelf
namespace Go.Proofs.YtpcgpcjleedilaaDoor
open Go Go.Proofs Fm

/-- A struct of four cells in a block of its own. -/
def Box4 (w : World) (b : Nat) (c0 c1 c2 c3 : Value) : Prop := w.heap[b]? = some (.cells #[c0, c1, c2, c3] 46 (0, 0))
theorem Box4.new (w : World) (c0 c1 c2 c3 : Value) : Box4 (w.alloc (.cells #[c0, c1, c2, c3] 46)) w.heap.size c0 c1 c2 c3 := heap_alloc_new w _
theorem Box4.lt {w : World} {b : Nat} {c0 c1 c2 c3 : Value} (h : Box4 w b c0 c1 c2 c3) : b < w.heap.size := (Array.getElem?_eq_some_iff.1 h).1
theorem Box4.kept {w w' : World} {b : Nat} {c0 c1 c2 c3 : Value} (h : Box4 w b c0 c1 c2 c3) {row : Option Nat} (hg : w.grownBy w' row) (hr : row ≠ some b) : Box4 w' b c0 c1 c2 c3 := (hg.block b h.lt (fun e => hr e.symm)).trans h
theorem Box4.ext {w w' : World} {b : Nat} {c0 c1 c2 c3 : Value} (h : Box4 w b c0 c1 c2 c3) (hE : Ext w w') : Box4 w' b c0 c1 c2 c3 := (hE.block b h.lt).trans h
theorem Box4.cells {w : World} {b : Nat} {c0 c1 c2 c3 : Value} (h : Box4 w b c0 c1 c2 c3) : w.cell? ⟨b, 0, none⟩ = some c0 ∧ w.cell? ⟨b, 1, none⟩ = some c1 ∧ w.cell? ⟨b, 2, none⟩ = some c2 ∧ w.cell? ⟨b, 3, none⟩ = some c3 := by
  unfold Box4 at h
  refine ⟨?_, ?_, ?_, ?_⟩ <;> simp [World.cell?, h]
theorem Box4.frozen {w : World} {b : Nat} {c0 c1 c2 c3 : Value} (h : Box4 w b c0 c1 c2 c3) : w.frozen? ⟨b, 0, none⟩ = false ∧ w.frozen? ⟨b, 1, none⟩ = false ∧ w.frozen? ⟨b, 2, none⟩ = false ∧ w.frozen? ⟨b, 3, none⟩ = false := by
  unfold Box4 at h
  refine ⟨?_, ?_, ?_, ?_⟩ <;> simp [World.frozen?, h]
end Go.Proofs.YtpcgpcjleedilaaDoor

open Go.RowKit Go.Shelf
namespace Go.Proofs.YtpcgpcjleedilaaDoor
open Go Go.Proofs Fm

end Go.Proofs.YtpcgpcjleedilaaDoor

/- Walks: Take, Parse. -/
open Go.RowKit Go.Shelf
namespace Go.Proofs.YtpcgpcjleedilaaDoor
open Go Go.Proofs Fm

theorem Box4.other {w : World} {b g : Nat} {c0 c1 c2 c3 : Value} (h : Box4 w b c0 c1 c2 c3) (hb : g ≠ b) (o : Nat) (u : Value) : Box4 (w.setCell ⟨g, o, none⟩ u) b c0 c1 c2 c3 :=
  h.kept (grown_set w g o u) (by simpa using hb)
theorem blk_ext {w w' : World} {b : Nat} {o : Obj} (h : w.heap[b]? = some o) (hE : Ext w w') : w'.heap[b]? = some o := (hE.block b (Array.getElem?_eq_some_iff.1 h).1).trans h
theorem blk_cell {w : World} {b : Nat} {cs : Array Value} {t : TypeId} (h : w.heap[b]? = some (.cells cs t (0, 0))) (j : Nat) : w.cell? ⟨b, j, none⟩ = cs[j]? := by simp [World.cell?, h]
theorem blk_free {w : World} {b : Nat} {cs : Array Value} {t : TypeId} (h : w.heap[b]? = some (.cells cs t (0, 0))) (j : Nat) : w.frozen? ⟨b, j, none⟩ = false := by simp [World.frozen?, h]

end Go.Proofs.YtpcgpcjleedilaaDoor

/- Walks: Parse. -/
open Go.RowKit Go.Shelf
namespace Go.Proofs.YtpcgpcjleedilaaDoor
open Go Go.Proofs Fm

end Go.Proofs.YtpcgpcjleedilaaDoor

/- What a round that appends to a box's list leaves. -/
open Go.RowKit Go.Shelf
namespace Go.Proofs.YtpcgpcjleedilaaDoor
open Go Go.Proofs Fm

end Go.Proofs.YtpcgpcjleedilaaDoor

open Go.RowKit Go.Shelf
namespace Go.Proofs.YtpcgpcjleedilaaDoor
open Go Go.Proofs Fm

/-- A builder in block b, of the call's own from block B on, holds these bytes. -/
def Bld (B b : Nat) (xs : List UInt8) (w : World) : Prop := Lib.IsBuilder 68 5 B b (xs.map bv) w
/-- .. and has been written. -/
def BldU (B b : Nat) (xs : List UInt8) (w : World) : Prop := Lib.BuilderAt 68 5 B b (.pointer (some ⟨b, 0, none⟩)) (xs.map bv) w
theorem BldU.bld {B b : Nat} {xs : List UInt8} {w : World} (h : BldU B b xs w) : Bld B b xs w := .inr h
theorem BldU.lt {B b : Nat} {xs : List UInt8} {w : World} (h : BldU B b xs w) : B ≤ b ∧ b < w.heap.size := ⟨h.1, Lib.BuilderAt.lt h⟩
/-- It stays where nothing else but new memory comes. -/
theorem BldU.ext {B b : Nat} {xs : List UInt8} {w w' : World} (h : BldU B b xs w) (hE : Ext w w') : BldU B b xs w' := by
  have hlt := h.lt.2
  obtain ⟨h1, v, hb, ho, hn⟩ := h
  exact ⟨h1, v, (hE.block b hlt).trans hb, hE.own ho, hn⟩
theorem Bld.lt {B b : Nat} {xs : List UInt8} {w : World} (h : Bld B b xs w) : B ≤ b ∧ b < w.heap.size := by
  rcases h with h | h
  · exact ⟨h.1, Lib.BuilderAt.lt h⟩
  · exact ⟨h.1, Lib.BuilderAt.lt h⟩
theorem Bld.ext {B b : Nat} {xs : List UInt8} {w w' : World} (h : Bld B b xs w) (hE : Ext w w') : Bld B b xs w' := by
  have hlt := h.lt.2
  rcases h with h | h
  · obtain ⟨h1, v, hb, ho, hn⟩ := h
    exact .inl ⟨h1, v, (hE.block b hlt).trans hb, hE.own ho, hn⟩
  · obtain ⟨h1, v, hb, ho, hn⟩ := h
    exact .inr ⟨h1, v, (hE.block b hlt).trans hb, hE.own ho, hn⟩

/-- In which block its buffer lies. -/
def bufAt (w : World) (b : Nat) : Option Nat := match w.heap[b]? with
  | some (.cells cs _ _) => (cs.getD 1 undef).ownBlock
  | _ => none
/-- Block k is none of the builder's. -/
def Apart (w : World) (b k : Nat) : Prop := k < w.heap.size ∧ k ≠ b ∧ bufAt w b ≠ some k
/-- What is none of the builder's stays as it is, and none of its. -/
def Keep (b : Nat) (w w' : World) : Prop := ∀ k, Apart w b k → w'.heap[k]? = w.heap[k]? ∧ Apart w' b k
theorem Keep.refl (b : Nat) (w : World) : Keep b w w := fun _ h => ⟨rfl, h⟩
theorem Keep.trans {b : Nat} {x y z : World} (h : Keep b x y) (k : Keep b y z) : Keep b x z := fun i hi => by
  obtain ⟨a1, a2⟩ := h i hi
  obtain ⟨b1, b2⟩ := k i a2
  exact ⟨b1.trans a1, b2⟩
theorem bufAt_ext {w w' : World} {b : Nat} (hE : Ext w w') (hb : b < w.heap.size) : bufAt w' b = bufAt w b := by unfold bufAt; rw [hE.block b hb]
theorem BldU.buf {B b : Nat} {xs : List UInt8} {w : World} (h : BldU B b xs w) : ∀ k, bufAt w b = some k → B ≤ k ∧ k < w.heap.size := by
  obtain ⟨_, v, hb, ho, _⟩ := h
  intro k hk
  unfold bufAt at hk
  rw [hb] at hk
  exact ho.lt k hk
/-- What is new is none of the builder's. -/
theorem BldU.apart {B b : Nat} {xs : List UInt8} {w : World} (h : BldU B b xs w) (o : Obj) : Apart (w.alloc o) b w.heap.size := by
  have hlt := h.lt.2
  refine ⟨by simp, by omega, fun e => ?_⟩
  rw [bufAt_ext ((Ext.refl w).alloc o) hlt] at e
  have := (h.buf _ e).2
  omega

/-- What is written is behind it. -/
def WrotePost (B b : Nat) (xs : List UInt8) (w : World) (r : Value) (e : Ending) (w' : World) : Prop := e = .returned r ∧ BldU B b xs w' ∧ Below B w w' ∧ Keep b w w'

theorem copyCheck_any {B b : Nat} {xs : List UInt8} {w : World} (h : Bld B b xs w) :
    Calls Tryd.prog 50 #[.pointer (some ⟨b, 0, none⟩)] w (WrotePost B b xs w (.tuple #[])) := by
  rcases h with h | h
  · refine (Any.Builder_copyCheck_fresh (L := { Tryd.lays166 with }) Tryd.Builder_Extra_166.toX72 b w h.cell0 h.shape h.frozen0).mono ?_
    rintro e w' ⟨rfl, rfl⟩
    refine ⟨rfl, h.used _, (Below.refl B w).setCell (p := ⟨b, 0, none⟩) h.1 _, fun k hk => ?_⟩
    have e1 : bufAt (w.setCell ⟨b, 0, none⟩ (.pointer (some ⟨b, 0, none⟩))) b = bufAt w b := by
      obtain ⟨_, v, hb, _⟩ := h
      unfold bufAt
      rw [hb]
      simp [World.setCell, Array.getElem?_modify, hb]
    have hne : k ≠ b := hk.2.1
    refine ⟨Below.heap_setCell _ _ _ _ (by simpa using hne), by simpa [World.setCell] using hk.1, hk.2.1, ?_⟩
    rw [e1]; exact hk.2.2
  · refine (Any.Builder_copyCheck_used (L := { Tryd.lays166 with }) Tryd.Builder_Extra_166.toX72 b w h.cell0).mono ?_
    rintro e w' ⟨rfl, rfl⟩
    exact ⟨rfl, h, Below.refl B _, Keep.refl _ _⟩

theorem appSt {w : World} {ops : Array Oper} {rest : List Oper} {o : Oper} {a : Act} {Q : Exit → Act → World → Prop}
    (hg : Region.wanted o (yielded ops a.tmps) = true) (s x : Operand) (hop : o.op = Op.call { callee := Callee.builtin Builtin.append, args := #[s, x], argTypes := #[66, 9] }) {base : Nat}
    {v : Value} {xs : List UInt8} (hs : a.eval s = v) (hown : OwnB base w v xs) {ys : List UInt8} (hx : a.eval x = .string (str ys))
    (b1 : xs.length + ys.length ≤ 70368744177664) (b3 : base ≤ w.heap.size)
    (hK : ∀ v' w', OwnB base w' v' (xs ++ ys) → w.grownBy w' v.ownBlock → (v'.ownBlock = v.ownBlock ∨ v'.ownBlock = some w.heap.size) → wpList Tryd.prog ops Q rest (a.put o.dst v') w') :
    wpList Tryd.prog ops Q (o :: rest) a w := by
  have hsrc := Src.string (P := Tryd.prog) Tryd.underlying9 w (str ys)
  rw [str_list] at hsrc
  refine wpList_appAt w elem_u8 hg s x 9 hop base v _ _ hs hown _ _ _ hx hsrc (by unfold maxLen; omega) (by omega) b3 (fun v' w' h1 h2 h3 => hK v' w' ?_ h2 h3)
  unfold OwnB; rw [List.length_append, List.map_append]; exact h1

/-- A new buffer is laid into the builder. -/
theorem wrote {B b : Nat} {xs zs : List UInt8} {w wa w2 : World} {v v' : Value} (hBb : B ≤ b) (hbk : w.heap[b]? = some (.cells #[.pointer (some ⟨b, 0, none⟩), v] 68 (0, 0))) (ho : OwnB B w v xs) (hn : v.ownBlock ≠ some b) (hE : Ext w wa) (hB : B ≤ wa.heap.size)
    (hown' : OwnB B w2 v' zs) (hg : wa.grownBy w2 v.ownBlock) (hat : v'.ownBlock = v.ownBlock ∨ v'.ownBlock = some wa.heap.size) :
    w2.cell? ⟨b, 1, none⟩ = some v ∧ w2.frozen? ⟨b, 1, none⟩ = false ∧ BldU B b zs (w2.setCell ⟨b, 1, none⟩ v') ∧ Below B w (w2.setCell ⟨b, 1, none⟩ v') ∧ Keep b w (w2.setCell ⟨b, 1, none⟩ v') := by
  have hlt : b < w.heap.size := (Array.getElem?_eq_some_iff.1 hbk).1
  have hba := blk_ext hbk hE
  have hz := hE.size
  have hb2 : w2.heap[b]? = some (.cells #[.pointer (some ⟨b, 0, none⟩), v] 68 (0, 0)) := by
    rw [hg.block b (by omega) (fun e => hn e.symm)]; exact hba
  have h1 : (w2.setCell ⟨b, 1, none⟩ v').heap[b]? = some (.cells #[.pointer (some ⟨b, 0, none⟩), v'] 68 (0, 0)) := by simp [World.setCell, Array.getElem?_modify, hb2]
  refine ⟨(blk_cell hb2 1).trans rfl, blk_free hb2 1, ?_, ?_, ?_⟩
  · exact Lib.BuilderAt.put (T := 68) (e := 5) hBb hb2 (bs' := zs.map bv) (by rw [List.length_map]; exact hown') Tryd.Builder_Extra_166.neB5
  · exact (((Below.refl B w).trans (hE.mono (by have := ho.lt; omega))).grown hg hB (fun k hk => (ho.lt k hk).1)).setCell (p := ⟨b, 1, none⟩) hBb _
  · intro k hk
    have e0 : bufAt w b = v.ownBlock := by unfold bufAt; rw [hbk]; rfl
    have e1 : bufAt (w2.setCell ⟨b, 1, none⟩ v') b = v'.ownBlock := by unfold bufAt; rw [h1]; rfl
    have hkv : v.ownBlock ≠ some k := by rw [← e0]; exact hk.2.2
    refine ⟨?_, ?_, hk.2.1, ?_⟩
    · rw [Below.heap_setCell _ _ _ _ (by simpa using hk.2.1), hg.block k (by have := hk.1; omega) (fun e => hkv e.symm)]
      exact hE.block k hk.1
    · have := hg.size; have := hk.1; simp [World.setCell]; omega
    · rw [e1]
      rcases hat with h | h
      · rw [h]; exact hkv
      · rw [h]; intro e; injection e with e; have := hk.1; omega

theorem BldU.open {B b : Nat} {xs : List UInt8} {w : World} (h : BldU B b xs w) : B ≤ b ∧ ∃ v, w.heap[b]? = some (.cells #[.pointer (some ⟨b, 0, none⟩), v] 68 (0, 0)) ∧ OwnB B w v xs ∧ v.ownBlock ≠ some b := by
  obtain ⟨h1, v, hb, ho, hn⟩ := h
  rw [List.length_map] at ho
  exact ⟨h1, v, hb, ho, hn⟩

set_option maxRecDepth 100000 in
set_option maxHeartbeats 2000000 in
theorem wstring_any {B b : Nat} {xs : List UInt8} {w : World} (h : Bld B b xs w) (s : List UInt8) (hl : xs.length ≤ 1000000000000) (hs : s.length ≤ 1000000000000) (hB : B ≤ w.heap.size) :
    Calls Tryd.prog 27 #[.pointer (some ⟨b, 0, none⟩), .string (str s)] w (WrotePost B b (xs ++ s) w (.tuple #[.int .i64 (s.length : Int), .nilIface])) := by
  have H := Lib.hid h
  clear h
  go_enter Tryd.func27, Tryd.ntmps27
  go_wp2_with fail
  refine (copyCheck_any H.out).mono ?_
  rintro e w1 ⟨rfl, hu, hB1, hK1⟩
  obtain ⟨hBb, v, hbk, ho, hn⟩ := hu.open
  have c1 : w1.cell? ⟨b, 1, none⟩ = some v := (blk_cell hbk 1).trans rfl
  have hb1 : B ≤ w1.heap.size := Nat.le_trans hB hB1.size
  have hsz := str_size s
  have HO := Lib.hid ho
  have HK := Lib.hid hbk
  have HN := Lib.hid hn
  have HB1 := Lib.hid hB1
  have HK1 := Lib.hid hK1
  clear ho hbk hn hu hB1 hK1
  go_wp2_with (at_builtin; refine appSt rfl _ _ rfl rfl HO.out rfl ?b1 hb1 ?_)
  case b1 => omega
  intro v' w2 hown' hgrow hat
  obtain ⟨d1, f1, r1, r2, r3⟩ := wrote hBb HK.out HO.out HN.out (Ext.refl w1) (by omega) hown' hgrow hat
  obtain ⟨ao, n', cap, rfl⟩ : ∃ ao n' cap, v' = .slice ao n' cap := by
    rcases hown'.2 with ⟨hv, _⟩ | ⟨g, cap, cur, hv, _⟩
    · exact ⟨_, _, _, hv⟩
    · exact ⟨_, _, _, hv⟩
  have HX : Hid (WrotePost B b (xs ++ s) w (.tuple #[.int .i64 (s.length : Int), .nilIface]) (.returned (.tuple #[.int .i64 (s.length : Int), .nilIface])) (w2.setCell ⟨b, 1, none⟩ (.slice ao n' cap))) := Lib.hid ⟨rfl, r1, HB1.out.trans r2, HK1.out.trans r3⟩
  clear hown' hgrow hat r1 r2 r3
  go_wp2
  go_ret2
  exact HX.out

theorem bstring_any {B b : Nat} {xs : List UInt8} {w : World} (h : Bld B b xs w) (hB : B ≤ w.heap.size) :
    Calls Tryd.prog 29 #[.pointer (some ⟨b, 0, none⟩)] w fun e w' => e = .returned (.string (str xs)) ∧ Below B w w' :=
  Tryd.Builder_String_any B b xs w h hB

end Go.Proofs.YtpcgpcjleedilaaDoor

open Go.RowKit Go.Shelf
namespace Go.Proofs.YtpcgpcjleedilaaDoor
open Go Go.Proofs Fm

/-- The table that FormatInt reads is as the program's text lays it. -/
def Tab (w : World) : Prop := Lib.TabIs Tryd.prog w "internal/strconv.uint64pow10" .u64 Lib.pow10Tab
theorem Tab.ext {w w' : World} (h : Tab w) (hE : Ext w w') : Tab w' := by
  have hg : Tryd.prog.globalNamed "internal/strconv.uint64pow10" = some 5 := by kernel_rfl
  unfold Tab Lib.TabIs World.var? at *
  rw [hg] at h ⊢
  simp only [Option.bind_some] at h ⊢
  have hlt : 5 < w.heap.size := by
    rcases Nat.lt_or_ge 5 w.heap.size with h' | h'
    · exact h'
    · rw [Array.getElem?_eq_none h'] at h; cases h
  rw [hE.block _ hlt]
  exact h
theorem ext_grow (w : World) (os : Array Obj) : Ext w (Go.Sort.grow w os) :=
  ⟨rfl, rfl, rfl, by simp [Go.Sort.grow], fun i hi => by simp [Go.Sort.grow, Array.getElem?_append_left hi]⟩
theorem Bld.buf {B b : Nat} {xs : List UInt8} {w : World} (h : Bld B b xs w) : ∀ k, bufAt w b = some k → B ≤ k ∧ k < w.heap.size := by
  intro k hk
  unfold bufAt at hk
  rcases h with h | h
  · obtain ⟨_, v, hb, ho, _⟩ := h
    rw [hb] at hk; exact ho.lt k hk
  · obtain ⟨_, v, hb, ho, _⟩ := h
    rw [hb] at hk; exact ho.lt k hk
theorem Bld.apart {B b : Nat} {xs : List UInt8} {w : World} (h : Bld B b xs w) (o : Obj) : Apart (w.alloc o) b w.heap.size := by
  have hlt := h.lt.2
  refine ⟨by simp, by omega, fun e => ?_⟩
  rw [bufAt_ext ((Ext.refl w).alloc o) hlt] at e
  have := (h.buf _ e).2
  omega
end Go.Proofs.YtpcgpcjleedilaaDoor

namespace Go.Proofs
open Go.Shelf
def Tryd.lays104_ren : Go.Shelf.Ren := ⟨fun | 104 => 49 | 211 => 67 | 207 => 89 | n => n, fun | 9 => 9 | 4 => 4 | 24 => 37 | 3 => 3 | n => n, fun | n => n⟩
theorem Tryd.lays104 : Go.Proofs.Lays.n104 Tryd.prog Tryd.lays104_ren := {
  mixed := by kernel_rfl
  f104 := Tryd.func49.trans (congrArg some (by kernel_rfl))
  f207 := Tryd.func89.trans (congrArg some (by kernel_rfl))
  f211 := Tryd.func67.trans (congrArg some (by kernel_rfl))
  t3 := Tryd.underlying3
  a3 := Tryd.isAgg3
  z3 := Tryd.sizeOf3
  v3 := Tryd.zeroValue3
  t4 := Tryd.underlying4
  a4 := Tryd.isAgg4
  z4 := Tryd.sizeOf4
  v4 := Tryd.zeroValue4
  t9 := Tryd.underlying9
  a9 := Tryd.isAgg9
  z9 := Tryd.sizeOf9
  v9 := Tryd.zeroValue9
  t24 := Tryd.underlying37
  a24 := Tryd.isAgg37
  z24 := Tryd.sizeOf37
  v24 := Tryd.zeroValue37 }
open Go.RowKit in
theorem Tryd.strings_CutSuffix (s p : ByteArray) (w : World) (hs : s.size ≤ 9223372036854775807) :
    Calls Tryd.prog 49 #[.string s, .string p] w fun e w' => e = .returned (.tuple #[.string ⟨(Lib.trimSuffix s.data.toList p.data.toList).toArray⟩, .bool (Lib.hasSuffix s.data.toList p.data.toList)]) ∧ w' = w := Any.strings_CutSuffix Tryd.lays104 s p w hs
def Tryd.lays122_ren : Go.Shelf.Ren := ⟨fun | 122 => 80 | 215 => 98 | n => n, fun | 3 => 3 | 4 => 4 | n => n, fun | n => n⟩
theorem Tryd.lays122 : Go.Proofs.Lays.n122 Tryd.prog Tryd.lays122_ren := {
  mixed := by kernel_rfl
  f122 := Tryd.func80.trans (congrArg some (by kernel_rfl))
  f215 := Tryd.func98.trans (congrArg some (by kernel_rfl))
  t3 := Tryd.underlying3
  a3 := Tryd.isAgg3
  z3 := Tryd.sizeOf3
  v3 := Tryd.zeroValue3
  t4 := Tryd.underlying4
  a4 := Tryd.isAgg4
  z4 := Tryd.sizeOf4
  v4 := Tryd.zeroValue4 }
open Go.RowKit in
theorem Tryd.cmp_Compare_int (x y : Int) (w : World) :
    Calls Tryd.prog 80 #[.int .i64 x, .int .i64 y] w fun e w' => e = .returned (.int .i64 (Lib.compareInt x y)) ∧ w' = w := Any.cmp_Compare_int Tryd.lays122 x y w
def Tryd.laysM171_ren : Go.Shelf.Ren := ⟨fun | 171 => 28 | 243 => 51 | 246 => 69 | 283 => 90 | 284 => 91 | 285 => 92 | 286 => 93 | 129 => 107 | 317 => 106 | 318 => 108 | 319 => 109 | 320 => 110 | 337 => 117 | 338 => 118 | n => n, fun | 3 => 3 | 9 => 9 | 2 => 2 | 4 => 4 | 171 => 133 | 0 => 0 | 53 => 134 | 37 => 66 | 5 => 5 | 173 => 137 | 212 => 155 | 51 => 156 | 20 => 20 | 213 => 157 | 46 => 142 | 232 => 168 | 233 => 169 | n => n, fun | 17 => 5 | 18 => 6 | 19 => 7 | n => n⟩
theorem Tryd.laysM171 : Go.Proofs.LaysM.n171 Tryd.prog Tryd.laysM171_ren := {
  mixed := by kernel_rfl
  f129 := Tryd.func107.trans (congrArg some (by kernel_rfl))
  f171 := Tryd.func28.trans (congrArg some (by kernel_rfl))
  f243 := Tryd.func51.trans (congrArg some (by kernel_rfl))
  f246 := Tryd.func69.trans (congrArg some (by kernel_rfl))
  f283 := Tryd.func90.trans (congrArg some (by kernel_rfl))
  f284 := Tryd.func91.trans (congrArg some (by kernel_rfl))
  f285 := Tryd.func92.trans (congrArg some (by kernel_rfl))
  f286 := Tryd.func93.trans (congrArg some (by kernel_rfl))
  f317 := Tryd.func106.trans (congrArg some (by kernel_rfl))
  f318 := Tryd.func108.trans (congrArg some (by kernel_rfl))
  f319 := Tryd.func109.trans (congrArg some (by kernel_rfl))
  f320 := Tryd.func110.trans (congrArg some (by kernel_rfl))
  f337 := Tryd.func117.trans (congrArg some (by kernel_rfl))
  f338 := Tryd.func118.trans (congrArg some (by kernel_rfl))
  t0 := Tryd.underlying0
  a0 := Tryd.isAgg0
  z0 := Tryd.sizeOf0
  v0 := Tryd.zeroValue0
  t2 := Tryd.underlying2
  a2 := Tryd.isAgg2
  z2 := Tryd.sizeOf2
  v2 := Tryd.zeroValue2
  t3 := Tryd.underlying3
  a3 := Tryd.isAgg3
  z3 := Tryd.sizeOf3
  v3 := Tryd.zeroValue3
  t4 := Tryd.underlying4
  a4 := Tryd.isAgg4
  z4 := Tryd.sizeOf4
  v4 := Tryd.zeroValue4
  t5 := Tryd.underlying5
  a5 := Tryd.isAgg5
  z5 := Tryd.sizeOf5
  v5 := Tryd.zeroValue5
  t9 := Tryd.underlying9
  a9 := Tryd.isAgg9
  z9 := Tryd.sizeOf9
  v9 := Tryd.zeroValue9
  t20 := Tryd.underlying20
  a20 := Tryd.isAgg20
  z20 := Tryd.sizeOf20
  v20 := Tryd.zeroValue20
  t37 := Tryd.underlying66
  a37 := Tryd.isAgg66
  z37 := Tryd.sizeOf66
  v37 := Tryd.zeroValue66
  t46 := Tryd.underlying142
  a46 := Tryd.isAgg142
  z46 := Tryd.sizeOf142
  v46 := Tryd.zeroValue142
  t51 := Tryd.underlying156
  a51 := Tryd.isAgg156
  z51 := Tryd.sizeOf156
  v51 := Tryd.zeroValue156
  t53 := Tryd.underlying134
  a53 := Tryd.isAgg134
  z53 := Tryd.sizeOf134
  v53 := Tryd.zeroValue134
  t171 := Tryd.underlying133
  a171 := Tryd.isAgg133
  z171 := Tryd.sizeOf133
  v171 := Tryd.zeroValue133
  t173 := Tryd.underlying137
  a173 := Tryd.isAgg137
  z173 := Tryd.sizeOf137
  v173 := Tryd.zeroValue137
  t212 := Tryd.underlying155
  a212 := Tryd.isAgg155
  z212 := Tryd.sizeOf155
  v212 := Tryd.zeroValue155
  t213 := Tryd.underlying157
  a213 := Tryd.isAgg157
  z213 := Tryd.sizeOf157
  t232 := Tryd.underlying168
  a232 := Tryd.isAgg168
  z232 := Tryd.sizeOf168
  v232 := Tryd.zeroValue168
  t233 := Tryd.underlying169
  a233 := Tryd.isAgg169
  z233 := Tryd.sizeOf169
  v233 := Tryd.zeroValue169
  g17 := by kernel_rfl
  g18 := by kernel_rfl
  g19 := by kernel_rfl
  i0 := by kernel_rfl
  i2 := by kernel_rfl
  i3 := by kernel_rfl
  i4 := by kernel_rfl
  i5 := by kernel_rfl
  i9 := by kernel_rfl
  i20 := by kernel_rfl
  i37 := by kernel_rfl
  i46 := by kernel_rfl
  i51 := by kernel_rfl
  i53 := by kernel_rfl
  i171 := by kernel_rfl
  i173 := by kernel_rfl
  i212 := by kernel_rfl
  i232 := by kernel_rfl
  i233 := by kernel_rfl
  m17 := by kernel_rfl
  m18 := by kernel_rfl
  m19 := by kernel_rfl }
open Go.RowKit Go.Sort Go.Lib in
theorem Tryd.strconv_Itoa (n : Int) (h0 : -9223372036854775808 ≤ n) (h1 : n ≤ 9223372036854775807) (w : World) (htab : Lib.TabIs Tryd.prog w "internal/strconv.uint64pow10" .u64 Lib.pow10Tab) :
    Calls Tryd.prog 28 #[.int .i64 n] w fun e w' => e = .returned (.string ⟨(Lib.itoa n).toArray⟩) ∧ ∃ k os, w' = grow (w.drewN k) os := Any.strconv_Itoa Tryd.laysM171 n h0 h1 w htab
def Tryd.laysC172_ren : Go.Shelf.Ren := ⟨fun | 172 => 47 | 244 => 64 | 245 => 65 | 247 => 84 | 279 => 85 | 280 => 86 | 281 => 87 | 282 => 88 | 287 => 103 | 316 => 104 | 171 => 28 | 205 => 105 | 321 => 115 | 322 => 116 | 243 => 51 | 246 => 69 | 283 => 90 | 284 => 91 | 285 => 92 | 286 => 93 | 129 => 107 | 317 => 106 | 318 => 108 | 319 => 109 | 320 => 110 | 337 => 117 | 338 => 118 | n => n, fun | 9 => 9 | 3 => 3 | 75 => 70 | 76 => 71 | 4 => 4 | 5 => 5 | 167 => 127 | 37 => 66 | 0 => 0 | 85 => 128 | 2 => 2 | 168 => 130 | 53 => 134 | 175 => 148 | 46 => 142 | 210 => 152 | 127 => 101 | 145 => 165 | 143 => 163 | 21 => 21 | 171 => 133 | 173 => 137 | 212 => 155 | 51 => 156 | 20 => 20 | 213 => 157 | 232 => 168 | 233 => 169 | 80 => 74 | n => n, fun | 15 => 3 | 16 => 4 | 17 => 5 | 18 => 6 | 19 => 7 | n => n⟩
theorem Tryd.laysC172 : Go.Proofs.LaysC.n172 Tryd.prog Tryd.laysC172_ren := {
  mixed := by kernel_rfl
  f129 := Tryd.func107.trans (congrArg some (by kernel_rfl))
  f171 := Tryd.func28.trans (congrArg some (by kernel_rfl))
  f172 := Tryd.func47.trans (congrArg some (by kernel_rfl))
  f205 := Tryd.func105.trans (congrArg some (by kernel_rfl))
  f243 := Tryd.func51.trans (congrArg some (by kernel_rfl))
  f244 := Tryd.func64.trans (congrArg some (by kernel_rfl))
  f245 := Tryd.func65.trans (congrArg some (by kernel_rfl))
  f246 := Tryd.func69.trans (congrArg some (by kernel_rfl))
  f247 := Tryd.func84.trans (congrArg some (by kernel_rfl))
  f279 := Tryd.func85.trans (congrArg some (by kernel_rfl))
  f280 := Tryd.func86.trans (congrArg some (by kernel_rfl))
  f281 := Tryd.func87.trans (congrArg some (by kernel_rfl))
  f282 := Tryd.func88.trans (congrArg some (by kernel_rfl))
  f283 := Tryd.func90.trans (congrArg some (by kernel_rfl))
  f284 := Tryd.func91.trans (congrArg some (by kernel_rfl))
  f285 := Tryd.func92.trans (congrArg some (by kernel_rfl))
  f286 := Tryd.func93.trans (congrArg some (by kernel_rfl))
  f287 := Tryd.func103.trans (congrArg some (by kernel_rfl))
  f316 := Tryd.func104.trans (congrArg some (by kernel_rfl))
  f317 := Tryd.func106.trans (congrArg some (by kernel_rfl))
  f318 := Tryd.func108.trans (congrArg some (by kernel_rfl))
  f319 := Tryd.func109.trans (congrArg some (by kernel_rfl))
  f320 := Tryd.func110.trans (congrArg some (by kernel_rfl))
  f321 := Tryd.func115.trans (congrArg some (by kernel_rfl))
  f322 := Tryd.func116.trans (congrArg some (by kernel_rfl))
  f337 := Tryd.func117.trans (congrArg some (by kernel_rfl))
  f338 := Tryd.func118.trans (congrArg some (by kernel_rfl))
  t0 := Tryd.underlying0
  a0 := Tryd.isAgg0
  z0 := Tryd.sizeOf0
  v0 := Tryd.zeroValue0
  t2 := Tryd.underlying2
  a2 := Tryd.isAgg2
  z2 := Tryd.sizeOf2
  v2 := Tryd.zeroValue2
  t3 := Tryd.underlying3
  a3 := Tryd.isAgg3
  z3 := Tryd.sizeOf3
  v3 := Tryd.zeroValue3
  t4 := Tryd.underlying4
  a4 := Tryd.isAgg4
  z4 := Tryd.sizeOf4
  v4 := Tryd.zeroValue4
  t5 := Tryd.underlying5
  a5 := Tryd.isAgg5
  z5 := Tryd.sizeOf5
  v5 := Tryd.zeroValue5
  t9 := Tryd.underlying9
  a9 := Tryd.isAgg9
  z9 := Tryd.sizeOf9
  v9 := Tryd.zeroValue9
  t20 := Tryd.underlying20
  a20 := Tryd.isAgg20
  z20 := Tryd.sizeOf20
  v20 := Tryd.zeroValue20
  t21 := Tryd.underlying21
  a21 := Tryd.isAgg21
  z21 := Tryd.sizeOf21
  v21 := Tryd.zeroValue21
  t37 := Tryd.underlying66
  a37 := Tryd.isAgg66
  z37 := Tryd.sizeOf66
  v37 := Tryd.zeroValue66
  t46 := Tryd.underlying142
  a46 := Tryd.isAgg142
  z46 := Tryd.sizeOf142
  v46 := Tryd.zeroValue142
  t51 := Tryd.underlying156
  a51 := Tryd.isAgg156
  z51 := Tryd.sizeOf156
  v51 := Tryd.zeroValue156
  t53 := Tryd.underlying134
  a53 := Tryd.isAgg134
  z53 := Tryd.sizeOf134
  v53 := Tryd.zeroValue134
  t75 := Tryd.underlying70
  a75 := Tryd.isAgg70
  z75 := Tryd.sizeOf70
  v75 := Tryd.zeroValue70
  t76 := Tryd.underlying71
  a76 := Tryd.isAgg71
  z76 := Tryd.sizeOf71
  v76 := Tryd.zeroValue71
  t85 := Tryd.underlying128
  a85 := Tryd.isAgg128
  z85 := Tryd.sizeOf128
  v85 := Tryd.zeroValue128
  t127 := Tryd.underlying101
  a127 := Tryd.isAgg101
  z127 := Tryd.sizeOf101
  v127 := Tryd.zeroValue101
  t143 := Tryd.underlying163
  a143 := Tryd.isAgg163
  z143 := Tryd.sizeOf163
  v143 := Tryd.zeroValue163
  t145 := Tryd.underlying165
  a145 := Tryd.isAgg165
  z145 := Tryd.sizeOf165
  v145 := Tryd.zeroValue165
  t167 := Tryd.underlying127
  a167 := Tryd.isAgg127
  z167 := Tryd.sizeOf127
  v167 := Tryd.zeroValue127
  t168 := Tryd.underlying130
  a168 := Tryd.isAgg130
  z168 := Tryd.sizeOf130
  v168 := Tryd.zeroValue130
  t171 := Tryd.underlying133
  a171 := Tryd.isAgg133
  z171 := Tryd.sizeOf133
  v171 := Tryd.zeroValue133
  t173 := Tryd.underlying137
  a173 := Tryd.isAgg137
  z173 := Tryd.sizeOf137
  v173 := Tryd.zeroValue137
  t175 := Tryd.underlying148
  a175 := Tryd.isAgg148
  z175 := Tryd.sizeOf148
  v175 := Tryd.zeroValue148
  t210 := Tryd.underlying152
  a210 := Tryd.isAgg152
  z210 := Tryd.sizeOf152
  v210 := Tryd.zeroValue152
  t212 := Tryd.underlying155
  a212 := Tryd.isAgg155
  z212 := Tryd.sizeOf155
  v212 := Tryd.zeroValue155
  t213 := Tryd.underlying157
  a213 := Tryd.isAgg157
  z213 := Tryd.sizeOf157
  t232 := Tryd.underlying168
  a232 := Tryd.isAgg168
  z232 := Tryd.sizeOf168
  v232 := Tryd.zeroValue168
  t233 := Tryd.underlying169
  a233 := Tryd.isAgg169
  z233 := Tryd.sizeOf169
  v233 := Tryd.zeroValue169
  g15 := by kernel_rfl
  g16 := by kernel_rfl
  g17 := by kernel_rfl
  g18 := by kernel_rfl
  g19 := by kernel_rfl
  t80 := Tryd.underlying74
  a80 := Tryd.isAgg74
  z80 := Tryd.sizeOf74
  v80 := Tryd.zeroValue74
  i0 := by kernel_rfl
  i2 := by kernel_rfl
  i3 := by kernel_rfl
  i4 := by kernel_rfl
  i5 := by kernel_rfl
  i9 := by kernel_rfl
  i20 := by kernel_rfl
  i21 := by kernel_rfl
  i37 := by kernel_rfl
  i46 := by kernel_rfl
  i51 := by kernel_rfl
  i53 := by kernel_rfl
  i75 := by kernel_rfl
  i76 := by kernel_rfl
  i80 := by kernel_rfl
  i85 := by kernel_rfl
  i127 := by kernel_rfl
  i143 := by kernel_rfl
  i145 := by kernel_rfl
  i167 := by kernel_rfl
  i168 := by kernel_rfl
  i171 := by kernel_rfl
  i173 := by kernel_rfl
  i175 := by kernel_rfl
  i210 := by kernel_rfl
  i212 := by kernel_rfl
  i232 := by kernel_rfl
  i233 := by kernel_rfl
  m15 := by kernel_rfl
  m16 := by kernel_rfl
  m17 := by kernel_rfl
  m18 := by kernel_rfl
  m19 := by kernel_rfl
  c0 := by kernel_rfl
  c2 := by kernel_rfl
  c3 := by kernel_rfl
  c4 := by kernel_rfl
  c5 := by kernel_rfl
  c9 := by kernel_rfl
  c20 := by kernel_rfl
  c21 := by kernel_rfl
  c37 := by kernel_rfl
  c46 := by kernel_rfl
  c51 := by kernel_rfl
  c53 := by kernel_rfl
  c75 := by kernel_rfl
  c76 := by kernel_rfl
  c80 := by kernel_rfl
  c85 := by kernel_rfl
  c127 := by kernel_rfl
  c143 := by kernel_rfl
  c145 := by kernel_rfl
  c167 := by kernel_rfl
  c168 := by kernel_rfl
  c171 := by kernel_rfl
  c173 := by kernel_rfl
  c175 := by kernel_rfl
  c210 := by kernel_rfl
  c212 := by kernel_rfl
  c213 := by kernel_rfl
  c232 := by kernel_rfl
  c233 := by kernel_rfl }
open Go.RowKit in
theorem Tryd.strconv_Atoi_ok (s : ByteArray) (hmax : s.size ≤ 9223372036854775806) (v : Int) (h : Lib.atoiAll s.data.toList = .ok v) (w : World) :
    Calls Tryd.prog 47 #[.string s] w fun e w' => e = .returned (.tuple #[.int .i64 v, .nilIface]) ∧ (w' = w ∨ ∃ t, w' = Lib.bytesWorld w 5 t) := Any.strconv_Atoi_ok Tryd.laysC172 s hmax v h w
open Go.RowKit in
theorem Tryd.strconv_Atoi_syntax (s : ByteArray) (hlim : s.size ≤ 281474976710656) (h1 : ∀ v, Lib.atoiAll s.data.toList ≠ .ok v) (h2 : Lib.atoiAll s.data.toList ≠ .range) (ev : Value) (w : World) (hv : w.cell? ⟨3, 0, none⟩ = some ev) (hev : ev = .nilIface ∨ ∃ te pe, ev = .iface te pe) :
    Calls Tryd.prog 47 #[.string s] w fun e w' => ∃ N, e = .returned (.tuple #[.int .i64 (0), .iface 130 (.pointer (some ⟨N, 0, none⟩))]) ∧ w.heap.size ≤ N ∧ w'.heap[N]? = some (.cells #[.string ⟨#[65, 116, 111, 105]⟩, .string s, ev] 152 (0, 0)) ∧ Below w.heap.size w w' := Any.strconv_Atoi_syntax Tryd.laysC172 s hlim (by cases e : Lib.atoiAll s.data.toList <;> first | rfl | exact absurd e (h1 _) | exact absurd e h2) ev w hv hev
open Go.RowKit in
theorem Tryd.strconv_Atoi_range (s : ByteArray) (hlim : s.size ≤ 281474976710656) (h : Lib.atoiAll s.data.toList = .range) (ev : Value) (w : World) (hv : w.cell? ⟨4, 0, none⟩ = some ev) (hev : ev = .nilIface ∨ ∃ te pe, ev = .iface te pe) :
    Calls Tryd.prog 47 #[.string s] w fun e w' => ∃ N, e = .returned (.tuple #[.int .i64 (Lib.atoiSat s.data.toList), .iface 130 (.pointer (some ⟨N, 0, none⟩))]) ∧ w.heap.size ≤ N ∧ w'.heap[N]? = some (.cells #[.string ⟨#[65, 116, 111, 105]⟩, .string s, ev] 152 (0, 0)) ∧ Below w.heap.size w w' := Any.strconv_Atoi_range Tryd.laysC172 s hlim h ev w hv hev
def Tryd.lays143_ren : Go.Shelf.Ren := ⟨fun | 143 => 63 | 219 => 83 | 217 => 99 | 225 => 100 | 224 => 101 | 267 => 102 | 266 => 113 | 314 => 114 | n => n, fun | 9 => 9 | 3 => 3 | 4 => 4 | 5 => 5 | 46 => 142 | 146 => 160 | 51 => 156 | n => n, fun | 1 => 2 | n => n⟩
theorem Tryd.lays143 : Go.Proofs.Lays.n143 Tryd.prog Tryd.lays143_ren := {
  mixed := by kernel_rfl
  f143 := Tryd.func63.trans (congrArg some (by kernel_rfl))
  f217 := Tryd.func99.trans (congrArg some (by kernel_rfl))
  f219 := Tryd.func83.trans (congrArg some (by kernel_rfl))
  f224 := Tryd.func101.trans (congrArg some (by kernel_rfl))
  f225 := Tryd.func100.trans (congrArg some (by kernel_rfl))
  f266 := Tryd.func113.trans (congrArg some (by kernel_rfl))
  f267 := Tryd.func102.trans (congrArg some (by kernel_rfl))
  f314 := Tryd.func114.trans (congrArg some (by kernel_rfl))
  t3 := Tryd.underlying3
  a3 := Tryd.isAgg3
  z3 := Tryd.sizeOf3
  v3 := Tryd.zeroValue3
  t4 := Tryd.underlying4
  a4 := Tryd.isAgg4
  z4 := Tryd.sizeOf4
  v4 := Tryd.zeroValue4
  t5 := Tryd.underlying5
  a5 := Tryd.isAgg5
  z5 := Tryd.sizeOf5
  v5 := Tryd.zeroValue5
  t9 := Tryd.underlying9
  a9 := Tryd.isAgg9
  z9 := Tryd.sizeOf9
  v9 := Tryd.zeroValue9
  t46 := Tryd.underlying142
  a46 := Tryd.isAgg142
  z46 := Tryd.sizeOf142
  v46 := Tryd.zeroValue142
  t51 := Tryd.underlying156
  a51 := Tryd.isAgg156
  z51 := Tryd.sizeOf156
  v51 := Tryd.zeroValue156
  t146 := Tryd.underlying160
  a146 := Tryd.isAgg160
  z146 := Tryd.sizeOf160
  v146 := Tryd.zeroValue160
  g1 := by kernel_rfl }
open Go.RowKit Go.Lib in
theorem Tryd.strings_Index_one (s : ByteArray) (c : UInt8) (w : World) :
    Calls Tryd.prog 63 #[.string s, .string ⟨#[c]⟩] w fun e w' => e = .returned (.int .i64 (Lib.indexByte s.data.toList c)) ∧ w' = w := Any.strings_Index_one Tryd.lays143 s c w

def Tryd.lays219_ren : Go.Shelf.Ren := ⟨fun | 219 => 83 | 217 => 99 | 225 => 100 | 224 => 101 | 267 => 102 | 266 => 113 | 314 => 114 | n => n, fun | 9 => 9 | 3 => 3 | 4 => 4 | 5 => 5 | 46 => 142 | 146 => 160 | 51 => 156 | n => n, fun | 1 => 2 | n => n⟩
theorem Tryd.lays219 : Go.Proofs.Lays.n219 Tryd.prog Tryd.lays219_ren := {
  mixed := by kernel_rfl
  f217 := Tryd.func99.trans (congrArg some (by kernel_rfl))
  f219 := Tryd.func83.trans (congrArg some (by kernel_rfl))
  f224 := Tryd.func101.trans (congrArg some (by kernel_rfl))
  f225 := Tryd.func100.trans (congrArg some (by kernel_rfl))
  f266 := Tryd.func113.trans (congrArg some (by kernel_rfl))
  f267 := Tryd.func102.trans (congrArg some (by kernel_rfl))
  f314 := Tryd.func114.trans (congrArg some (by kernel_rfl))
  t3 := Tryd.underlying3
  a3 := Tryd.isAgg3
  z3 := Tryd.sizeOf3
  v3 := Tryd.zeroValue3
  t4 := Tryd.underlying4
  a4 := Tryd.isAgg4
  z4 := Tryd.sizeOf4
  v4 := Tryd.zeroValue4
  t5 := Tryd.underlying5
  a5 := Tryd.isAgg5
  z5 := Tryd.sizeOf5
  v5 := Tryd.zeroValue5
  t9 := Tryd.underlying9
  a9 := Tryd.isAgg9
  z9 := Tryd.sizeOf9
  v9 := Tryd.zeroValue9
  t46 := Tryd.underlying142
  a46 := Tryd.isAgg142
  z46 := Tryd.sizeOf142
  v46 := Tryd.zeroValue142
  t51 := Tryd.underlying156
  a51 := Tryd.isAgg156
  z51 := Tryd.sizeOf156
  v51 := Tryd.zeroValue156
  t146 := Tryd.underlying160
  a146 := Tryd.isAgg160
  z146 := Tryd.sizeOf160
  v146 := Tryd.zeroValue160
  g1 := by kernel_rfl }
open Go.RowKit Go.Lib in
theorem Tryd.stringslite_Index_one (s : ByteArray) (c : UInt8) (w : World) :
    Calls Tryd.prog 83 #[.string s, .string ⟨#[c]⟩] w fun e w' => e = .returned (.int .i64 (Lib.indexByte s.data.toList c)) ∧ w' = w := Any.stringslite_Index_one Tryd.lays219 s c w

end Go.Proofs

open Go.RowKit Go.Shelf
namespace Go.Proofs.YtpcgpcjleedilaaDoor
open Go Go.Proofs Fm

/-- A variable that holds an error, or none. -/
def ErrAt (w : World) (g : Nat) : Prop := ∃ ev, w.cell? ⟨g, 0, none⟩ = some ev ∧ (ev = .nilIface ∨ ∃ te pe, ev = .iface te pe)
theorem cell_lt {w : World} {a : Addr} {v : Value} (h : w.cell? a = some v) : a.block < w.heap.size := by
  obtain ⟨o, ho, _⟩ := cells_of_cell h
  exact (Array.getElem?_eq_some_iff.1 ho).1
theorem ErrAt.ext {w w' : World} {g : Nat} (h : ErrAt w g) (hE : Ext w w') : ErrAt w' g := by
  obtain ⟨ev, h1, h2⟩ := h
  exact ⟨ev, (hE.cell (p := ⟨g, 0, none⟩) (cell_lt h1)).trans h1, h2⟩
/-- What package ident reads of the world that is not its own. -/
structure KW (w : World) : Prop where
  tab : Tab w
  sx : ErrAt w 3
  rg : ErrAt w 4
theorem KW.ext {w w' : World} (h : KW w) (hE : Ext w w') : KW w' := ⟨h.tab.ext hE, h.sx.ext hE, h.rg.ext hE⟩
theorem itoa_any {n : Int} (h : isI64 n) {w : World} (ht : KW w) :
    Calls Tryd.prog 28 #[.int .i64 n] w fun e w' => e = .returned (.string (str (Lib.itoa n))) ∧ Ext w w' :=
  (Tryd.strconv_Itoa n h.1 h.2 w ht.tab).mono fun e w' ⟨h1, k, os, h2⟩ => ⟨h1, by rw [h2]; exact ((Ext.refl w).drewN k).trans (ext_grow _ os)⟩
theorem ext_bytesW (w : World) (e : TypeId) (s : ByteArray) : Ext w (Lib.bytesWorld w e s) :=
  ⟨rfl, rfl, rfl, by rw [Lib.bytesWorld_size]; omega, fun j hj => Lib.bytesWorld_at_old w _ _ j hj⟩
theorem i64_may {v : Int} (h : mayB v = true) : isI64 v := by
  have := mayB_iff.1 h
  unfold isI64; omega
/-- What number hands back. -/
def numV (s : List UInt8) : Int := (numI s).getD (-1)
theorem numV_none {s : List UInt8} (h : numI s = none) : numV s = -1 := by unfold numV; rw [h]; rfl
theorem numV_some {s : List UInt8} {n : Int} (h : numI s = some n) : numV s = n := by unfold numV; rw [h]; rfl
theorem numV_eq {s : List UInt8} : numV s = -1 ↔ numI s = none := by
  constructor
  · intro h
    cases e : numI s with
    | none => rfl
    | some n => rw [numV_some e] at h; have := (numI_iff.1 e).1; omega
  · exact numV_none
theorem numV_isI64 (s : List UInt8) : isI64 (numV s) := by
  cases e : numI s with
  | none => rw [numV_none e]; unfold isI64; omega
  | some n => rw [numV_some e]; have := (numI_iff.1 e).1; unfold isI64; omega
set_option maxHeartbeats 1000000 in
theorem idNumber_any (s : List UInt8) (hs : s.length ≤ 1000000) (w : World) (hw : KW w) :
    Calls Tryd.prog 25 #[.string (str s)] w fun e w' => e = .returned (.int .i64 (numV s)) ∧ Ext w w' := by
  have hsz := str_size s
  have hl := str_list s
  cases ha : Lib.atoiAll s with
  | range =>
    have HY := Lib.hid (show numV s = -1 from numV_none (by unfold numI; rw [ha]))
    obtain ⟨ev, h1, h2⟩ := hw.rg
    have HC := Lib.hid (Tryd.strconv_Atoi_range (str s) (by rw [hsz]; omega) (by rw [hl]; exact ha) ev w h1 h2)
    clear hw ha h1 h2 hl
    generalize Lib.atoiSat (str s).data.toList = m at HC
    go_enter Tryd.func25, Tryd.ntmps25
    go_wp2_with fail
    refine HC.out.mono ?_
    rintro e w1 ⟨N, rfl, -, -, hb⟩
    have HE := Lib.hid (show Ext w w1 from hb)
    clear hb HC
    go_wp2
    go_ret
    exact ⟨by rw [HY.out]; rfl, HE.out⟩
  | ok v =>
    have HX := Lib.hid (show numI s = if mayB v = true ∧ Lib.itoa v = s then some v else none by unfold numI; rw [ha])
    have HC := Lib.hid (Tryd.strconv_Atoi_ok (str s) (by rw [hsz]; omega) v (by rw [hl]; exact ha) w)
    have HW := Lib.hid hw
    clear hw ha hl
    go_enter Tryd.func25, Tryd.ntmps25
    go_wp2_with fail
    refine HC.out.mono ?_
    rintro e w1 ⟨rfl, hb⟩
    have hE : Ext w w1 := by
      rcases hb with rfl | ⟨t, rfl⟩
      · exact Ext.refl _
      · exact ext_bytesW _ _ _
    have HE := Lib.hid hE
    clear hb HC hE
    go_wp2_with fail
    refine (idMay_any v w1).mono ?_
    rintro e w2 ⟨rfl, rfl⟩
    cases hm : mayB v with
    | false =>
      have HY := Lib.hid (show numV s = -1 from numV_none (by rw [HX.out, hm]; simp))
      clear hm
      go_wp2
      go_ret
      exact ⟨by rw [HY.out]; rfl, HE.out⟩
    | true =>
      have hv := Lib.hid (i64_may hm)
      have HW1 := Lib.hid (HW.out.ext HE.out)
      have HX := Lib.hid (show numI s = if Lib.itoa v = s then some v else none by rw [HX.out, hm]; simp)
      clear hm
      go_wp2_with fail
      refine (itoa_any hv.out HW1.out).mono ?_
      rintro e w3 ⟨rfl, hE3⟩
      have HE3 := Lib.hid (HE.out.trans hE3)
      clear hE3
      have es : ((str (Lib.itoa v)).toList == (str s).toList) = decide (Lib.itoa v = s) := str_beq _ _
      by_cases hc : Lib.itoa v = s
      · have HY := Lib.hid (show numV s = v from numV_some (by rw [HX.out, if_pos hc]))
        have f0 : ((str (Lib.itoa v)).toList == (str s).toList) = true := by rw [es]; simpa using hc
        clear es hc
        go_wp2
        go_ret
        exact ⟨by rw [HY.out]; rfl, HE3.out⟩
      · have HY := Lib.hid (show numV s = -1 from numV_none (by rw [HX.out, if_neg hc]))
        have f0 : ((str (Lib.itoa v)).toList == (str s).toList) = false := by rw [es]; simpa using hc
        clear es hc
        go_wp2
        go_ret
        exact ⟨by rw [HY.out]; rfl, HE3.out⟩
  | _ =>
    have HY := Lib.hid (show numV s = -1 from numV_none (by unfold numI; rw [ha]))
    obtain ⟨ev, h1, h2⟩ := hw.sx
    have HC := Lib.hid (Tryd.strconv_Atoi_syntax (str s) (by rw [hsz]; omega) (by rw [hl, ha]; intro v h; cases h) (by rw [hl, ha]; intro h; cases h) ev w h1 h2)
    clear hw ha h1 h2 hl
    go_enter Tryd.func25, Tryd.ntmps25
    go_wp2_with fail
    refine HC.out.mono ?_
    rintro e w1 ⟨N, rfl, -, -, hb⟩
    have HE := Lib.hid (show Ext w w1 from hb)
    clear hb HC
    go_wp2
    go_ret
    exact ⟨by rw [HY.out]; rfl, HE.out⟩
theorem extract_strI (s : List UInt8) (a b : Nat) : (str s).extract a b = str ((s.take b).drop a) := by
  unfold str
  rw [ByteArray.extract_mk]
  congr 1
  apply Array.toList_inj.1
  simp [List.drop_take]
/-- The index of a byte. -/
theorem idxByte_at (a r : List UInt8) (c : UInt8) (h : ∀ d, d ∈ a → d ≠ c) : Lib.indexByte (a ++ c :: r) c = (a.length : Int) := by rw [← Lib.index_one]; exact Fm.index_one a r c h
theorem idxByte_no (a : List UInt8) (c : UInt8) (h : ∀ d, d ∈ a → d ≠ c) : Lib.indexByte a c = -1 := by rw [← Lib.index_one]; exact index_none a c h
set_option maxHeartbeats 1000000 in
theorem slCut_at (a r : List UInt8) (c : UInt8) (h : ∀ d, d ∈ a → d ≠ c) (hl : (a ++ c :: r).length ≤ 1000000) (w : World) :
    Calls Tryd.prog 66 #[.string (str (a ++ c :: r)), .string (str [c])] w fun e w' => e = .returned (.tuple #[.string (str a), .string (str r), .bool true]) ∧ Ext w w' := by
  have hI := Lib.hid (Tryd.stringslite_Index_one (str (a ++ c :: r)) c w)
  have hsz := str_size (a ++ c :: r)
  have hsc : (str [c]).size = 1 := str_size [c]
  have hi := idxByte_at a r c h
  rw [str_list] at hI
  rw [hi] at hI
  have e1 : (str (a ++ c :: r)).extract 0 a.length = str a := by rw [extract_strI, List.drop_zero, List.take_left' rfl]
  have e2 : (str (a ++ c :: r)).extract (a.length + 1) (str (a ++ c :: r)).size = str r := by rw [hsz, extract_strI, List.take_length, show a ++ c :: r = (a ++ [c]) ++ r by simp]; exact congrArg str (List.drop_left' (by simp))
  have hal : a.length + 1 ≤ (a ++ c :: r).length := by simp
  have E1 := Lib.hid e1
  have E2 := Lib.hid e2
  clear hi h e1 e2
  rw [hsz] at E2
  generalize (a ++ c :: r).length = N at *
  generalize str (a ++ c :: r) = S at *
  go_enter Tryd.func66, Tryd.ntmps66
  go_wp2_with fail
  refine hI.out.mono ?_
  rintro e w1 ⟨rfl, rfl⟩
  have hw : IntKind.i64.wrap ((a.length : Int) + 1) = (a.length : Int) + 1 := IntWalk.i64_in _ (by omega)
  have h0 : (0 : Int) ≤ (a.length : Int) + 1 := by omega
  have ht : ((a.length : Int) + 1).toNat = a.length + 1 := by omega
  go_wp2_with fail
  go_quiet (fail)
  go_wp2
  go_ret3
  exact ⟨by rw [← E1.out, ← E2.out]; rfl, (Ext.refl _).drewN nq⟩
set_option maxHeartbeats 1000000 in
theorem slCut_no (a : List UInt8) (c : UInt8) (h : ∀ d, d ∈ a → d ≠ c) (w : World) :
    Calls Tryd.prog 66 #[.string (str a), .string (str [c])] w fun e w' => e = .returned (.tuple #[.string (str a), .string (str []), .bool false]) ∧ Ext w w' := by
  have hI := Lib.hid (Tryd.stringslite_Index_one (str a) c w)
  have hi := idxByte_no a c h
  rw [str_list] at hI
  rw [hi] at hI
  clear hi h
  go_enter Tryd.func66, Tryd.ntmps66
  go_wp2_with fail
  refine hI.out.mono ?_
  rintro e w1 ⟨rfl, rfl⟩
  go_wp2
  go_ret3
  exact ⟨rfl, Ext.refl _⟩
/-- strings.Cut at one byte. -/
def CutPost (s : List UInt8) (c : UInt8) (w : World) (e : Ending) (w' : World) : Prop := e = .returned (.tuple #[.string (str (Lib.cut s [c]).1), .string (str (Lib.cut s [c]).2.1), .bool (Lib.cut s [c]).2.2]) ∧ Ext w w'
theorem slCut_any (s : List UInt8) (c : UInt8) (hs : s.length ≤ 1000000) (w : World) :
    Calls Tryd.prog 66 #[.string (str s), .string (str [c])] w (CutPost s c w) := by
  by_cases h : c ∈ s
  · obtain ⟨a, r, rfl, hk⟩ := first_of c s h
    refine (slCut_at a r c hk hs w).mono ?_
    rintro e w' ⟨h1, h2⟩
    unfold CutPost
    rw [cut_at a r c hk]
    exact ⟨h1, h2⟩
  · refine (slCut_no s c (fun d hd e => h (e ▸ hd)) w).mono ?_
    rintro e w' ⟨h1, h2⟩
    unfold CutPost
    rw [cut_no s c (fun d hd e => h (e ▸ hd))]
    exact ⟨h1, h2⟩
set_option maxHeartbeats 1000000 in
theorem cut_any (s : List UInt8) (c : UInt8) (hs : s.length ≤ 1000000) (w : World) :
    Calls Tryd.prog 48 #[.string (str s), .string (str [c])] w (CutPost s c w) := by
  have HC := Lib.hid (slCut_any s c hs w)
  go_enter Tryd.func48, Tryd.ntmps48
  go_wp2_with fail
  refine HC.out.mono ?_
  rintro e w1 ⟨rfl, hE⟩
  have HE := Lib.hid hE
  clear hE
  go_wp2
  go_ret3
  exact ⟨rfl, HE.out⟩
end Go.Proofs.YtpcgpcjleedilaaDoor

namespace Fm
open Go Go.RowKit

/-- The contract of an iterator that names the steps it makes of its own (Ab), what the body must keep (Kp), and what may come next (Nx). -/
def SeqAb {α : Type} (F : Fence) (n : Nat) (P : Program) (g : Nat) (lb : Array Value) (encs : α → Array Value) (Ab Kp : World → World → Prop) (S Sp : List α → Prop) (Nx : List α → α → Prop) (w : World) : Prop :=
  ∀ (l : Nat) (J Jx : List α → World → Prop) (W : World), Below w.heap.size w W → (∀ s X Y, J s X → Ab X Y → J s Y) → (∀ s X Y, Jx s X → Ab X Y → Jx s Y) →
    (∀ pre x X, J pre X → Nx pre x → YieldAt F (n - 1) P l (encs x) X fun e Y => (e = .returned (.bool true) ∧ J (pre ++ [x]) Y ∧ Kp X Y) ∨ (e = .returned (.bool false) ∧ Jx (pre ++ [x]) Y)) →
    J [] W →
    CallsIn F n P g (#[.func (.yield l) #[] #[]] ++ lb) W fun e Y => (∃ v, e = .returned v) ∧ ((∃ xs, S xs ∧ J xs Y) ∨ (∃ pre, Sp pre ∧ Jx pre Y))

variable {F : Fence} {n : Nat} {P : Program}

/-- The loop's two blocks of book-keeping. -/
def Kept2 (B : Nat) (r : Loop) (W : World) : Prop := W.heap[B + 1]? = some (.loop r) ∧ W.heap[B]? = some (.deferred (some []))
theorem Kept2.put {B : Nat} {r : Loop} {W : World} (h : Kept2 B r W) (r' : Loop) : Kept2 B r' (W.putObj (B + 1) (.loop r')) :=
  ⟨World.putObj_heap_same (Array.getElem?_eq_some_iff.1 h.1).1, (World.putObj_heap_other (by omega)).trans h.2⟩
theorem Kept2.from {B : Nat} {r : Loop} {W W' : World} (h : Kept2 B r W) (hk : KeepsFrom B W W') : Kept2 B r W' :=
  ⟨hk.same _ _ (by omega) h.1 rfl, hk.same _ _ (Nat.le_refl _) h.2 rfl⟩

theorem wpIn_rangeFunc_ab {α : Type} {g : Operand} {ps : Array Tmp} {assign body : Code} {Q : Exit → Act → World → Prop} {a : Act} {w : World}
    (hro : F.round = none) (h1 : 1 ≤ n) {gf : Nat} {lb : Array Value} (hg : a.eval g = .func (.func gf) #[] lb) (hFg : F.fn gf) (eg : ∀ args w, (callFunc gf args).run P w = .ok (.enter gf args) w)
    {encs : α → Array Value} {Ab Kp : World → World → Prop} {S Sp : List α → Prop} {Nx : List α → α → Prop} {w0 : World} (hseq : SeqAb F (n - 1) P gf lb encs Ab Kp S Sp Nx w0)
    (hb0 : Below w0.heap.size w0 w) (hps : ∀ x, (encs x).size = ps.size)
    (hAb : ∀ X Y, Ab X Y → ∀ k o, w.heap.size ≤ k → X.heap[k]? = some o → o.isCells = false → Y.heap[k]? = some o)
    (hKt : ∀ {A B C : World}, Kp A B → Kp B C → Kp A C) (hKb : ∀ (W : World) (l : Nat) (o o' : Obj), w.heap.size ≤ l → W.heap[l]? = some o → o.isCells = false → Kp W (W.putObj l o'))
    (I : List α → World → Prop) (Ix : Code → List α → World → Prop) (hI : OwnFrom w.heap.size I) (hIx : ∀ c, OwnFrom w.heap.size (Ix c))
    (aI : ∀ s X Y, I s X → Ab X Y → I s Y) (aIx : ∀ c s X Y, Ix c s X → Ab X Y → Ix c s Y) (h0 : I [] w) (a₁ : α → Act)
    (hassign : ∀ (l : Nat) (x : α) (W : World) (K : Act → World → Prop), K (a₁ x) W →
      assign.wpIn (F.inRound l) (n - 1 - 1) P (Exit.then K (fun _ _ _ => False)) { tmps := (ps.zip (encs x)).foldl (fun t (p, v) => t.setIfInBounds p v) a.tmps, defers := [] } W)
    (hbody : ∀ (l : Nat) (pre : List α) (x : α) (W : World), I pre W → Nx pre x → body.wpIn (F.inRound l) (n - 1 - 1) P (ownPostG w.heap.size Kp I Ix (pre ++ [x]) W) (a₁ x) W)
    (hdone : ∀ (D : Nat) (xs : List α) (W : World), w.heap.size ≤ D → S xs → I xs W → W.heap[D]? = some (.deferred (some [])) → Q .normal { a with defers := { target := .collected D, args := #[] } :: a.defers } W)
    (hstop : ∀ (D : Nat) (c : Code) (pre : List α) (W : World), w.heap.size ≤ D → Sp pre → Ix c pre W → W.heap[D]? = some (.deferred (some [])) → c.wpIn F n P Q { a with defers := { target := .collected D, args := #[] } :: a.defers } W) :
    (Code.rangeFunc g ps assign body).wpIn F n P Q a w := by
  refine wpIn_rangeFunc fun fn hfn => ?_
  rw [hro]
  obtain ⟨rec, hrec⟩ : ∃ rec : LoopState → Option Code → Loop, rec = fun st pe => { state := st, pending := pe, fn, tmps := a.tmps, params := ps, assign, body, defers := w.heap.size } := ⟨_, rfl⟩
  have hK : Kept2 w.heap.size (rec .ready none) ((w.alloc (.deferred (some []))).alloc (.loop (rec .ready none))) := by
    constructor
    · have := World.alloc_heap_new (w.alloc (.deferred (some []))) (.loop (rec .ready none)); rwa [World.size_alloc] at this
    · exact (Below.heap_alloc _ _ _ (by simp)).trans (World.alloc_heap_new w _)
  have hI1 : I [] ((w.alloc (.deferred (some []))).alloc (.loop (rec .ready none))) := hI.alloc _ (hI.alloc _ h0)
  have hb1 : Below w0.heap.size w0 ((w.alloc (.deferred (some []))).alloc (.loop (rec .ready none))) :=
    hb0.trans ((((Below.refl _ w).alloc (Nat.le_refl _) _).alloc (by simp) _).mono hb0.size)
  have hrun := run_enterLoop_outer (P := P) (w := w) fn a.tmps ps assign body
  rw [show (Loop.mk LoopState.ready none fn a.tmps ps assign body w.heap.size) = rec .ready none from by rw [hrec]] at hrun
  generalize (w.alloc (.deferred (some []))).alloc (.loop (rec .ready none)) = W1 at *
  refine ⟨w.heap.size + 1, [{ target := .collected w.heap.size, args := #[] }], W1, { target := .fn (.func gf) lb, args := #[.func (.yield (w.heap.size + 1)) #[] #[]] }, W1, gf,
    #[.func (.yield (w.heap.size + 1)) #[] #[]] ++ lb, W1, hrun, ?_, ?_, ?_, fun _ => h1, ?_⟩
  · simp only [resolve, hg]
    simp [go_sem]
  · intro f' hf'; simp [Target.leads] at hf'; subst hf'; exact hFg
  · simp [invoke, go_sem, eg]
  · have kAb : ∀ {r X Y}, Kept2 w.heap.size r X → Ab X Y → Kept2 w.heap.size r Y := fun h k => ⟨hAb _ _ k _ _ (by omega) h.1 rfl, hAb _ _ k _ _ (Nat.le_refl _) h.2 rfl⟩
    refine (hseq (w.heap.size + 1) (fun pre W => I pre W ∧ Kept2 w.heap.size (rec .ready none) W) (fun pre W => ∃ c, Ix c pre W ∧ Kept2 w.heap.size (rec .done (some c)) W) W1 hb1
      (fun s X Y h k => ⟨aI s X Y h.1 k, kAb h.2 k⟩) (fun s X Y ⟨c, h, h'⟩ k => ⟨c, aIx c s X Y h k, kAb h' k⟩) ?_ ⟨hI1, hK⟩).mono ?_
    · rintro pre x W ⟨hi, hk⟩ hnx
      have hy := run_yield (P := P) (args := encs x) hk.1 (by rw [hrec]; exact hps x)
      rw [hrec] at hy
      refine ⟨fn, _, assign, body, hy, roundIn_of_wpIn hfn (hassign _ x W _ ⟨_, run_beginRound hk.1 (by rw [hrec]), ?_⟩)⟩
      have hk2 := hk.put { rec .ready none with state := .busy }
      have hw2 : Kp W _ := hKb W (w.heap.size + 1) _ (.loop { rec .ready none with state := .busy }) (by omega) hk.1 rfl
      refine wpIn_mono (hbody _ pre x _ (hI.putObj _ hi (by omega) hk.1 rfl) hnx) ?_
      have fin : ∀ (jump : Option Code) (W3 : World), KeepsFrom w.heap.size (W.putObj (w.heap.size + 1) (.loop { rec .ready none with state := .busy })) W3 →
          (Instr.endRound (w.heap.size + 1) jump).run P W3 = .ok (.bool jump.isNone) (W3.putObj (w.heap.size + 1) (.loop (rec (if jump.isNone then .ready else .done) jump))) ∧
          W3.heap[w.heap.size + 1]? = some (.loop { rec .ready none with state := .busy }) ∧
          Kept2 w.heap.size (rec (if jump.isNone then .ready else .done) jump) (W3.putObj (w.heap.size + 1) (.loop (rec (if jump.isNone then .ready else .done) jump))) := fun jump W3 hk3 => by
        have hl3 := hk2.from hk3
        have := run_endRound (P := P) jump hl3.1
        rw [hrec] at this
        refine ⟨by rw [hrec]; exact this, hl3.1, hl3.put _⟩
      rintro e a3 W3 hp
      cases e with
      | normal =>
        obtain ⟨hr, hl3, hk4⟩ := fin none W3 hp.1
        exact ⟨_, _, hr, .inl ⟨rfl, ⟨hI.putObj _ hp.2.2 (by omega) hl3 rfl, hk4⟩, hKt (hKt hw2 hp.2.1) (hKb _ _ _ _ (by omega) hl3 rfl)⟩⟩
      | ret =>
        obtain ⟨hr, hl3, hk4⟩ := fin (some .ret) W3 hp.1
        exact ⟨_, _, hr, .inr ⟨rfl, .ret, (hIx _).putObj _ hp.2 (by omega) hl3 rfl, hk4⟩⟩
      | exit id =>
        obtain ⟨hr, hl3, hk4⟩ := fin (some (.exit id)) W3 hp.1
        exact ⟨_, _, hr, .inr ⟨rfl, .exit id, (hIx _).putObj _ hp.2 (by omega) hl3 rfl, hk4⟩⟩
      | goto t =>
        obtain ⟨hr, hl3, hk4⟩ := fin (some (.goto t)) W3 hp.1
        exact ⟨_, _, hr, .inr ⟨rfl, .goto t, (hIx _).putObj _ hp.2 (by omega) hl3 rfl, hk4⟩⟩
      | panic ch => exact hp.elim
      | outgrown => exact hp.elim
    · rintro e W2 ⟨⟨v, rfl⟩, (⟨xs, hS, hi, hk⟩ | ⟨pre, hSp, c, hi, hk⟩)⟩
      · exact ⟨none, _, by have := run_endLoop (P := P) hk.1 (by rw [hrec]; simp); rw [hrec] at this; exact this, hdone _ xs _ (Nat.le_refl _) hS (hI.putObj _ hi (by omega) hk.1 rfl) ((World.putObj_heap_other (by omega)).trans hk.2)⟩
      · exact ⟨some c, _, by have := run_endLoop (P := P) hk.1 (by rw [hrec]; simp); rw [hrec] at this; exact this, hstop _ c pre _ (Nat.le_refl _) hSp ((hIx c).putObj _ hi (by omega) hk.1 rfl) ((World.putObj_heap_other (by omega)).trans hk.2)⟩
end Fm

open Go.RowKit Go.Shelf
namespace Go.Proofs.YtpcgpcjleedilaaDoor
open Go Go.Proofs Fm
attribute [local go_sem] Oper.semAt_some

/-- Blocks that lie as they lay. -/
def KeepsB (bs : List Nat) (X Y : World) : Prop := ∀ b, b ∈ bs → ∀ o, X.heap[b]? = some o → Y.heap[b]? = some o
theorem KeepsB.trans {bs : List Nat} {X Y Z : World} (h : KeepsB bs X Y) (k : KeepsB bs Y Z) : KeepsB bs X Z := fun b hb o ho => k b hb o (h b hb o ho)
/-- What may come next. -/
def NextP (s : List UInt8) (pre : List (List UInt8)) (x : List UInt8) : Prop := ∃ post, split47 s = pre ++ x :: post

theorem splitSeq_any (s : List UInt8) (w : World) :
    Calls Tryd.prog 24 #[.string (str s), .string (str [47])] w fun e w' => e = .returned (.func (.func 61) #[] #[.pointer (some ⟨w.heap.size + 1, 0, none⟩), .pointer (some ⟨w.heap.size, 0, none⟩), .pointer (some ⟨w.heap.size + 2, 0, none⟩)]) ∧
      ((w.alloc (.cells #[.string (str s)] 9)).alloc (.cells #[.string (str [47])] 9)).alloc (.cells #[.int .i64 0] 3) = w' := by
  have HC : ∀ w : World, Hid (Calls Tryd.prog 46 #[.string (str s), .string (str [47]), .int .i64 0] w fun e w' => e = .returned (.func (.func 61) #[] #[.pointer (some ⟨w.heap.size + 1, 0, none⟩), .pointer (some ⟨w.heap.size, 0, none⟩), .pointer (some ⟨w.heap.size + 2, 0, none⟩)]) ∧
      ((w.alloc (.cells #[.string (str s)] 9)).alloc (.cells #[.string (str [47])] 9)).alloc (.cells #[.int .i64 0] 3) = w') := fun w => Lib.hid (by
    go_enter Tryd.func46, Tryd.ntmps46
    go_wp2
    go_ret
    exact ⟨rfl, rfl⟩)
  go_enter Tryd.func24, Tryd.ntmps24
  go_wp2_with fail
  refine (HC _).out.mono ?_
  rintro e w1 ⟨rfl, rfl⟩
  go_wp2
  go_ret
  exact ⟨rfl, rfl⟩
set_option maxHeartbeats 1000000 in
theorem splitSeq1_in (n l bS bP bV : Nat) (s0 : List UInt8) (hl : s0.length ≤ 1000000) (hne : bS ≠ bP ∧ bS ≠ bV) (J Jx : List (List UInt8) → World → Prop)
    (aJ : ∀ p X u, J p X → J p (X.setCell ⟨bS, 0, none⟩ u))
    (hY : ∀ pre x X, J pre X → NextP s0 pre x → YieldAt Fence.wide (n - 1) Tryd.prog l #[.string (str x)] X fun e Y =>
      (e = .returned (.bool true) ∧ J (pre ++ [x]) Y ∧ KeepsB [bS, bP, bV] X Y) ∨ (e = .returned (.bool false) ∧ Jx (pre ++ [x]) Y))
    (W : World) (hS : Boxed W bS 9 (.string (str s0))) (hP : Boxed W bP 9 (.string (str [47]))) (hV : Boxed W bV 3 (.int .i64 0)) (h0 : J [] W) :
    CallsIn Fence.wide n Tryd.prog 61 #[.func (.yield l) #[] #[], .pointer (some ⟨bP, 0, none⟩), .pointer (some ⟨bS, 0, none⟩), .pointer (some ⟨bV, 0, none⟩)] W fun e W' =>
      (∃ v, e = .returned v) ∧ (J (split47 s0) W' ∨ ∃ pre, Jx pre W') := by
  have hfn : ∀ f, Fence.wide.fn f := fun _ => trivial
  have hdp : Fence.wide.depth.isSome = false := rfl
  have hI : ∀ (r : List UInt8) (w : World), Calls Tryd.prog 63 #[.string (str r), .string (str [47])] w fun e w' => e = .returned (.int .i64 (Lib.indexByte r 47)) ∧ w = w' := fun r w =>
    (Tryd.strings_Index_one (str r) 47 w).mono fun e w' ⟨h1, h2⟩ => ⟨by rw [h1, str_list], h2.symm⟩
  refine callsIn_of_wp Tryd.func61 rfl trivial ?_ rfl
  simp only [Tryd.ntmps61, List.size_toArray, List.length_cons, List.length_nil, Nat.reduceAdd, Nat.reduceSub, Array.replicate_succ, Array.replicate_zero, List.push_toArray, List.append_toArray, List.nil_append, List.cons_append]
  have c1 := hP.cell
  have hI := Lib.hid hI
  have HY := Lib.hid hY
  have HJ := Lib.hid aJ
  clear hY aJ
  have hs1 : (str [47]).size = 1 := rfl
  gi_wp2
  gi_loopw [7] (fun _ wr => ∃ (pre : List (List UInt8)) (r : List UInt8), Hid (split47 s0 = pre ++ split47 r) ∧ Hid (r.length ≤ s0.length) ∧ Hid (Boxed wr bS 9 (.string (str r)) ∧ Boxed wr bP 9 (.string (str [47])) ∧ Boxed wr bV 3 (.int .i64 0)) ∧ Hid (J pre wr))
    (fun _ w => match w.cell? ⟨bS, 0, none⟩ with | some (.string b) => b.size | _ => 0)
  case atStart => exact ⟨[], s0, Lib.hid rfl, Lib.hid (Nat.le_refl _), Lib.hid ⟨hS, hP, hV⟩, Lib.hid h0⟩
  case round =>
    obtain ⟨pre, r, HR, HL, HB, HJr⟩ := hrel
    have hrl : r.length ≤ 1000000 := Nat.le_trans HL.out hl
    have c0 := HB.out.1.cell
    have c1 := HB.out.2.1.cell
    have c2 := HB.out.2.2.cell
    have f0 := HB.out.1.frozen
    clear hS hP hV h0
    have hIr := hI.out r wr
    by_cases hm : (47 : UInt8) ∈ r
    · obtain ⟨a, r', rfl, hk⟩ := first_of 47 r hm
      rw [idxByte_at a r' 47 hk] at hIr
      have hIr := Lib.hid hIr
      have hal : a.length + 1 ≤ (a ++ 47 :: r').length := by simp
      have e1 : (str (a ++ 47 :: r')).extract 0 a.length = str a := by rw [extract_strI]; simp
      have e2 : (str (a ++ 47 :: r')).extract (a.length + 1) (a ++ 47 :: r').length = str r' := by rw [extract_strI, List.take_length, show a ++ 47 :: r' = (a ++ [47]) ++ r' by simp]; exact congrArg str (List.drop_left' (by simp))
      have hsz := str_size (a ++ 47 :: r')
      have hsp : split47 (a ++ 47 :: r') = a :: split47 r' := split47_at a r' (fun c hc => hk c hc)
      have HR := Lib.hid (show split47 s0 = pre ++ a :: split47 r' by rw [HR.out, hsp])
      have HLr := Lib.hid (show r'.length ≤ s0.length by have := HL.out; simp at this; omega)
      have hlt : r'.length < (a ++ 47 :: r').length := by simp; omega
      clear hsp hk hm
      generalize (a ++ 47 :: r').length = N at *
      generalize str (a ++ 47 :: r') = S at *
      obtain ⟨fn, tmps, assign, body, hy, hR⟩ := HY.out pre a wr HJr.out ⟨_, HR.out⟩
      clear HJr
      gi_wp2_with (gi_at_call 63; refine (callsIn_wide.2 hIr.out).mono ?_; rintro e w' ⟨rfl, rfl⟩)
      refine hR.mono ?_
      rintro e W3 (⟨rfl, hJ3, hk3⟩ | ⟨rfl, hJx3⟩)
      · have HB3 : Hid (Boxed W3 bS 9 (.string S) ∧ Boxed W3 bP 9 (.string (str [47])) ∧ Boxed W3 bV 3 (.int .i64 0)) := Lib.hid ⟨hk3 _ (by simp) _ HB.out.1, hk3 _ (by simp) _ HB.out.2.1, hk3 _ (by simp) _ HB.out.2.2⟩
        have d0 := HB3.out.1.cell
        have d1 := HB3.out.2.1.cell
        have g0 := HB3.out.1.frozen
        have HJ3 := Lib.hid (HJ.out _ _ (.string (str r')) hJ3)
        have HB4 : Hid (Boxed (W3.setCell ⟨bS, 0, none⟩ (.string (str r'))) bS 9 (.string (str r')) ∧ Boxed (W3.setCell ⟨bS, 0, none⟩ (.string (str r'))) bP 9 (.string (str [47])) ∧ Boxed (W3.setCell ⟨bS, 0, none⟩ (.string (str r'))) bV 3 (.int .i64 0)) :=
          Lib.hid ⟨HB3.out.1.set _, HB3.out.2.1.other (fun e => hne.1 e.symm) _, HB3.out.2.2.other (fun e => hne.2 e.symm) _⟩
        have c0' := c0
        clear hJ3 hk3 HB3 c0 c1 c2 f0
        gi_wp2
        go_roundw
        case rel => exact ⟨pre ++ [a], r', Lib.hid (by rw [HR.out]; simp), HLr, HB4, HJ3⟩
        case measure =>
          have m1 := HB4.out.1.cell
          simp only [m1, c0']
          rw [str_size, hsz]; exact hlt
      · gi_wp2
        refine bodyPost_ret (results_none rfl _ _ _) rfl ?_
        exact ⟨⟨_, rfl⟩, .inr ⟨_, hJx3⟩⟩
    · have hIr' := hIr
      rw [idxByte_no r 47 (fun d hd e => hm (e ▸ hd))] at hIr'
      have hIr := Lib.hid hIr'
      have hsp := split47_no r (fun d hd e => hm (e ▸ hd))
      have HR := Lib.hid (show split47 s0 = pre ++ [r] by rw [HR.out, hsp])
      obtain ⟨fn, tmps, assign, body, hy, hR⟩ := HY.out pre r wr HJr.out ⟨[], HR.out⟩
      clear HJr hsp hIr' hm
      gi_wp2_with (gi_at_call 63; refine (callsIn_wide.2 hIr.out).mono ?_; rintro e w' ⟨rfl, rfl⟩)
      refine hR.mono ?_
      rintro e W3 (⟨rfl, hJ3, hk3⟩ | ⟨rfl, hJx3⟩)
      · have HJ3 := Lib.hid hJ3
        clear hJ3
        gi_wp2
        go_end0
        exact ⟨⟨_, rfl⟩, .inl (by rw [HR.out]; exact HJ3.out)⟩
      · gi_wp2
        go_end0
        exact ⟨⟨_, rfl⟩, .inr ⟨_, hJx3⟩⟩
/-- The iterator's contract. -/
theorem splitSeq1_stops (n bS bP bV : Nat) (s : List UInt8) (hl : s.length ≤ 1000000) (hne : bS ≠ bP ∧ bS ≠ bV) (w : World) (hS : Boxed w bS 9 (.string (str s))) (hP : Boxed w bP 9 (.string (str [47]))) (hV : Boxed w bV 3 (.int .i64 0)) :
    SeqAb Fence.wide n Tryd.prog 61 #[.pointer (some ⟨bP, 0, none⟩), .pointer (some ⟨bS, 0, none⟩), .pointer (some ⟨bV, 0, none⟩)] (fun x => #[.string (str x)]) (fun X Y => ∃ u, Y = X.setCell ⟨bS, 0, none⟩ u) (KeepsB [bS, bP, bV])
      (fun xs => xs = split47 s) (fun _ => True) (NextP s) w := by
  intro l J Jx W hW aJ aJx hY h0
  have hk : ∀ {b t v}, Boxed w b t v → Boxed W b t v := fun h => (hW.block _ h.lt).trans h
  refine (splitSeq1_in n l bS bP bV s hl hne J Jx (fun p X u h => aJ p X _ h ⟨u, rfl⟩) hY W (hk hS) (hk hP) (hk hV) h0).mono ?_
  rintro e W' ⟨hv, h | ⟨pre, h⟩⟩
  · exact ⟨hv, .inl ⟨_, rfl, h⟩⟩
  · exact ⟨hv, .inr ⟨pre, trivial, h⟩⟩
end Go.Proofs.YtpcgpcjleedilaaDoor

open Go.RowKit Go.Shelf
namespace Go.Proofs.YtpcgpcjleedilaaDoor
open Go Go.Proofs Fm

/-- A box of two cells, both written. -/
def set2W (w : World) (b : Nat) (x y : Value) : World := (w.setCell ⟨b, 0, none⟩ x).setCell ⟨b, 1, none⟩ y
theorem set2_facts {w0 w : World} {b : Nat} {c0 c1 x y : Value} (hE : Ext w0 w) (hb : BoxL w b [c0, c1]) (hw : w0.heap.size ≤ b) : Ext w0 (set2W w b x y) ∧ BoxL (set2W w b x y) b [x, y] := by
  refine ⟨(hE.setCell (p := ⟨b, 0, none⟩) hw _).setCell (p := ⟨b, 1, none⟩) hw _, ?_⟩
  have h1 := hb.set 0 (by simp) x
  have h2 := h1.set 1 (by simp) y
  exact h2
theorem set2_far {w : World} {b b' : Nat} {vs : List Value} (h : BoxL w b' vs) (hne : b' ≠ b) (x y : Value) : BoxL (set2W w b x y) b' vs :=
  (h.kept (grown_set _ b 0 _) (fun e => hne (by cases e; rfl))).kept (grown_set _ b 1 _) (fun e => hne (by cases e; rfl))
/-- What step hands back. -/
def StepPost (s : List UInt8) (w : World) (e : Ending) (w' : World) : Prop :=
  ∃ x : Stp, stpWf x ∧ e = .returned (.tuple #[.agg #[.string (str x.name), .int .i64 x.place], .bool (stepP s).isSome]) ∧ (stepP s = none ∨ stepP s = some x) ∧ Ext w w'
theorem stepZero (s : List UInt8) (w : World) {w' : World} (h : stepP s = none) (hE : Ext w w') : StepPost s w (.returned (.tuple #[.agg #[.string { data := #[] }, .int .i64 0], .bool false])) w' :=
  ⟨⟨[], 0⟩, ⟨by simp, by unfold isI64; simp⟩, by rw [h]; rfl, .inl h, hE⟩
theorem stepEnd {s nm : List UInt8} {pl : Int} {w w' : World} (h : stepP s = if nameB nm = true then some ⟨nm, pl⟩ else none) (hn : nm.length ≤ 9223372036854775807) (hp : isI64 pl) (hE : Ext w w') :
    StepPost s w (.returned (.tuple #[.agg #[.string (str nm), .int .i64 pl], .bool (nameB nm)])) w' := by
  refine ⟨⟨nm, pl⟩, ⟨hn, hp⟩, ?_, ?_, hE⟩
  · rw [h]; cases nameB nm <;> rfl
  · rw [h]; cases nameB nm
    · exact .inl rfl
    · exact .inr rfl
set_option maxHeartbeats 2000000 in
theorem idStep_any (s : List UInt8) (hs : s.length ≤ 1000000) (w : World) (hw : KW w) :
    Calls Tryd.prog 26 #[.string (str s)] w (StepPost s w) := by
  have HX := Lib.hid (show stepP s = if (Lib.cut s [91]).2.2 = true then
    if Lib.hasSuffix (Lib.cut s [91]).2.1 [93] = true then (numI (Lib.trimSuffix (Lib.cut s [91]).2.1 [93])).bind fun n => if nameB (Lib.cut s [91]).1 = true then some ⟨(Lib.cut s [91]).1, n⟩ else none else none
  else if nameB (Lib.cut s [91]).1 = true then some ⟨(Lib.cut s [91]).1, -1⟩ else none from rfl)
  have HC := fun w => Lib.hid (cut_any s 91 hs w)
  have hlc : (Lib.cut s [91]).1.length ≤ 1000000 ∧ (Lib.cut s [91]).2.1.length ≤ 1000000 := by
    by_cases h : (91 : UInt8) ∈ s
    · obtain ⟨a, r, rfl, hk⟩ := first_of 91 s h
      rw [cut_at a r 91 hk]
      simp at hs ⊢
      omega
    · rw [cut_no s 91 (fun d hd e => h (e ▸ hd))]
      exact ⟨hs, by simp⟩
  unfold CutPost at HC
  generalize Lib.cut s [91] = cc at *
  obtain ⟨nm, rs, ys⟩ := cc
  have HX := Lib.hid (show stepP s = if ys = true then
    if Lib.hasSuffix rs [93] = true then (numI (Lib.trimSuffix rs [93])).bind fun n => if nameB nm = true then some ⟨nm, n⟩ else none else none
  else if nameB nm = true then some ⟨nm, -1⟩ else none from HX.out)
  have hln : nm.length ≤ 1000000 := hlc.1
  have hlr : rs.length ≤ 1000000 := hlc.2
  clear hlc
  have HE0 := Lib.hid ((Ext.refl w).alloc (.cells #[.string { data := #[] }, .int .i64 0] 27))
  have hb := BoxL.new w [.string { data := #[] }, .int .i64 0] 27
  have HW := Lib.hid hw
  clear hw
  go_enter Tryd.func26, Tryd.ntmps26
  go_upto_region 1 with (fail)
  generalize w.alloc (.cells #[.string { data := #[] }, .int .i64 0] 27) = W1 at *
  have hz0 := hb.lt
  have HB := Lib.hid hb
  clear hb
  go_wp2_with fail
  refine (HC _).out.mono ?_
  rintro e w2 ⟨rfl, hE⟩
  have HB2 := Lib.hid (HB.out.ext hE)
  have HE2 := Lib.hid (HE0.out.trans hE)
  have hz2 : w.heap.size < w2.heap.size := HB2.out.lt
  clear hE HB HC HE0
  have hE3 := HE2.out.alloc (.cells #[.string (str nm), .int .i64 (-1)] 27)
  have hb3 := BoxL.new w2 [.string (str nm), .int .i64 (-1)] 27
  have hB3 := HB2.out.ext ((Ext.refl w2).alloc (.cells #[.string (str nm), .int .i64 (-1)] 27))
  go_upto_region 3 with (fail)
  generalize w2.alloc (.cells #[.string (str nm), .int .i64 (-1)] 27) = W3 at *
  generalize w2.heap.size = OB at *
  have HE3 := Lib.hid hE3
  have HO3 := Lib.hid hb3
  have HB3 := Lib.hid hB3
  clear hE3 hb3 hB3 HE2 HB2
  have hne : w.heap.size ≠ OB := by omega
  cases ys with
  | false =>
    have HXn := Lib.hid (show stepP s = if nameB nm = true then some ⟨nm, -1⟩ else none from by rw [HX.out, if_neg (by simp)])
    have o0 := HO3.out.cell 0 _ rfl
    have o1 := HO3.out.cell 1 _ rfl
    have hzB := HB3.out.lt
    go_upto_region 8 with (fail)
    clear HX
    go_region_with ((go_at_call 31; refine (name_any nm (by omega) _).mono ?_; rintro e w5 ⟨rfl, hE5⟩; have hE6 := (Ext.refl W3).drew.trans hE5; have q0 := (HO3.out.ext hE6).cell 0 _ rfl; have q1 := (HO3.out.ext hE6).cell 1 _ rfl; have HB5 := (HB3.out.ext hE6); have r0 := HB5.cell 0 _ rfl; have r1 := HB5.cell 1 _ rfl; have s0 := HB5.free 0; have s1 := HB5.free 1; have HB5 := Lib.hid HB5; have HE6 := Lib.hid (HE3.out.trans hE6); clear hE5 hE6))
    all_goals
      have hs2 := set2_facts (x := .string (str nm)) (y := .int .i64 (-1)) HE6.out HB5.out (Nat.le_refl _)
      have c0 := hs2.2.cell 0 _ rfl
      have c1 := hs2.2.cell 1 _ rfl
      have HZ := Lib.hid (stepEnd (show stepP s = if nameB nm = true then some ⟨nm, -1⟩ else none from HXn.out) (by omega) (by unfold isI64; omega) hs2.1)
      clear hs2 q0 q1 r0 r1 s0 s1 o0 o1
      go_wp2
      change bodyPost _ _ _ _ _ (set2W w5 w.heap.size (.string (str nm)) (.int .i64 (-1)))
      generalize set2W w5 w.heap.size (.string (str nm)) (.int .i64 (-1)) = Wn at *
      exact bodyPost_ret (v := .tuple #[.agg #[.string (str nm), .int .i64 (-1)], .bool (nameB nm)]) (by simp [results, Tryd.results26, go_sem, c0, c1]) rfl HZ.out
  | true =>
    have HXy := Lib.hid (show stepP s = if Lib.hasSuffix rs [93] = true then (numI (Lib.trimSuffix rs [93])).bind fun n => if nameB nm = true then some ⟨nm, n⟩ else none else none from by rw [HX.out, if_pos rfl])
    clear HX
    have hCS := Lib.hid (Tryd.strings_CutSuffix (str rs) (str [93]) W3 (by rw [str_size]; omega))
    rw [str_list, str_list] at hCS
    have hlt : (Lib.trimSuffix rs [93]).length ≤ 1000000 := by
      cases h : Lib.hasSuffix rs [93] with
      | true =>
        obtain ⟨a, rfl⟩ := suffix_cases h
        rw [trimSuffix_snoc]
        simp at hlr; omega
      | false =>
        unfold Lib.trimSuffix
        rw [if_neg (by simp [h])]; exact hlr
    generalize Lib.trimSuffix rs [93] = ds at *
    generalize Lib.hasSuffix rs [93] = hsf at *
    go_wp2_with fail
    refine hCS.out.mono ?_
    rintro e w4 ⟨rfl, rfl⟩
    go_wp2_with fail
    change Calls _ _ #[.string (str ds)] _ _
    have HW3 := Lib.hid (HW.out.ext HE3.out)
    refine (idNumber_any ds hlt _ HW3.out).mono ?_
    rintro e w5 ⟨rfl, hE5⟩
    have HNI := Lib.hid (numV_isI64 ds)
    have HNE := Lib.hid (@numV_eq ds)
    have HNS : Hid (numI ds = if numV ds = -1 then none else some (numV ds)) := Lib.hid (by
      cases h : numI ds with
      | none => rw [numV_none h]; rfl
      | some n => rw [numV_some h]; have := (numI_iff.1 h).1; rw [if_neg (by omega)])
    have hO5 := HO3.out.ext hE5
    have hB5 := HB3.out.ext hE5
    have o0 := hO5.cell 0 _ rfl
    have o1 := hO5.cell 1 _ rfl
    have f1 := hO5.free 1
    have hO6 := hO5.set 1 (by simp) (.int .i64 (numV ds))
    have hB6 := hB5.kept (grown_set w5 OB 1 (.int .i64 (numV ds))) (fun e => hne (by cases e; rfl))
    have hE6 := (HE3.out.trans hE5).setCell (p := ⟨OB, 1, none⟩) (by show w.heap.size ≤ OB; omega) (.int .i64 (numV ds))
    have HO5 := Lib.hid hO6
    have HB5 := Lib.hid hB6
    have HE5 := Lib.hid hE6
    clear hO5 hB5 hO6 hB6 hE5 hE6 HE3 HB3 HO3
    generalize numV ds = NV at *
    go_upto_region 6 with (fail)
    generalize w5.setCell ⟨OB, 1, none⟩ (.int .i64 NV) = W6 at *
    clear o0 o1 f1
    have o0 := HO5.out.cell 0 _ rfl
    have o1 := HO5.out.cell 1 _ rfl
    cases hsf with
    | false =>
      have HSN := Lib.hid (show stepP s = none by rw [HXy.out]; simp)
      have hsB := set2_facts (x := .string { data := #[] }) (y := .int .i64 0) HE5.out HB5.out (Nat.le_refl _)
      have c0 := hsB.2.cell 0 _ rfl
      have c1 := hsB.2.cell 1 _ rfl
      have HZ := Lib.hid (stepZero s w HSN.out hsB.1)
      have r0 := HB5.out.cell 0 _ rfl
      have r1 := HB5.out.cell 1 _ rfl
      have s0 := HB5.out.free 0
      have s1 := HB5.out.free 1
      clear hsB
      go_wp2
      change bodyPost _ _ _ _ _ (set2W W6 w.heap.size (.string { data := #[] }) (.int .i64 0))
      generalize set2W W6 w.heap.size (.string { data := #[] }) (.int .i64 0) = Wn at *
      exact bodyPost_ret (v := .tuple #[.agg #[.string { data := #[] }, .int .i64 0], .bool false]) (by simp [results, Tryd.results26, go_sem, c0, c1]) rfl HZ.out
    | true =>
    by_cases hn : NV = -1
    · have HSN := Lib.hid (show stepP s = none by rw [HXy.out, HNS.out, if_pos hn]; simp)
      have ht : (NV == -1) = true := by simp [hn]
      clear hn
      have hsB := set2_facts (x := .string { data := #[] }) (y := .int .i64 0) HE5.out HB5.out (Nat.le_refl _)
      have c0 := hsB.2.cell 0 _ rfl
      have c1 := hsB.2.cell 1 _ rfl
      have HZ := Lib.hid (stepZero s w HSN.out hsB.1)
      have r0 := HB5.out.cell 0 _ rfl
      have r1 := HB5.out.cell 1 _ rfl
      have s0 := HB5.out.free 0
      have s1 := HB5.out.free 1
      clear hsB HNS HNE HNI
      go_wp2
      change bodyPost _ _ _ _ _ (set2W W6 w.heap.size (.string { data := #[] }) (.int .i64 0))
      generalize set2W W6 w.heap.size (.string { data := #[] }) (.int .i64 0) = Wn at *
      exact bodyPost_ret (v := .tuple #[.agg #[.string { data := #[] }, .int .i64 0], .bool false]) (by simp [results, Tryd.results26, go_sem, c0, c1]) rfl HZ.out
    · have HXv := Lib.hid (show stepP s = if nameB nm = true then some ⟨nm, NV⟩ else none by rw [HXy.out, HNS.out, if_neg hn]; simp)
      have ht : (NV == -1) = false := by simp [hn]
      clear hn
      go_upto_region 8 with (fail)
      go_region_with ((go_at_call 31; refine (name_any nm (by omega) _).mono ?_; rintro e w7 ⟨rfl, hE6⟩; have hE7 := (Ext.refl W6).drew.trans hE6; have q0 := (HO5.out.ext hE7).cell 0 _ rfl; have q1 := (HO5.out.ext hE7).cell 1 _ rfl; have HB7 := (HB5.out.ext hE7); have r0 := HB7.cell 0 _ rfl; have r1 := HB7.cell 1 _ rfl; have s0 := HB7.free 0; have s1 := HB7.free 1; have HB7 := Lib.hid HB7; have HE6 := Lib.hid (HE5.out.trans hE7); clear hE6 hE7))
      all_goals
        have hs2 := set2_facts (x := .string (str nm)) (y := .int .i64 NV) HE6.out HB7.out (Nat.le_refl _)
        have c0 := hs2.2.cell 0 _ rfl
        have c1 := hs2.2.cell 1 _ rfl
        have HZ := Lib.hid (stepEnd HXv.out (by omega) HNI.out hs2.1)
        clear hs2 q0 q1 r0 r1 s0 s1 o0 o1 ht
        go_wp2
        change bodyPost _ _ _ _ _ (set2W w7 w.heap.size (.string (str nm)) (.int .i64 NV))
        generalize set2W w7 w.heap.size (.string (str nm)) (.int .i64 NV) = Wn at *
        exact bodyPost_ret (v := .tuple #[.agg #[.string (str nm), .int .i64 NV], .bool (nameB nm)]) (by simp [results, Tryd.results26, go_sem, c0, c1]) rfl HZ.out
end Go.Proofs.YtpcgpcjleedilaaDoor

open Go.RowKit Go.Shelf
namespace Go.Proofs.YtpcgpcjleedilaaDoor
open Go Go.Proofs Fm
attribute [local go_sem] Oper.semAt_some

/-- What Parse hands back. -/
def PathPost (s : List UInt8) (w : World) (e : Ending) (w' : World) : Prop :=
  ∃ v, e = .returned (.tuple #[v, .bool (parseP s).isSome]) ∧ Ext w w' ∧ (parseP s = none → v = .agg #[.int .i64 0, .slice none 0 0]) ∧ ∀ p, parseP s = some p → PthOwn 27 w.heap.size w' p v

/-- Between two rounds. -/
def PRnd (w : World) (pre : List (List UInt8)) (W : World) : Prop :=
  w.heap.size + 7 ≤ W.heap.size ∧ Ext w W ∧ BoxL W w.heap.size [.int .i64 0, .slice none 0 0] ∧ BoxL W (w.heap.size + 1) [.bool false] ∧ BoxL W (w.heap.size + 3) [.bool pre.isEmpty] ∧
  ∃ (fl : Int) (a : Option Addr) (m c : Nat) (st : List Stp), BoxL W (w.heap.size + 2) [.int .i64 fl, .slice a m c] ∧ OwnSt 27 (w.heap.size + 7) W (.slice a m c) st ∧ isI64 fl ∧
    ((pre = [] ∧ fl = 0 ∧ st = []) ∨ ∃ x l, pre = x :: l ∧ numI x = some fl ∧ stepsP l = some st)
/-- Where a round has ended all. -/
def PEnd (s : List UInt8) (w : World) (c : Code) (_ : List (List UInt8)) (W : World) : Prop :=
  c = .ret ∧ Ext w W ∧ BoxL W w.heap.size [.int .i64 0, .slice none 0 0] ∧ BoxL W (w.heap.size + 1) [.bool false] ∧ parseP s = none
theorem _root_.Fm.OwnSt.far {e : TypeId} {base : Nat} {w w' : World} {v : Value} {l : List Stp} {row : Option Nat} (h : OwnSt e base w v l) (hg : w.grownBy w' row) (hr : ∀ b, row = some b → ∃ o : Obj, w.heap[b]? = some o ∧ o.isCells = false) : OwnSt e base w' v l := by
  refine ⟨World.ownsRow.kept h.1 hg ?_, h.2⟩
  rcases h.1.2 with ⟨rfl, _⟩ | ⟨g, cap, cur, rfl, _, hgb, _⟩
  · exact .inl rfl
  · right
    intro e
    obtain ⟨o, h1, h2⟩ := hr g e.symm
    rw [hgb] at h1
    cases h1
    cases h2
theorem PRnd.own (w : World) : OwnFrom (w.heap.size + 7) (PRnd w) := by
  rintro pre X Y row ⟨hz, hE, h1, h2, h3, fl, a, m, c, st, h4, h5, h6⟩ hg hr
  have hb : ∀ b, b < w.heap.size + 7 → row ≠ some b := fun b hb e => by have := (hr b e).1; omega
  exact ⟨Nat.le_trans hz hg.size, hE.grown hg (fun k e => by have := (hr k e).1; omega), h1.kept hg (hb _ (by omega)), h2.kept hg (hb _ (by omega)), h3.kept hg (hb _ (by omega)), fl, a, m, c, st, h4.kept hg (hb _ (by omega)), h5.far hg (fun b e => (hr b e).2), h6⟩
theorem PRnd.set {w X : World} {pre : List (List UInt8)} (h : PRnd w pre X) (u : Value) : PRnd w pre (X.setCell ⟨w.heap.size + 4, 0, none⟩ u) := by
  obtain ⟨hz, hE, h1, h2, h3, fl, a, m, c, st, h4, h5, h6⟩ := h
  have hg := grown_set X (w.heap.size + 4) 0 u
  have hb : ∀ b, b < w.heap.size + 4 → some (w.heap.size + 4) ≠ some b := fun b hb e => by injection e; omega
  exact ⟨Nat.le_trans hz hg.size, hE.setCell (p := ⟨w.heap.size + 4, 0, none⟩) (by show w.heap.size ≤ w.heap.size + 4; omega) u, h1.kept hg (hb _ (by omega)), h2.kept hg (hb _ (by omega)), h3.kept hg (hb _ (by omega)), fl, a, m, c, st, h4.kept hg (hb _ (by omega)), h5.kept hg (fun b e => by injection e with e; omega), h6⟩
theorem PEnd.own (s : List UInt8) (w : World) (c : Code) : OwnFrom (w.heap.size + 7) (PEnd s w c) := by
  rintro pre X Y row ⟨hc, hE, h1, h2, h3⟩ hg hr
  have hb : ∀ b, b < w.heap.size + 7 → row ≠ some b := fun b hb e => by have := (hr b e).1; omega
  exact ⟨hc, hE.grown hg (fun k e => by have := (hr k e).1; omega), h1.kept hg (hb _ (by omega)), h2.kept hg (hb _ (by omega)), h3⟩
theorem PEnd.set {s : List UInt8} {w X : World} {c : Code} {pre : List (List UInt8)} (h : PEnd s w c pre X) (u : Value) : PEnd s w c pre (X.setCell ⟨w.heap.size + 4, 0, none⟩ u) := by
  obtain ⟨hc, hE, h1, h2, h3⟩ := h
  have hg := grown_set X (w.heap.size + 4) 0 u
  have hb : ∀ b, b < w.heap.size + 4 → some (w.heap.size + 4) ≠ some b := fun b hb e => by injection e; omega
  exact ⟨hc, hE.setCell (p := ⟨w.heap.size + 4, 0, none⟩) (by show w.heap.size ≤ w.heap.size + 4; omega) u, h1.kept hg (hb _ (by omega)), h2.kept hg (hb _ (by omega)), h3⟩
/-! ### plain -/
theorem parse_bad_num {s x : List UInt8} (h : ∃ post, split47 s = [] ++ x :: post) (hn : numI x = none) : parseP s = none := by
  obtain ⟨post, h⟩ := h
  unfold parseP
  rw [h]
  show (numI x).bind _ = none
  rw [hn]; rfl
theorem parse_bad_step {s a x : List UInt8} {l : List (List UInt8)} (h : ∃ post, split47 s = (a :: l) ++ x :: post) (hx : stepP x = none) : parseP s = none := by
  obtain ⟨post, h⟩ := h
  have hd : stepsP (l ++ x :: post) = none := by
    rw [show l ++ x :: post = (l ++ [x]) ++ post by simp]
    refine stepsP_dead ?_
    rw [stepsP_snoc, hx]
    cases stepsP l <;> rfl
  unfold parseP
  rw [h]
  simp only [List.cons_append, List.headD_cons, List.tail_cons, hd]
  cases numI a <;> rfl
theorem parse_good {s a : List UInt8} {l : List (List UInt8)} {n : Int} {st : List Stp} (h : split47 s = a :: l) (hn : numI a = some n) (hl : stepsP l = some st) : parseP s = if s.length ≤ 400 then some ⟨n, st⟩ else none := by
  unfold parseP
  rw [h]
  simp only [List.headD_cons, List.tail_cons, hn, hl, Option.bind_some]
theorem join47_len : ∀ l : List (List UInt8), (join47 l).length = l.flatten.length + (l.length - 1)
  | [] => rfl
  | [p] => by simp [join47]
  | p :: q :: qs => by
    have := join47_len (q :: qs)
    rw [join47_cons _ (by simp), List.length_append, List.length_cons, this]
    simp
    omega
theorem next_len {s : List UInt8} {pre : List (List UInt8)} {x : List UInt8} (h : NextP s pre x) : x.length ≤ s.length ∧ pre.length ≤ s.length := by
  obtain ⟨post, h⟩ := h
  have := join47_len (split47 s)
  rw [join47_split, h] at this
  simp at this
  omega
theorem stepsP_len : ∀ {l : List (List UInt8)} {st : List Stp}, stepsP l = some st → st.length = l.length
  | [], st, h => by rw [stepsP] at h; cases h; rfl
  | p :: l, st, h => by
    rw [stepsP] at h
    obtain ⟨x, _, h2⟩ := Option.bind_eq_some_iff.1 h
    obtain ⟨r, h3, rfl⟩ := Option.map_eq_some_iff.1 h2
    simp [stepsP_len h3]
/-- What a round does to the world: of these blocks, and of what is no cells, nothing turns. -/
def Rnd (bs : List Nat) (X Y : World) : Prop := X.heap.size ≤ Y.heap.size ∧ ∀ k o, X.heap[k]? = some o → (k ∈ bs ∨ o.isCells = false) → Y.heap[k]? = some o
theorem Rnd.refl (bs : List Nat) (X : World) : Rnd bs X X := ⟨Nat.le_refl _, fun _ _ h _ => h⟩
theorem Rnd.trans {bs : List Nat} {X Y Z : World} (h : Rnd bs X Y) (k : Rnd bs Y Z) : Rnd bs X Z := ⟨Nat.le_trans h.1 k.1, fun i o hi ho => k.2 i o (h.2 i o hi ho) ho⟩
theorem Rnd.ext {bs : List Nat} {X Y : World} (h : Ext X Y) : Rnd bs X Y := ⟨h.size, fun k _ hk _ => (h.block k (Array.getElem?_eq_some_iff.1 hk).1).trans hk⟩
theorem Rnd.set {bs : List Nat} (X : World) (b j : Nat) (u : Value) (hb : b ∉ bs) : Rnd bs X (X.setCell ⟨b, j, none⟩ u) := by
  refine ⟨(KeepsOthers.setCell X ⟨b, j, none⟩ u).size, fun k o hk ho => ?_⟩
  rcases ho with ho | ho
  · exact (Below.heap_setCell X ⟨b, j, none⟩ u k (fun e => hb (by rw [← show k = b from e]; exact ho))).trans hk
  · exact (KeepsOthers.setCell X ⟨b, j, none⟩ u).same k o hk ho
theorem Rnd.grown {bs : List Nat} {X Y : World} {row : Option Nat} (hg : X.grownBy Y row) (hb : ∀ b, row = some b → b ∉ bs) (hc : ∀ j o, row = some j → X.heap[j]? = some o → o.isCells = true) : Rnd bs X Y := by
  refine ⟨hg.size, fun k o hk ho => ?_⟩
  rcases ho with ho | ho
  · exact (hg.block k (Array.getElem?_eq_some_iff.1 hk).1 (fun e => hb k e.symm ho)).trans hk
  · exact (KeepsOthers.of_grownBy hg hc).same k o hk ho
theorem Rnd.from {bs : List Nat} {X Y : World} (h : Rnd bs X Y) (B : Nat) : KeepsFrom B X Y := ⟨h.1, fun k o _ hk ho => h.2 k o hk (.inr ho)⟩
theorem Rnd.keeps {bs : List Nat} {X Y : World} (h : Rnd bs X Y) : KeepsB bs X Y := fun b hb o ho => h.2 b o ho (.inl hb)
theorem info_step : (Tryd.prog.info? 27).map (fun i => (i.zero, i.size, i.bytes)) = some (some (.agg #[.string { data := #[] }, .int .i64 0]), 2, 24) := by kernel_rfl
/-- The three blocks of the iterator. -/
def bs3 (w : World) : List Nat := [w.heap.size + 4, w.heap.size + 5, w.heap.size + 6]
theorem not_bs3 {w : World} {b : Nat} (h : b < w.heap.size + 4 ∨ w.heap.size + 7 ≤ b) : b ∉ bs3 w := by unfold bs3; simp; omega
/-- What a round keeps in mind: nothing that lay has turned, the iterator's blocks lie, the four boxes. -/
def PBox (w W W' : World) (c0 c1 : Value) (f : Bool) : Prop :=
  Ext w W' ∧ Rnd (bs3 w) W W' ∧ BoxL W' w.heap.size [.int .i64 0, .slice none 0 0] ∧ BoxL W' (w.heap.size + 1) [.bool false] ∧ BoxL W' (w.heap.size + 2) [c0, c1] ∧ BoxL W' (w.heap.size + 3) [.bool f]
theorem PBox.ext {w W W1 W2 : World} {c0 c1 : Value} {f : Bool} (h : PBox w W W1 c0 c1 f) (hE : Ext W1 W2) : PBox w W W2 c0 c1 f :=
  ⟨h.1.trans hE, h.2.1.trans (Rnd.ext hE), h.2.2.1.ext hE, h.2.2.2.1.ext hE, h.2.2.2.2.1.ext hE, h.2.2.2.2.2.ext hE⟩
theorem PBox.first {w W W1 : World} {c0 c1 : Value} {f : Bool} (h : PBox w W W1 c0 c1 f) (g : Bool) : PBox w W (W1.setCell ⟨w.heap.size + 3, 0, none⟩ (.bool g)) c0 c1 g := by
  obtain ⟨hE, hr, bR, bK, bP, bF⟩ := h
  have hg := grown_set W1 (w.heap.size + 3) 0 (.bool g)
  exact ⟨hE.setCell (p := ⟨w.heap.size + 3, 0, none⟩) (by show w.heap.size ≤ w.heap.size + 3; omega) _, hr.trans (Rnd.set _ _ _ _ (not_bs3 (.inl (by omega)))), bR.kept hg (by simp), bK.kept hg (by simp), bP.kept hg (by simp), bF.set 0 (by simp) _⟩
theorem PBox.num {w W W1 : World} {c0 c1 : Value} {f : Bool} (h : PBox w W W1 c0 c1 f) (u : Value) : PBox w W (W1.setCell ⟨w.heap.size + 2, 0, none⟩ u) u c1 f := by
  obtain ⟨hE, hr, bR, bK, bP, bF⟩ := h
  have hg := grown_set W1 (w.heap.size + 2) 0 u
  exact ⟨hE.setCell (p := ⟨w.heap.size + 2, 0, none⟩) (by show w.heap.size ≤ w.heap.size + 2; omega) _, hr.trans (Rnd.set _ _ _ _ (not_bs3 (.inl (by omega)))), bR.kept hg (by simp), bK.kept hg (by simp), bP.set 0 (by simp) _, bF.kept hg (by simp)⟩
theorem PBox.steps {w W W1 : World} {c0 c1 : Value} {f : Bool} (h : PBox w W W1 c0 c1 f) (u : Value) : PBox w W (W1.setCell ⟨w.heap.size + 2, 1, none⟩ u) c0 u f := by
  obtain ⟨hE, hr, bR, bK, bP, bF⟩ := h
  have hg := grown_set W1 (w.heap.size + 2) 1 u
  exact ⟨hE.setCell (p := ⟨w.heap.size + 2, 1, none⟩) (by show w.heap.size ≤ w.heap.size + 2; omega) _, hr.trans (Rnd.set _ _ _ _ (not_bs3 (.inl (by omega)))), bR.kept hg (by simp), bK.kept hg (by simp), bP.set 1 (by simp) _, bF.kept hg (by simp)⟩
theorem PBox.grown {w W W1 W2 : World} {c0 c1 : Value} {f : Bool} {row : Option Nat} (h : PBox w W W1 c0 c1 f) (hg : W1.grownBy W2 row) (hr : ∀ b, row = some b → w.heap.size + 7 ≤ b ∧ ∃ o : Obj, W1.heap[b]? = some o ∧ o.isCells = true) : PBox w W W2 c0 c1 f := by
  obtain ⟨hE, r, bR, bK, bP, bF⟩ := h
  have hb : ∀ b, b < w.heap.size + 7 → row ≠ some b := fun b hb e => by have := (hr b e).1; omega
  refine ⟨hE.grown hg (fun k e => by have := (hr k e).1; omega), r.trans (Rnd.grown hg (fun b e => not_bs3 (.inr (hr b e).1)) (fun j o e ho => ?_)), bR.kept hg (hb _ (by omega)), bK.kept hg (hb _ (by omega)), bP.kept hg (hb _ (by omega)), bF.kept hg (hb _ (by omega))⟩
  obtain ⟨o', h1, h2⟩ := (hr j e).2
  rw [ho] at h1
  cases h1
  exact h2
theorem _root_.Fm.OwnSt.cellsBlock {e : TypeId} {base : Nat} {w : World} {v : Value} {l : List Stp} (h : OwnSt e base w v l) : ∀ b, v.ownBlock = some b → base ≤ b ∧ ∃ o : Obj, w.heap[b]? = some o ∧ o.isCells = true := by
  intro b hb
  refine ⟨(h.lt b hb).1, ?_⟩
  rcases h.1.2 with ⟨rfl, _⟩ | ⟨g, cap, cur, rfl, _, hgb, _⟩
  · cases hb
  · have e : g = b := by simpa [Value.ownBlock] using hb
    subst e
    exact ⟨_, hgb, rfl⟩
theorem box_add {w : World} {b : Nat} {vs : List Value} (h : BoxL w b vs) : ∀ j u, vs[j]? = some u → w.cell? ((⟨b, 0, none⟩ : Addr).add j) = some u := by
  intro j u hj
  rw [Addr.add_lit, Nat.zero_add]
  exact h.cell j u hj
/-- The round's end where all ends: the results are written. -/
theorem round_ret {s : List UInt8} {w W W1 : World} {c0 c1 : Value} {f : Bool} {xs : List (List UInt8)} {a : Act} (h : PBox w W W1 c0 c1 f) (hp : parseP s = none) (B : Nat) :
    ownPostG B (KeepsB (bs3 w)) (PRnd w) (PEnd s w) xs W .ret a ((set2W W1 w.heap.size (.int .i64 0) (.slice none 0 0)).setCell ⟨w.heap.size + 1, 0, none⟩ (.bool false)) := by
  obtain ⟨hE, hr, bR, bK, -, -⟩ := h
  obtain ⟨h1, h2⟩ := set2_facts (x := .int .i64 0) (y := .slice none 0 0) hE bR (Nat.le_refl _)
  have k1 := set2_far (x := .int .i64 0) (y := .slice none 0 0) (b := w.heap.size) bK (by omega)
  have hr1 : Rnd (bs3 w) W (set2W W1 w.heap.size (.int .i64 0) (.slice none 0 0)) := (hr.trans (Rnd.set _ _ _ _ (not_bs3 (.inl (by omega))))).trans (Rnd.set _ _ _ _ (not_bs3 (.inl (by omega))))
  exact ⟨(hr1.trans (Rnd.set _ _ _ _ (not_bs3 (.inl (by omega))))).from B, rfl, h1.setCell (p := ⟨w.heap.size + 1, 0, none⟩) (by show w.heap.size ≤ w.heap.size + 1; omega) _, h2.kept (grown_set _ _ _ _) (by simp), k1.set 0 (by simp) _, hp⟩
/-- The round's end where it goes on. -/
theorem round_on {s : List UInt8} {w W W1 : World} {fl : Int} {a : Option Addr} {m c : Nat} {st : List Stp} {y : List UInt8} {l : List (List UInt8)} {xs : List (List UInt8)} {A : Act} (h : PBox w W W1 (.int .i64 fl) (.slice a m c) false) (hO : OwnSt 27 (w.heap.size + 7) W1 (.slice a m c) st) (hfl : isI64 fl) (hx : xs = y :: l) (hy : numI y = some fl) (hl : stepsP l = some st) (hz : w.heap.size + 7 ≤ W.heap.size) (B : Nat) :
    ownPostG B (KeepsB (bs3 w)) (PRnd w) (PEnd s w) xs W .normal A W1 := by
  obtain ⟨hE, hr, bR, bK, bP, bF⟩ := h
  subst hx
  exact ⟨hr.from B, hr.keeps, Nat.le_trans hz hr.1, hE, bR, bK, bF, fl, a, m, c, st, bP, hO, hfl, .inr ⟨y, l, rfl, hy, hl⟩⟩
/-- The return, with the mark of the rounds' deferred calls. -/
theorem parse_leave {s : List UInt8} {w W : World} {fl : Int} {sa : Option Addr} {m c : Nat} {ok : Bool} {D : Nat} (tmps : Array Value) (h2 : tmps[2]?.getD undef = .pointer (some ⟨w.heap.size, 0, none⟩)) (h3 : tmps[3]?.getD undef = .pointer (some ⟨w.heap.size + 1, 0, none⟩))
    (bR : BoxL W w.heap.size [.int .i64 fl, .slice sa m c]) (bK : BoxL W (w.heap.size + 1) [.bool ok]) (hD : w.heap.size + 7 ≤ D) (hK : W.heap[D]? = some (.deferred (some [])))
    (hP : ∀ W', W.grownBy W' (some D) → PathPost s w (.returned (.tuple #[.agg #[.int .i64 fl, .slice sa m c], .bool ok])) W') :
    bodyPostM Fence.wide 3 Tryd.prog Tryd.f9 (PathPost s w) .ret { tmps := tmps, defers := [{ target := .collected D, args := #[] }] } W := by
  refine ⟨by simp, .inl ⟨_, _, rfl, run_takeDeferred hK, ?_⟩⟩
  have hg := grownBy_putObj' W D (.deferred none)
  have e1 := bR.kept hg (fun e => by injection e with e; omega)
  have e2 := bK.kept hg (fun e => by injection e with e; omega)
  have hP := hP _ hg
  generalize W.putObj D (.deferred none) = W' at *
  have y0 := e1.cell 0 _ rfl
  have y1 := e1.cell 1 _ rfl
  have y2 := e2.cell 0 _ rfl
  exact ⟨_, by simp [results, Tryd.results9, go_sem, h2, h3, y0, y1, y2], hP⟩
/-- The seven boxes, ahead of the loop. -/
theorem parse_boxes (w : World) (s : List UInt8) (W : World) (hW : ((((((w.alloc (.cells #[.int .i64 0, .slice none 0 0] 24)).alloc (.cells #[.bool false] 4)).alloc (.cells #[.int .i64 0, .slice none 0 0] 24)).alloc (.cells #[.bool true] 4)).alloc (.cells #[.string (str s)] 9)).alloc (.cells #[.string (str [47])] 9)).alloc (.cells #[.int .i64 0] 3) = W) :
    W.heap.size = w.heap.size + 7 ∧ PRnd w [] W ∧ Boxed W (w.heap.size + 4) 9 (.string (str s)) ∧ Boxed W (w.heap.size + 5) 9 (.string (str [47])) ∧ Boxed W (w.heap.size + 6) 3 (.int .i64 0) := by
  obtain ⟨w1, h1⟩ : ∃ x, x = w.alloc (.cells #[.int .i64 0, .slice none 0 0] 24) := ⟨_, rfl⟩
  obtain ⟨w2, h2⟩ : ∃ x, x = w1.alloc (.cells #[.bool false] 4) := ⟨_, rfl⟩
  obtain ⟨w3, h3⟩ : ∃ x, x = w2.alloc (.cells #[.int .i64 0, .slice none 0 0] 24) := ⟨_, rfl⟩
  obtain ⟨w4, h4⟩ : ∃ x, x = w3.alloc (.cells #[.bool true] 4) := ⟨_, rfl⟩
  obtain ⟨w5, h5⟩ : ∃ x, x = w4.alloc (.cells #[.string (str s)] 9) := ⟨_, rfl⟩
  obtain ⟨w6, h6⟩ : ∃ x, x = w5.alloc (.cells #[.string (str [47])] 9) := ⟨_, rfl⟩
  rw [← h1, ← h2, ← h3, ← h4, ← h5, ← h6] at hW
  have z1 : w1.heap.size = w.heap.size + 1 := by rw [h1]; simp
  have z2 : w2.heap.size = w.heap.size + 2 := by rw [h2, World.size_alloc, z1]
  have z3 : w3.heap.size = w.heap.size + 3 := by rw [h3, World.size_alloc, z2]
  have z4 : w4.heap.size = w.heap.size + 4 := by rw [h4, World.size_alloc, z3]
  have z5 : w5.heap.size = w.heap.size + 5 := by rw [h5, World.size_alloc, z4]
  have z6 : w6.heap.size = w.heap.size + 6 := by rw [h6, World.size_alloc, z5]
  have z7 : W.heap.size = w.heap.size + 7 := by rw [← hW, World.size_alloc, z6]
  have e1 : Ext w w1 := by rw [h1]; exact (Ext.refl w).alloc _
  have e2 : Ext w1 w2 := by rw [h2]; exact (Ext.refl w1).alloc _
  have e3 : Ext w2 w3 := by rw [h3]; exact (Ext.refl w2).alloc _
  have e4 : Ext w3 w4 := by rw [h4]; exact (Ext.refl w3).alloc _
  have e7 : Ext w4 W := by rw [← hW, h6, h5]; exact (((Ext.refl w4).alloc _).alloc _).alloc _
  have b1 := BoxL.new w [.int .i64 0, .slice none 0 0] 24
  rw [← h1] at b1
  have b2 := BoxL.new w1 [.bool false] 4
  rw [← h2, z1] at b2
  have b3 := BoxL.new w2 [.int .i64 0, .slice none 0 0] 24
  rw [← h3, z2] at b3
  have b4 := BoxL.new w3 [.bool true] 4
  rw [← h4, z3] at b4
  refine ⟨z7, ⟨by omega, ((((e1.trans e2).trans e3).trans e4).trans e7), b1.ext (((e2.trans e3).trans e4).trans e7), b2.ext ((e3.trans e4).trans e7), b4.ext e7, 0, none, 0, 0, [], b3.ext (e4.trans e7), OwnSt.nil _ _ _, by unfold isI64; omega, .inl ⟨rfl, rfl, rfl⟩⟩, ?_, ?_, ?_⟩
  · have c := Boxed.new w4 9 (.string (str s))
    rw [← h5, z4] at c
    rw [← hW, h6]; exact (c.alloc _).alloc _
  · have c := Boxed.new w5 9 (.string (str [47]))
    rw [← h6, z5] at c
    rw [← hW]; exact c.alloc _
  · have c := Boxed.new w6 3 (.int .i64 0)
    rw [hW, z6] at c
    exact c
set_option maxRecDepth 100000 in
set_option maxHeartbeats 2000000 in
theorem idParse_any (s : List UInt8) (hs : s.length ≤ 1000000) (w : World) (hw : KW w) :
    Calls Tryd.prog 9 #[.string (str s)] w (PathPost s w) := by
  have hfn : ∀ f, Fence.wide.fn f := fun _ => trivial
  have hdp : Fence.wide.depth.isSome = false := rfl
  have HW := Lib.hid hw
  have hsz := str_size s
  clear hw
  obtain ⟨W7, hW7⟩ : ∃ x, ((((((w.alloc (.cells #[.int .i64 0, .slice none 0 0] 24)).alloc (.cells #[.bool false] 4)).alloc (.cells #[.int .i64 0, .slice none 0 0] 24)).alloc (.cells #[.bool true] 4)).alloc (.cells #[.string (str s)] 9)).alloc (.cells #[.string (str [47])] 9)).alloc (.cells #[.int .i64 0] 3) = x := ⟨_, rfl⟩
  obtain ⟨hz7, hP, b4, b5, b6⟩ := parse_boxes w s W7 hW7
  have HW7 := Lib.hid hW7
  clear hW7
  refine (callsIn_wide (n := 3)).1 ?_
  refine callsIn_of_wp_marks Tryd.func9 rfl trivial ?_ rfl
  simp only [Tryd.ntmps9, List.size_toArray, List.length_cons, List.length_nil, Nat.reduceAdd, Nat.reduceSub, Array.replicate_succ, Array.replicate_zero, List.push_toArray, List.append_toArray, List.nil_append, List.cons_append]
  gi_wp2_with (gi_at_call 24; refine (callsIn_wide.2 (splitSeq_any s _)).mono ?_; rintro e w' ⟨rfl, rfl⟩)
  rw [HW7.out]
  simp only [Nat.add_assoc, Nat.reduceAdd]
  refine wpIn_rangeFunc_ab rfl (by decide) (gf := 61) (lb := #[.pointer (some ⟨w.heap.size + 5, 0, none⟩), .pointer (some ⟨w.heap.size + 4, 0, none⟩), .pointer (some ⟨w.heap.size + 6, 0, none⟩)]) rfl trivial (enters_of Tryd.func61 (by kernel_rfl) rfl)
    (splitSeq1_stops _ _ _ _ s hs ⟨by omega, by omega⟩ W7 b4 b5 b6) (Below.refl _ _) (fun _ => rfl)
    (fun X Y ⟨u, e⟩ k o hk ho hc => ?hAb) (fun h k => KeepsB.trans h k) (fun X l o o' hl ho hc b hb o2 h2 => ?hKb)
    (PRnd w) (PEnd s w) (by rw [hz7]; exact PRnd.own w) (fun c => by rw [hz7]; exact PEnd.own s w c) (fun pre X Y h ⟨u, e⟩ => by rw [e]; exact h.set u) (fun c pre X Y h ⟨u, e⟩ => by rw [e]; exact h.set u) hP
    (fun x => { tmps := #[.string (str s), undef, .pointer (some ⟨w.heap.size, 0, none⟩), .pointer (some ⟨w.heap.size + 1, 0, none⟩), .pointer (some ⟨w.heap.size + 2, 0, none⟩), .pointer (some ⟨w.heap.size + 3, 0, none⟩), .string (str x), undef, undef, .string (str s),
      .func (.func 61) #[] #[.pointer (some ⟨w.heap.size + 5, 0, none⟩), .pointer (some ⟨w.heap.size + 4, 0, none⟩), .pointer (some ⟨w.heap.size + 6, 0, none⟩)], .string (str x), undef, undef, undef, undef, undef, undef, undef, undef, undef, undef, undef, undef, undef, undef, undef, undef, undef, undef, undef, undef, undef, undef, undef, undef, undef, undef, undef], defers := [] }) ?assign ?body ?done ?stop
  case hAb => rw [e, Below.heap_setCell _ _ _ _ (by show k ≠ w.heap.size + 4; omega)]; exact ho
  case hKb =>
    have hlt : b < w.heap.size + 7 := by
      unfold bs3 at hb
      simp only [List.mem_cons, List.not_mem_nil, or_false] at hb
      omega
    exact (World.putObj_heap_other (by omega)).trans h2
  case assign =>
    intro l x W K hK
    gi_wp2
    exact hK
  case body =>
    rintro l pre x W ⟨hBW, hE, bR, bK, bF, fl, a, m, c, st, bP, hO, hfl, hcase⟩ hnx
    rw [hz7]
    obtain ⟨i0, hi, hz0, hz1, hz2⟩ := info_parts info_step
    have hln := next_len hnx
    have HN := Lib.hid hnx
    clear b4 b5 b6 hP hnx
    have H0 := Lib.hid (show PBox w W W (.int .i64 fl) (.slice a m c) pre.isEmpty from ⟨hE, Rnd.refl _ _, bR, bK, bP, bF⟩)
    have HO := Lib.hid hO
    have HBW := Lib.hid hBW
    clear hE bR bK bF bP hO hBW
    rcases hcase with ⟨rfl, rfl, rfl⟩ | ⟨y, l0, rfl, hy, hl0⟩
    · have t0 := H0.out.2.2.2.2.2.cell 0 _ rfl
      have t1 := H0.out.2.2.2.2.2.free 0
      have H1 := Lib.hid (H0.out.first false)
      have HO1 := Lib.hid (HO.out.kept (grown_set W (w.heap.size + 3) 0 (.bool false)) (fun b e => by injection e with e; omega))
      clear H0 HO
      gi_wp2_with fail
      generalize W.setCell ⟨w.heap.size + 3, 0, none⟩ (.bool false) = W1 at *
      clear t0 t1
      refine (CallsIn.inRound l (callsIn_wide.2 (idNumber_any x (by omega) W1 (HW.out.ext H1.out.1)))).mono ?_
      rintro e w2 ⟨rfl, hE2⟩
      have H2 := Lib.hid (H1.out.ext hE2)
      have HO2 := Lib.hid (HO1.out.ext hE2)
      have p1 := H2.out.2.2.2.2.1.cell 0 _ rfl
      have p2 := H2.out.2.2.2.2.1.free 0
      have H3 := Lib.hid (H2.out.num (.int .i64 (numV x)))
      have HO3 := Lib.hid (HO2.out.kept (grown_set w2 (w.heap.size + 2) 0 (.int .i64 (numV x))) (fun b e => by injection e with e; omega))
      have q0 := H3.out.2.2.2.2.1.cell 0 _ rfl
      have HI := Lib.hid (numV_isI64 x)
      have HV := Lib.hid (@numV_eq x)
      have HVS : Hid (numV x ≠ -1 → numI x = some (numV x)) := Lib.hid (fun h => by
        cases e : numI x with
        | none => exact absurd (numV_none e) h
        | some n => rw [numV_some e])
      clear hE2 H1 HO1 H2 HO2
      have r0 := H3.out.2.2.1.cell 0 _ rfl
      have r1 := H3.out.2.2.1.cell 1 _ rfl
      have r2 := H3.out.2.2.1.free 0
      have r3 := H3.out.2.2.1.free 1
      have k0 := H3.out.2.2.2.1.cell 0 _ rfl
      have k1 := H3.out.2.2.2.1.free 0
      generalize numV x = NV at *
      by_cases hn : NV = -1
      · have HZ := Lib.hid (parse_bad_num HN.out (HV.out.1 hn))
        have ht : (NV == -1) = true := by simp [hn]
        clear hn HV HVS HI hfl
        gi_wp2_with fail
        exact round_ret H3.out HZ.out _
      · have HZ := Lib.hid (HVS.out hn)
        have ht : (NV == -1) = false := by simp [hn]
        clear hn HV HVS
        gi_wp2_with fail
        exact round_on H3.out HO3.out HI.out rfl HZ.out rfl HBW.out _
    · have t0 := H0.out.2.2.2.2.2.cell 0 _ rfl
      simp only [List.isEmpty_cons] at t0 H0
      have HL := Lib.hid (stepsP_len hl0)
      have hsl : st.length ≤ 1000000 := by have := HL.out; have := hln.2; simp at this; omega
      have HY := Lib.hid hy
      have HL0 := Lib.hid hl0
      have HF := Lib.hid hfl
      clear hy hl0 hfl
      gi_wp2_with fail
      refine (CallsIn.inRound l (callsIn_wide.2 (idStep_any x (by omega) W (HW.out.ext H0.out.1)))).mono ?_
      rintro e w2 ⟨xx, hwf, rfl, hor, hE2⟩
      have H2 := Lib.hid (H0.out.ext hE2)
      have HO2 := Lib.hid (HO.out.ext hE2)
      have HWF := Lib.hid hwf
      have HOR := Lib.hid hor
      have hE3 := (Ext.refl w2).alloc (.cells #[.string (str xx.name), .int .i64 xx.place] 27)
      have H3 := Lib.hid (H2.out.ext hE3)
      have HO3 := Lib.hid (HO2.out.ext hE3)
      have HXB := Lib.hid (BoxL.new w2 [.string (str xx.name), .int .i64 xx.place] 27)
      clear hE2 hwf hor H2 HO2 H0 HO hE3 t0

      have HXB := Lib.hid (show BoxL (w2.alloc (.cells #[.string (str xx.name), .int .i64 xx.place] 27)) w2.heap.size [.string (str xx.name), .int .i64 xx.place] from HXB.out)
      cases hsx : stepP x with
      | none =>
        have HZ := Lib.hid (parse_bad_step HN.out hsx)
        clear hsx
        have r0 := H3.out.2.2.1.cell 0 _ rfl
        have r1 := H3.out.2.2.1.cell 1 _ rfl
        have r2 := H3.out.2.2.1.free 0
        have r3 := H3.out.2.2.1.free 1
        have k0 := H3.out.2.2.2.1.cell 0 _ rfl
        have k1 := H3.out.2.2.2.1.free 0
        gi_wp2_with fail
        exact round_ret H3.out HZ.out _
      | some sx =>
        have hxs : xx = sx := by
          rcases HOR.out with h | h
          · rw [hsx] at h; cases h
          · rw [hsx] at h; injection h with h; exact h.symm
        subst hxs
        have HSX := Lib.hid (show stepsP (l0 ++ [x]) = some (st ++ [xx]) by rw [stepsP_snoc, HL0.out, Option.bind_some, hsx]; rfl)
        clear hsx HOR
        have p1 := H3.out.2.2.2.2.1.cell 1 _ rfl
        have p2 := H3.out.2.2.2.2.1.free 1
        have x0 := HXB.out.cell 0 _ rfl
        have x1 := HXB.out.cell 1 _ rfl
        have hE4 := (Ext.refl (w2.alloc (.cells #[.string (str xx.name), .int .i64 xx.place] 27))).alloc (.cells #[.string (str xx.name), .int .i64 xx.place] 27)
        have H4 := Lib.hid (H3.out.ext hE4)
        have HO4 := Lib.hid (HO3.out.ext hE4)
        have hNB := BoxL.new (w2.alloc (.cells #[.string (str xx.name), .int .i64 xx.place] 27)) [.string (str xx.name), .int .i64 xx.place] 27
        rw [show (w2.alloc (.cells #[.string (str xx.name), .int .i64 xx.place] 27)).heap.size = w2.heap.size + 1 by simp] at hNB
        have HNC := Lib.hid (box_add hNB)
        have hzl := H4.out.1.size
        have HZ7 : Hid (w.heap.size + 7 ≤ ((w2.alloc (.cells #[.string (str xx.name), .int .i64 xx.place] 27)).alloc (.cells #[.string (str xx.name), .int .i64 xx.place] 27)).heap.size) := Lib.hid (by
          have := H4.out.2.1.1
          have := HBW.out
          omega)
        clear H3 HO3 hE4 hNB hzl
        gi_wp2_with (gi_at_builtin; refine wpListIn_append_own _ rfl _ _ 22 rfl (w.heap.size + 7) 27 i0 (.agg #[.string { data := #[] }, .int .i64 0]) 2 24 Tryd.underlying22 hi hz0 hz1 hz2 rfl (by decide) _ _ _ rfl HO4.out.1 ⟨w2.heap.size + 1, 0, none⟩ 1 1 (stpCells xx) rfl rfl HNC.out (by simp [stpCells, Value.oneCell']) (by unfold maxLen; omega) (by omega) HZ7.out ?_; intro v' w5 hown' hgrow _; obtain ⟨g', cap', rfl⟩ := ownsRow_succ hown'; have H5 := Lib.hid (H4.out.grown hgrow HO4.out.cellsBlock); have HO5 := Lib.hid (OwnSt.snoc hown' HO4.out.2 HWF.out); have q1 := H5.out.2.2.2.2.1.cell 1 _ rfl; have q2 := H5.out.2.2.2.2.1.free 1; clear hown' hgrow H4 HO4)
        have H6 := Lib.hid (H5.out.steps (.slice (some ⟨g', 0, none⟩) (st.length + 1) cap'))
        have HO6 := Lib.hid (HO5.out.kept (grown_set w5 (w.heap.size + 2) 1 (.slice (some ⟨g', 0, none⟩) (st.length + 1) cap')) (fun b e => by injection e with e; omega))
        exact round_on H6.out HO6.out HF.out rfl HY.out HSX.out HBW.out _
  case done =>
    rintro D xs W hD rfl ⟨hBW, hE, bR, bK, bF, fl, a, m, c, st, bP, hO, hfl, hcase⟩ hK
    rw [hz7] at hD
    rcases hcase with ⟨h, -, -⟩ | ⟨y, l0, hsp, hy, hl0⟩
    · exact absurd h (split47_ne s)
    have HG := Lib.hid (parse_good hsp hy hl0)
    have H0 := Lib.hid (show PBox w W W (.int .i64 fl) (.slice a m c) (split47 s).isEmpty from ⟨hE, Rnd.refl _ _, bR, bK, bP, bF⟩)
    have HO := Lib.hid hO
    have HF := Lib.hid hfl
    have HK := Lib.hid hK
    clear hE bR bK bF bP hO hBW b4 b5 b6 hP hsp hy hl0 hfl hK
    have r0 := H0.out.2.2.1.cell 0 _ rfl
    have r1 := H0.out.2.2.1.cell 1 _ rfl
    have r2 := H0.out.2.2.1.free 0
    have r3 := H0.out.2.2.1.free 1
    have k0 := H0.out.2.2.2.1.cell 0 _ rfl
    have k1 := H0.out.2.2.2.1.free 0
    have p0 := H0.out.2.2.2.2.1.cell 0 _ rfl
    have p1 := H0.out.2.2.2.2.1.cell 1 _ rfl
    by_cases hl : s.length ≤ 400
    · have hl' : decide ((400 : Int) < (s.length : Int)) = false := by simp; omega
      have HG := Lib.hid (show parseP s = some ⟨fl, st⟩ by rw [HG.out, if_pos hl])
      clear hl
      gi_wp2
      have hs2 := set2_facts (x := .int .i64 fl) (y := .slice a m c) H0.out.1 H0.out.2.2.1 (Nat.le_refl _)
      have hk2 := set2_far (x := .int .i64 fl) (y := .slice a m c) (b := w.heap.size) H0.out.2.2.2.1 (by omega)
      have hr2 : Rnd (bs3 w) W (set2W W w.heap.size (.int .i64 fl) (.slice a m c)) := (Rnd.set _ _ _ _ (not_bs3 (.inl (by omega)))).trans (Rnd.set _ _ _ _ (not_bs3 (.inl (by omega))))
      have hO2 := (HO.out.kept (grown_set W w.heap.size 0 (.int .i64 fl)) (fun b e => by injection e with e; omega)).kept (grown_set _ w.heap.size 1 (.slice a m c)) (fun b e => by injection e with e; omega)
      change bodyPostM _ _ _ _ _ _ _ ((set2W W w.heap.size (.int .i64 fl) (.slice a m c)).setCell ⟨w.heap.size + 1, 0, none⟩ (.bool true))
      refine parse_leave (fl := fl) (sa := a) (m := m) (c := c) (ok := true) _ rfl rfl (hs2.2.kept (grown_set _ _ _ _) (by simp)) (hk2.set 0 (by simp) (.bool true)) hD ((hr2.trans (Rnd.set _ _ _ _ (not_bs3 (.inl (by omega))))).2 _ _ HK.out (.inr rfl)) (fun W' hg => ?_)
      have hO3 := hO2.kept (grown_set (set2W W w.heap.size (.int .i64 fl) (.slice a m c)) (w.heap.size + 1) 0 (.bool true)) (fun b e => by injection e with e; omega)
      have hKF := (hr2.trans (Rnd.set _ (w.heap.size + 1) 0 (.bool true) (not_bs3 (.inl (by omega))))).2 _ _ HK.out (.inr rfl)
      have hO4 := hO3.far hg (fun b e => by injection e with e; subst e; exact ⟨_, hKF, rfl⟩)
      refine ⟨.agg #[.int .i64 fl, .slice a m c], by rw [HG.out]; rfl, (hs2.1.setCell (p := ⟨w.heap.size + 1, 0, none⟩) (by show w.heap.size ≤ w.heap.size + 1; omega) _).grown hg (fun k e => by injection e with e; omega), (fun h => by rw [HG.out] at h; cases h), fun p hp => ?_⟩
      rw [HG.out] at hp
      injection hp with hp
      subst hp
      exact ⟨a, m, c, rfl, hO4.mono (by omega), HF.out⟩
    · have hl' : decide ((400 : Int) < (s.length : Int)) = true := by simp; omega
      have HG := Lib.hid (show parseP s = none by rw [HG.out, if_neg hl])
      clear hl
      gi_wp2
      have hs2 := set2_facts (x := .int .i64 0) (y := .slice none 0 0) H0.out.1 H0.out.2.2.1 (Nat.le_refl _)
      have hk2 := set2_far (x := .int .i64 0) (y := .slice none 0 0) (b := w.heap.size) H0.out.2.2.2.1 (by omega)
      have hr2 : Rnd (bs3 w) W (set2W W w.heap.size (.int .i64 0) (.slice none 0 0)) := (Rnd.set _ _ _ _ (not_bs3 (.inl (by omega)))).trans (Rnd.set _ _ _ _ (not_bs3 (.inl (by omega))))
      change bodyPostM _ _ _ _ _ _ _ ((set2W W w.heap.size (.int .i64 0) (.slice none 0 0)).setCell ⟨w.heap.size + 1, 0, none⟩ (.bool false))
      refine parse_leave (fl := 0) (sa := none) (m := 0) (c := 0) (ok := false) _ rfl rfl (hs2.2.kept (grown_set _ _ _ _) (by simp)) (hk2.set 0 (by simp) (.bool false)) hD ((hr2.trans (Rnd.set _ _ _ _ (not_bs3 (.inl (by omega))))).2 _ _ HK.out (.inr rfl)) (fun W' hg => ?_)
      exact ⟨.agg #[.int .i64 0, .slice none 0 0], by rw [HG.out]; rfl, (hs2.1.setCell (p := ⟨w.heap.size + 1, 0, none⟩) (by show w.heap.size ≤ w.heap.size + 1; omega) _).grown hg (fun k e => by injection e with e; omega), fun _ => rfl, fun p hp => by rw [HG.out] at hp; cases hp⟩
  case stop =>
    rintro D cd pre W hD - ⟨rfl, hE, bR, bK, hp⟩ hK
    rw [hz7] at hD
    have HG := Lib.hid hp
    clear hp b4 b5 b6 hP
    gi_wp2
    refine parse_leave (fl := 0) (sa := none) (m := 0) (c := 0) (ok := false) _ rfl rfl bR bK hD hK (fun W' hg => ?_)
    exact ⟨.agg #[.int .i64 0, .slice none 0 0], by rw [HG.out]; rfl, hE.grown hg (fun k e => by injection e with e; omega), fun _ => rfl, fun p hp => by rw [HG.out] at hp; cases hp⟩
end Go.Proofs.YtpcgpcjleedilaaDoor
