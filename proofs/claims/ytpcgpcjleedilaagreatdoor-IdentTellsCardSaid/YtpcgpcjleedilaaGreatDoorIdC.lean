/- Walks of package ident: step. -/
import Derived.Test.YtpcgpcjleedilaaGreatDoorVaA
import Derived.Shelf.Strings.Builder1
import Derived.Shelf.LaysM
import Derived.Shelf.Strconv.Itoa4
import Derived.Test.YtpcgpcjleedilaaGreatDoorProg
import Derived.WalkLawsBesides
import Derived.Deep.RegionWith
import Derived.Deep.RegionLaw
import Derived.Defers
import Derived.Recover
import Derived.Lib.ConvBytes
import Derived.Laws.BitsLemmas
import Derived.Shelf.LaysC
import Derived.Shelf.Strconv.AtoiAll
import Derived.Shelf.Strings.Search3
import Derived.Shelf.Small.Wraps
import Derived.BigQuiet
import Derived.IntWalk
import Derived.Deep.QuietTactic
import Derived.RangeFuncNested
import Derived.RangeFuncBound
import Derived.RangeFuncCalls
import Derived.RangeFuncLeaves
import Derived.OwnWalkIn
import Derived.TacticsInMore
import Derived.LoopNIn
import Derived.LoopIn
import Derived.Maps.AppendAt
import Derived.Shelf.Abstract
open Go.RowKit Go.Shelf
namespace Go.Proofs.YtpcgpcjleedilaaGreatDoor
open Go Go.Proofs Fm

theorem trim_let (s : List UInt8) (hs : s.length ≤ 9223372036854775807) (w : World) :
    Calls Tryz.prog 80 #[.string (str s), .string { data := #[97, 98, 99, 100, 101, 102, 103, 104, 105, 106, 107, 108, 109, 110, 111, 112, 113, 114, 115, 116, 117, 118, 119, 120, 121, 122, 48, 49, 50, 51, 52, 53, 54, 55, 56, 57, 95] }] w fun e w' => e = .returned (.string (str (Lib.trimS s letL))) ∧ Ext w w' := by
  have h := Tryz.strings_Trim_any (str s) { data := #[97, 98, 99, 100, 101, 102, 103, 104, 105, 106, 107, 108, 109, 110, 111, 112, 113, 114, 115, 116, 117, 118, 119, 120, 121, 122, 48, 49, 50, 51, 52, 53, 54, 55, 56, 57, 95] } w (by rw [str_size]; exact hs) (by decide) (ascii_of_all (by decide +kernel))
  rw [str_list] at h
  exact h

set_option maxHeartbeats 1000000 in
theorem name_any (s : List UInt8) (hs : s.length ≤ 9223372036854775807) (w : World) :
    Calls Tryz.prog 54 #[.string (str s)] w fun e w' => e = .returned (.bool (nameB s)) ∧ Ext w w' := by
  have hss := str_size s
  by_cases h1 : 1 ≤ s.length
  case neg =>
    have HX := Lib.hid (nameB_short h1)
    have h1' : ¬ (1 : Int) ≤ (s.length : Int) := by omega
    go_enter Tryz.func54, Tryz.ntmps54
    go_wp2
    go_ret
    exact ⟨by rw [HX.out]; rfl, Ext.refl w⟩
  have h1' : (1 : Int) ≤ (s.length : Int) := by omega
  by_cases h2 : s.length ≤ 20
  case neg =>
    have HX := Lib.hid (nameB_long h2)
    have h2' : ¬ (s.length : Int) ≤ 20 := by omega
    go_enter Tryz.func54, Tryz.ntmps54
    go_wp2
    go_ret
    exact ⟨by rw [HX.out]; rfl, Ext.refl w⟩
  have h2' : (s.length : Int) ≤ 20 := by omega
  have HX := Lib.hid (nameB_all h1 h2)
  have HN := Lib.hid (trim_nil s)
  go_enter Tryz.func54, Tryz.ntmps54
  go_wp2_with fail
  refine (trim_let s hs w).mono ?_
  rintro e w1 ⟨rfl, hE⟩
  cases ha : s.all letB with
  | true =>
    rw [HN.out.2 ha]
    have HA := Lib.hid ha
    have e1 : (str []).toList = ([] : List UInt8) := str_toList []
    clear ha
    go_wp2
    go_ret
    exact ⟨by rw [HX.out, HA.out]; simp_all, hE⟩
  | false =>
    obtain ⟨T, hT⟩ : ∃ T, T = Lib.trimS s letL := ⟨_, rfl⟩
    have hT0 : T ≠ [] := by rw [hT]; intro h; rw [HN.out.1 h] at ha; cases ha
    rw [← hT]
    have HA := Lib.hid ha
    have e1 : (str T).toList = T := str_toList T
    have e2 : T.isEmpty = false := by cases T with | nil => exact absurd rfl hT0 | cons _ _ => rfl
    clear ha hT
    go_wp2
    go_ret
    exact ⟨by rw [HX.out, HA.out]; simp_all, hE⟩

set_option maxHeartbeats 2000000 in
theorem rname_any (s : List UInt8) (hs : s.length ≤ 9223372036854775807) (w : World) :
    Calls Tryz.prog 57 #[.string (str s)] w fun e w' => e = .returned (.bool (nameB s)) ∧ w = w' := by
  have hss := str_size s
  go_enter Tryz.func57, Tryz.ntmps57
  go_wp2_with fail
  go_loop [3] (fun i => ∃ j : Nat, j ≤ s.length ∧ i = .int .i64 j ∧ Hid ((s.take j).all letB = true)) (fun i => s.length - (intOf i).toNat)
  case atStart => exact ⟨0, by omega, rfl, Lib.hid (by simp)⟩
  case round =>
    obtain ⟨j, hj, rfl, HA⟩ := hrel
    by_cases hlt : j < s.length
    · obtain ⟨x, hx⟩ : ∃ x, x = s[j]?.getD 0 := ⟨_, rfl⟩
      have hxs : x = s[j] := by rw [hx]; simp [hlt]
      have hix := run_index_str (P := Tryz.prog) Tryz.underlying9 s j hlt
      rw [← hx] at hix
      have HI := Lib.hid hxs
      clear hx hxs
      cases hb : letB x with
      | true =>
        have HB := Lib.hid hb
        unfold letB at hb
        simp only [Bool.or_eq_true, Bool.and_eq_true, decide_eq_true_eq] at hb
        generalize hz : (x.toNat : Int) = z at *
        have hz2 : (97 ≤ z ∧ z ≤ 122) ∨ (48 ≤ z ∧ z ≤ 57) ∨ z = 95 := by omega
        clear hb hz
        rcases hz2 with ⟨z1, z2⟩ | ⟨z1, z2⟩ | hz95
        case' inl => skip
        case' inr.inl =>
          have z3 : ¬ 97 ≤ z := by omega
        case' inr.inr =>
          have z3 : ¬ 97 ≤ z := by omega
          have z4 : 48 ≤ z := by omega
          have z5 : ¬ z ≤ 57 := by omega
          have z6 : (z == 95) = true := by simp [hz95]
          clear hz95
        all_goals
          go_wp2
          go_round
          case rel => exact ⟨j + 1, by omega, by go_num, Lib.hid (all_at hlt HA.out (by rw [← HI.out]; exact HB.out))⟩
          case measure => simp [intOf]; omega
      | false =>
        have HB := Lib.hid (show nameB s = false by
          unfold nameB; rw [all_not hlt (by rw [← HI.out]; exact hb)]; rfl)
        unfold letB at hb
        simp only [Bool.or_eq_false_iff, Bool.and_eq_false_iff, decide_eq_false_iff_not] at hb
        generalize hz : (x.toNat : Int) = z at *
        have hz2 : (z < 97 ∨ 122 < z) ∧ (z < 48 ∨ 57 < z) ∧ (z == 95) = false := by
          refine ⟨by omega, by omega, ?_⟩
          simp; omega
        clear hb hz HA HI
        obtain ⟨ha, hb, hc⟩ := hz2
        by_cases k1 : 97 ≤ z
        case' pos =>
          have k2 : ¬ z ≤ 122 := by omega
          have k3 : 48 ≤ z := by omega
          have k4 : ¬ z ≤ 57 := by omega
        case' neg =>
          by_cases k3 : 48 ≤ z
          case' pos =>
            have k4 : ¬ z ≤ 57 := by omega
        all_goals
          clear ha hb
          go_wp2
          go_ret
          exact ⟨by rw [HB.out]; rfl, rfl⟩
    · have hjl : j = s.length := by omega
      have HA2 := Lib.hid (show s.all letB = true by have := HA.out; rwa [hjl, List.take_length] at this)
      clear HA
      by_cases h1 : 1 ≤ s.length
      case neg =>
        have HX := Lib.hid (nameB_short h1)
        have h1' : ¬ (1 : Int) ≤ (s.length : Int) := by omega
        clear hjl
        go_wp2
        go_ret
        exact ⟨by rw [HX.out]; rfl, rfl⟩
      have h1' : (1 : Int) ≤ (s.length : Int) := by omega
      by_cases h2 : s.length ≤ 20
      case neg =>
        have HX := Lib.hid (nameB_long h2)
        have h2' : ¬ (s.length : Int) ≤ 20 := by omega
        clear hjl
        go_wp2
        go_ret
        exact ⟨by rw [HX.out]; rfl, rfl⟩
      have h2' : (s.length : Int) ≤ 20 := by omega
      have HX := Lib.hid ((nameB_all h1 h2).trans HA2.out)
      clear hjl
      go_wp2
      go_ret
      exact ⟨by rw [HX.out]; rfl, rfl⟩
end Go.Proofs.YtpcgpcjleedilaaGreatDoor

/- Walks: slices.IndexFunc, ContainsFunc at []string and []api.Item. -/
open Go.RowKit Go.Shelf
namespace Go.Proofs.YtpcgpcjleedilaaGreatDoor
open Go Go.Proofs Fm

end Go.Proofs.YtpcgpcjleedilaaGreatDoor

/- Walks of package frag: fits, Right; the reference's item, Right. -/
open Go.RowKit Go.Shelf
namespace Go.Proofs.YtpcgpcjleedilaaGreatDoor
open Go Go.Proofs Fm

end Go.Proofs.YtpcgpcjleedilaaGreatDoor

open Go.RowKit Go.Shelf
namespace Go.Proofs.YtpcgpcjleedilaaGreatDoor
open Go Go.Proofs Fm

set_option maxRecDepth 100000 in
set_option maxHeartbeats 1000000 in
theorem indexSp_inv (l : List Stp) (f : FuncId) (eg : ∀ args w, (callFunc f args).run Tryz.prog w = .ok (.enter f args) w) (caps : Array Value) (q : Nat → Bool) (J : Nat → World → Prop) (w : World) (v : Value) (h : stpE.Row w l v) (hJ : ∀ i w', J i w' → Ext w w') (h0 : J 0 w)
    (hf : ∀ i (hi : i < l.length) w', J i w' → (∀ j, j < i → q j = false) → stpWf l[i] → Calls Tryz.prog f (#[.agg #[.string (str l[i].name), .int .i64 l[i].place]] ++ caps) w' fun e w'' => e = .returned (.bool (q i)) ∧ J (i + 1) w'') :
    Calls Tryz.prog 81 #[v, .func (.func f) #[] caps] w (IdxPost l.length q J) := by
  obtain ⟨a, c, rfl, hlc, hcm⟩ := h.slice
  have HR := Lib.hid h
  have HF := Lib.hid hf
  have HJ := Lib.hid hJ
  have hlm : l.length ≤ 9223372036854775807 := by omega
  clear h hf hJ
  go_enter Tryz.func81, Tryz.ntmps81
  go_wp2_with fail
  go_loopw [8] (fun i wr => ∃ j : Nat, j ≤ l.length ∧ i = .int .i64 j ∧ Hid (J j wr) ∧ Hid (∀ k, k < j → q k = false)) (fun i _ => l.length - (intOf i).toNat)
  case atStart => exact ⟨0, by omega, rfl, Lib.hid h0, Lib.hid (fun k hk => by omega)⟩
  case round =>
    clear h0
    obtain ⟨j, hj, rfl, HJj, HQ⟩ := hrel
    by_cases hlt : j < l.length
    · obtain ⟨b, off, rfl, hb, c0, c1, hs⟩ := stp_at HR.out (HJ.out _ _ HJj.out) j hlt
      have HS := Lib.hid hs
      clear hs
      go_wp2_with fail
      refine (HF.out j hlt wr HJj.out HQ.out HS.out).mono ?_
      rintro e w1 ⟨rfl, hJ1⟩
      have HJ1 := Lib.hid hJ1
      clear hJ1 c0 c1
      cases hq : q j with
      | true =>
        have HX : Hid (IdxPost l.length q J (.returned (.int .i64 (j : Int))) w1) := Lib.hid (.inl ⟨j, hlt, hq, HQ.out, rfl, HJ1.out⟩)
        clear hq
        go_wp2
        go_ret
        exact HX.out
      | false =>
        have HQ1 : Hid (∀ k, k < j + 1 → q k = false) := Lib.hid (fun k hk => by
          by_cases h : k = j
          · rw [h]; exact hq
          · exact HQ.out k (by omega))
        clear hq
        go_wp2
        go_roundw
        case rel => exact ⟨j + 1, by omega, by go_num, HJ1, HQ1⟩
        case measure => simp [intOf]; omega
    · obtain rfl : j = l.length := by omega
      have HX : Hid (IdxPost l.length q J (.returned (.int .i64 (-1))) wr) := Lib.hid (.inr ⟨HQ.out, rfl, HJj.out⟩)
      go_wp2
      go_ret
      exact HX.out
set_option maxRecDepth 100000 in
set_option maxHeartbeats 1000000 in
theorem hasSp_inv (l : List Stp) (f : FuncId) (eg : ∀ args w, (callFunc f args).run Tryz.prog w = .ok (.enter f args) w) (caps : Array Value) (q : Nat → Bool) (J : Nat → World → Prop) (w : World) (v : Value) (h : stpE.Row w l v) (hJ : ∀ i w', J i w' → Ext w w') (h0 : J 0 w)
    (hf : ∀ i (hi : i < l.length) w', J i w' → (∀ j, j < i → q j = false) → stpWf l[i] → Calls Tryz.prog f (#[.agg #[.string (str l[i].name), .int .i64 l[i].place]] ++ caps) w' fun e w'' => e = .returned (.bool (q i)) ∧ J (i + 1) w'') :
    Calls Tryz.prog 56 #[v, .func (.func f) #[] caps] w (HasPost l.length q J) := by
  have hC := indexSp_inv l f eg caps q J w v h hJ h0 hf
  obtain ⟨a, c, rfl, hlc, hcm⟩ := h.slice
  have HC := Lib.hid hC
  clear h hf hJ hC h0
  go_enter Tryz.func56, Tryz.ntmps56
  go_wp2_with fail
  refine HC.out.mono ?_
  rintro e w1 (⟨i, hi, h1, h2, rfl, h3⟩ | ⟨h1, rfl, h3⟩)
  · have HX : Hid (HasPost l.length q J (.returned (.bool true)) w1) := Lib.hid (.inl ⟨i, hi, h1, h2, rfl, h3⟩)
    clear h1 h2 h3
    have h0 : (0 : Int) ≤ (i : Int) := by omega
    go_wp2
    go_ret
    exact HX.out
  · have HX : Hid (HasPost l.length q J (.returned (.bool false)) w1) := Lib.hid (.inr ⟨h1, rfl, h3⟩)
    clear h1 h3
    go_wp2
    go_ret
    exact HX.out
/-- Where the world only grows. -/
theorem hasSp_any (l : List Stp) (f : FuncId) (eg : ∀ args w, (callFunc f args).run Tryz.prog w = .ok (.enter f args) w) (caps : Array Value) (q : Nat → Bool) (w : World) (v : Value) (h : stpE.Row w l v)
    (hf : ∀ i (hi : i < l.length) w', Ext w w' → stpWf l[i] → Calls Tryz.prog f (#[.agg #[.string (str l[i].name), .int .i64 l[i].place]] ++ caps) w' fun e w'' => e = .returned (.bool (q i)) ∧ Ext w' w'') :
    Calls Tryz.prog 56 #[v, .func (.func f) #[] caps] w fun e w' => ∃ b, e = .returned (.bool b) ∧ (b = true ↔ ∃ i, i < l.length ∧ q i = true) ∧ Ext w w' := by
  refine (hasSp_inv l f eg caps q (fun _ => Ext w) w v h (fun _ _ h => h) (Ext.refl w) (fun i hi w' hE _ hs => (hf i hi w' hE hs).mono fun e w'' ⟨a, b⟩ => ⟨a, hE.trans b⟩)).mono ?_
  rintro e w' (⟨i, hi, h1, h2, rfl, hE⟩ | ⟨h1, rfl, hE⟩)
  · exact ⟨true, rfl, ⟨fun _ => ⟨i, hi, h1⟩, fun _ => rfl⟩, hE⟩
  · exact ⟨false, rfl, ⟨(fun h => by cases h), (fun ⟨i, hi, h⟩ => by rw [h1 i hi] at h; cases h)⟩, hE⟩
end Go.Proofs.YtpcgpcjleedilaaGreatDoor

open Go.RowKit Go.Shelf
namespace Go.Proofs.YtpcgpcjleedilaaGreatDoor
open Go Go.Proofs Fm

theorem idMay_any (n : Int) (w : World) : Calls Tryz.prog 55 #[.int .i64 n] w fun e w' => e = .returned (.bool (mayB n)) ∧ w = w' := by
  have HX := Lib.hid (show mayB n = (decide (0 ≤ n) && decide (n ≤ 999999)) from rfl)
  by_cases h1 : 0 ≤ n
  · have k1 := Lib.hid (decide_eq_true h1)
    by_cases h2 : n ≤ 999999
    · have k2 := Lib.hid (decide_eq_true h2)
      go_enter Tryz.func55, Tryz.ntmps55
      go_wp2
      go_ret
      exact ⟨by rw [HX.out, k1.out, k2.out]; rfl, rfl⟩
    · have k2 := Lib.hid (decide_eq_false h2)
      have h3 : 999999 < n := by omega
      go_enter Tryz.func55, Tryz.ntmps55
      go_wp2
      go_ret
      exact ⟨by rw [HX.out, k1.out, k2.out]; rfl, rfl⟩
  · have k1 := Lib.hid (decide_eq_false h1)
    have h3 : n < 0 := by omega
    go_enter Tryz.func55, Tryz.ntmps55
    go_wp2
    go_ret
    exact ⟨by rw [HX.out, k1.out]; rfl, rfl⟩
set_option maxHeartbeats 1000000 in
theorem idWrong_any (x : Stp) (hx : stpWf x) (w : World) :
    Calls Tryz.prog 53 #[.agg #[.string (str x.name), .int .i64 x.place]] w fun e w' => e = .returned (.bool (!stpB x)) ∧ Ext w w' := by
  have HX := Lib.hid (show stpB x = (nameB x.name && (decide (x.place = -1) || mayB x.place)) from rfl)
  have hn := hx.1
  have HE0 := Lib.hid ((Ext.refl w).alloc (.cells #[.string (str x.name), .int .i64 x.place] 27))
  have hb := BoxL.new w [.string (str x.name), .int .i64 x.place] 27
  go_enter Tryz.func53, Tryz.ntmps53
  go_upto_region 1 with (fail)
  generalize w.alloc (.cells #[.string (str x.name), .int .i64 x.place] 27) = W1 at *
  have p0 := hb.cell 0 _ rfl
  have p1 := hb.cell 1 _ rfl
  have HB := Lib.hid hb
  clear hb
  go_wp2_with fail
  refine (name_any x.name hn W1).mono ?_
  rintro e w1 ⟨rfl, hE⟩
  have HE1 := Lib.hid (HE0.out.trans hE)
  have p0 := (HB.out.ext hE).cell 0 _ rfl
  have p1 := (HB.out.ext hE).cell 1 _ rfl
  clear hE HE0 HB
  cases hq : nameB x.name with
  | false =>
    have HY := Lib.hid (show stpB x = false by rw [HX.out, hq]; rfl)
    clear hq
    go_wp2
    go_ret
    exact ⟨by rw [HY.out]; rfl, HE1.out⟩
  | true =>
  by_cases hp : x.place = -1
  · have HY := Lib.hid (show stpB x = true by rw [HX.out, hq, decide_eq_true hp]; rfl)
    have ht : (x.place != -1) = false := by simp [hp]
    clear hq hp
    go_wp2
    go_ret
    exact ⟨by rw [HY.out]; rfl, HE1.out⟩
  · have HY := Lib.hid (show stpB x = mayB x.place by rw [HX.out, hq, decide_eq_false hp]; rfl)
    have ht : (x.place != -1) = true := by simp [hp]
    clear hq hp
    go_wp2_with fail
    refine (idMay_any x.place w1).mono ?_
    rintro e w2 ⟨rfl, rfl⟩
    go_wp2
    go_ret
    exact ⟨by rw [HY.out]; rfl, HE1.out⟩
theorem hasWrong_any (l : List Stp) (w : World) (v : Value) (h : stpE.Row w l v) :
    Calls Tryz.prog 56 #[v, .func (.func 53) #[] #[]] w fun e w' => e = .returned (.bool (!l.all stpB)) ∧ Ext w w' := by
  refine (hasSp_any l 53 Tryz.call53 #[] (fun i => if h : i < l.length then !stpB l[i] else false) w v h (fun i hi w' hE hs => ?_)).mono ?_
  · simp only [dif_pos hi]
    exact idWrong_any l[i] hs w'
  · rintro e w' ⟨b, rfl, hb, hE⟩
    refine ⟨?_, hE⟩
    congr 2
    rw [Bool.eq_iff_iff, hb, Bool.not_eq_true', ← Bool.not_eq_true, List.all_eq_true]
    constructor
    · rintro ⟨i, hi, hq⟩ h
      simp only [dif_pos hi] at hq
      rw [h _ (List.getElem_mem hi)] at hq
      cases hq
    · intro h
      rw [Classical.not_forall] at h
      obtain ⟨x, h⟩ := h
      rw [Classical.not_imp] at h
      obtain ⟨i, hi, rfl⟩ := List.getElem_of_mem h.1
      refine ⟨i, hi, ?_⟩
      simp only [dif_pos hi]
      simpa using h.2
set_option maxHeartbeats 1000000 in
theorem idRight_any (p : Pth) (w : World) (v : Value) (h : PthV w p v) :
    Calls Tryz.prog 13 #[v] w fun e w' => e = .returned (.bool (pthB p)) ∧ Ext w w' := by
  obtain ⟨a, m, c, rfl, hr, hi⟩ := h
  have HX := Lib.hid (show pthB p = (mayB p.flow && p.steps.all stpB) from rfl)
  have HE0 := Lib.hid ((Ext.refl w).alloc (.cells #[.int .i64 p.flow, .slice a m c] 24))
  have hb := BoxL.new w [.int .i64 p.flow, .slice a m c] 24
  have HR := Lib.hid (hr.ext HE0.out)
  clear hr
  go_enter Tryz.func13, Tryz.ntmps13
  go_wp2_with fail
  generalize w.alloc (.cells #[.int .i64 p.flow, .slice a m c] 24) = W1 at *
  have p0 := hb.cell 0 _ rfl
  have p1 := hb.cell 1 _ rfl
  clear hb
  refine (idMay_any p.flow _).mono ?_
  rintro e w1 ⟨rfl, rfl⟩
  cases hq : mayB p.flow with
  | false =>
    have HY := Lib.hid (show pthB p = false by rw [HX.out, hq]; rfl)
    clear hq
    go_wp2
    go_ret
    exact ⟨by rw [HY.out]; rfl, HE0.out⟩
  | true =>
    have HY := Lib.hid (show pthB p = p.steps.all stpB by rw [HX.out, hq]; rfl)
    clear hq
    go_wp2_with fail
    refine (hasWrong_any p.steps W1 _ HR.out).mono ?_
    rintro e w2 ⟨rfl, hE⟩
    have HE := Lib.hid (HE0.out.trans hE)
    clear hE
    go_wp2
    go_ret
    exact ⟨by rw [HY.out]; simp [go_sem], HE.out⟩
end Go.Proofs.YtpcgpcjleedilaaGreatDoor

namespace Go.Proofs
open Go.Shelf
def Tryz.lays166_ren : Go.Shelf.Ren := ⟨fun | 166 => 58 | 240 => 82 | 276 => 100 | n => n, fun | 0 => 0 | 3 => 3 | 4 => 4 | 9 => 9 | 20 => 20 | 37 => 66 | 70 => 88 | 72 => 90 | 75 => 92 | 164 => 132 | 5 => 5 | 80 => 96 | n => n, fun | n => n⟩
theorem Tryz.lays166 : Go.Proofs.Lays.n166 Tryz.prog Tryz.lays166_ren := {
  mixed := by kernel_rfl
  f166 := Tryz.func58.trans (congrArg some (by kernel_rfl))
  f240 := Tryz.func82.trans (congrArg some (by kernel_rfl))
  f276 := Tryz.func100.trans (congrArg some (by kernel_rfl))
  t0 := Tryz.underlying0
  a0 := Tryz.isAgg0
  z0 := Tryz.sizeOf0
  v0 := Tryz.zeroValue0
  t3 := Tryz.underlying3
  a3 := Tryz.isAgg3
  z3 := Tryz.sizeOf3
  v3 := Tryz.zeroValue3
  t4 := Tryz.underlying4
  a4 := Tryz.isAgg4
  z4 := Tryz.sizeOf4
  v4 := Tryz.zeroValue4
  t9 := Tryz.underlying9
  a9 := Tryz.isAgg9
  z9 := Tryz.sizeOf9
  v9 := Tryz.zeroValue9
  t20 := Tryz.underlying20
  a20 := Tryz.isAgg20
  z20 := Tryz.sizeOf20
  v20 := Tryz.zeroValue20
  t37 := Tryz.underlying66
  a37 := Tryz.isAgg66
  z37 := Tryz.sizeOf66
  v37 := Tryz.zeroValue66
  t70 := Tryz.underlying88
  a70 := Tryz.isAgg88
  z70 := Tryz.sizeOf88
  v70 := Tryz.zeroValue88
  t72 := Tryz.underlying90
  a72 := Tryz.isAgg90
  z72 := Tryz.sizeOf90
  v72 := Tryz.zeroValue90
  t75 := Tryz.underlying92
  a75 := Tryz.isAgg92
  z75 := Tryz.sizeOf92
  v75 := Tryz.zeroValue92
  t164 := Tryz.underlying132
  a164 := Tryz.isAgg132
  z164 := Tryz.sizeOf132
  v164 := Tryz.zeroValue132 }
theorem Tryz.Builder_Extra_166 : Builder.Extra Tryz.prog Tryz.lays166_ren := {
  sizeBuilder := by kernel_rfl
  liesBuilder := by kernel_rfl
  t5 := Tryz.underlying5
  a5 := Tryz.isAgg5
  z5 := Tryz.sizeOf5
  v5 := Tryz.zeroValue5
  infoByte := by kernel_rfl
  cellsByte := by kernel_rfl
  sizeByte := by kernel_rfl
  neB5 := by decide }
def Tryz.lays169_ren : Go.Shelf.Ren := ⟨fun | 169 => 60 | n => n, fun | 70 => 88 | 9 => 9 | 0 => 0 | 72 => 90 | 37 => 66 | 127 => 118 | 3 => 3 | 5 => 5 | n => n, fun | n => n⟩
theorem Tryz.lays169 : Go.Proofs.Lays.n169 Tryz.prog Tryz.lays169_ren := {
  mixed := by kernel_rfl
  f169 := Tryz.func60.trans (congrArg some (by kernel_rfl))
  t0 := Tryz.underlying0
  a0 := Tryz.isAgg0
  z0 := Tryz.sizeOf0
  v0 := Tryz.zeroValue0
  t3 := Tryz.underlying3
  a3 := Tryz.isAgg3
  z3 := Tryz.sizeOf3
  v3 := Tryz.zeroValue3
  t9 := Tryz.underlying9
  a9 := Tryz.isAgg9
  z9 := Tryz.sizeOf9
  v9 := Tryz.zeroValue9
  t37 := Tryz.underlying66
  a37 := Tryz.isAgg66
  z37 := Tryz.sizeOf66
  v37 := Tryz.zeroValue66
  t70 := Tryz.underlying88
  a70 := Tryz.isAgg88
  z70 := Tryz.sizeOf88
  v70 := Tryz.zeroValue88
  t72 := Tryz.underlying90
  a72 := Tryz.isAgg90
  z72 := Tryz.sizeOf90
  v72 := Tryz.zeroValue90
  t127 := Tryz.underlying118
  a127 := Tryz.isAgg118
  z127 := Tryz.sizeOf118
  v127 := Tryz.zeroValue118 }
theorem Tryz.Builder_Extra_169 : Builder.Extra Tryz.prog Tryz.lays169_ren := {
  sizeBuilder := by kernel_rfl
  liesBuilder := by kernel_rfl
  t5 := Tryz.underlying5
  a5 := Tryz.isAgg5
  z5 := Tryz.sizeOf5
  v5 := Tryz.zeroValue5
  infoByte := by kernel_rfl
  cellsByte := by kernel_rfl
  sizeByte := by kernel_rfl
  neB5 := by decide }
open Go.RowKit in
theorem Tryz.Builder_String_any (B b : Nat) (l : List UInt8) (w : World) (h : Lib.IsBuilder 90 5 B b (Lib.byteCells l) w) (hBw : B ≤ w.heap.size) :
    Calls Tryz.prog 60 #[.pointer (some ⟨b, 0, none⟩)] w fun e w' => e = .returned (.string ⟨l.toArray⟩) ∧ Below B w w' := Any.Builder_String_any Tryz.lays169 Tryz.Builder_Extra_169 B b l w h hBw
end Go.Proofs

open Go.RowKit Go.Shelf
namespace Go.Proofs.YtpcgpcjleedilaaGreatDoor
open Go Go.Proofs Fm

end Go.Proofs.YtpcgpcjleedilaaGreatDoor

/- Walks: Right, Bytes. -/
open Go.RowKit Go.Shelf
namespace Go.Proofs.YtpcgpcjleedilaaGreatDoor
open Go Go.Proofs Fm

end Go.Proofs.YtpcgpcjleedilaaGreatDoor

/- Walks: the reader's num and text. -/
open Go.RowKit Go.Shelf
namespace Go.Proofs.YtpcgpcjleedilaaGreatDoor
open Go Go.Proofs Fm

/-- The reader in block R: what is left, and how much room. -/
structure RdAt (w0 w : World) (R : Nat) (v : Value) (xs : List UInt8) (m : Int) : Prop where
  ext : Ext w0 w
  old : w0.heap.size ≤ R
  lt : R < w.heap.size
  c0 : w.cell? ⟨R, 0, none⟩ = some v
  c1 : w.cell? ⟨R, 1, none⟩ = some (.int .i64 m)
  f0 : w.frozen? ⟨R, 0, none⟩ = false
  f1 : w.frozen? ⟨R, 1, none⟩ = false
  bytes : Bytes w0 v xs
theorem RdAt.kept {w0 w w' : World} {R : Nat} {v : Value} {xs : List UInt8} {m : Int} (h : RdAt w0 w R v xs m) {row : Option Nat} (hg : w.grownBy w' row) (hr : ∀ k, row = some k → w0.heap.size ≤ k ∧ k ≠ R) : RdAt w0 w' R v xs m := by
  have hne : some R ≠ row := fun e => (hr R e.symm).2 rfl
  exact ⟨h.ext.grown hg (fun k hk => (hr k hk).1), h.old, Nat.lt_of_lt_of_le h.lt hg.size, (hg.cell_far ⟨R, 0, none⟩ h.lt hne).trans h.c0, (hg.cell_far ⟨R, 1, none⟩ h.lt hne).trans h.c1,
    (hg.frozen_far ⟨R, 0, none⟩ h.lt hne).trans h.f0, (hg.frozen_far ⟨R, 1, none⟩ h.lt hne).trans h.f1, h.bytes⟩
theorem RdAt.then {w0 w w' : World} {R : Nat} {v : Value} {xs : List UInt8} {m : Int} (h : RdAt w0 w R v xs m) (hE : Ext w w') : RdAt w0 w' R v xs m := h.kept hE.grownBy (fun k hk => by cases hk)
theorem grown_set (w : World) (R o : Nat) (u : Value) : w.grownBy (w.setCell ⟨R, o, none⟩ u) (some R) := ⟨rfl, rfl, rfl, by simp [World.setCell], fun k _ hk => Below.heap_setCell _ _ _ _ (fun e => hk (by simp [e]))⟩
end Go.Proofs.YtpcgpcjleedilaaGreatDoor

/- Walks: the reader's value. -/
open Go.RowKit Go.Shelf
namespace Go.Proofs.YtpcgpcjleedilaaGreatDoor
open Go Go.Proofs Fm

/-- A struct of four cells in a block of its own. -/
def Box4 (w : World) (b : Nat) (c0 c1 c2 c3 : Value) : Prop := w.heap[b]? = some (.cells #[c0, c1, c2, c3] 44 (0, 0))
theorem Box4.new (w : World) (c0 c1 c2 c3 : Value) : Box4 (w.alloc (.cells #[c0, c1, c2, c3] 44)) w.heap.size c0 c1 c2 c3 := heap_alloc_new w _
theorem Box4.lt {w : World} {b : Nat} {c0 c1 c2 c3 : Value} (h : Box4 w b c0 c1 c2 c3) : b < w.heap.size := (Array.getElem?_eq_some_iff.1 h).1
theorem Box4.kept {w w' : World} {b : Nat} {c0 c1 c2 c3 : Value} (h : Box4 w b c0 c1 c2 c3) {row : Option Nat} (hg : w.grownBy w' row) (hr : row ≠ some b) : Box4 w' b c0 c1 c2 c3 := (hg.block b h.lt (fun e => hr e.symm)).trans h
theorem Box4.ext {w w' : World} {b : Nat} {c0 c1 c2 c3 : Value} (h : Box4 w b c0 c1 c2 c3) (hE : Ext w w') : Box4 w' b c0 c1 c2 c3 := (hE.block b h.lt).trans h
theorem Box4.cells {w : World} {b : Nat} {c0 c1 c2 c3 : Value} (h : Box4 w b c0 c1 c2 c3) : w.cell? ⟨b, 0, none⟩ = some c0 ∧ w.cell? ⟨b, 1, none⟩ = some c1 ∧ w.cell? ⟨b, 2, none⟩ = some c2 ∧ w.cell? ⟨b, 3, none⟩ = some c3 := by
  unfold Box4 at h
  refine ⟨?_, ?_, ?_, ?_⟩ <;> simp [World.cell?, h]
theorem Box4.frozen {w : World} {b : Nat} {c0 c1 c2 c3 : Value} (h : Box4 w b c0 c1 c2 c3) : w.frozen? ⟨b, 0, none⟩ = false ∧ w.frozen? ⟨b, 1, none⟩ = false ∧ w.frozen? ⟨b, 2, none⟩ = false ∧ w.frozen? ⟨b, 3, none⟩ = false := by
  unfold Box4 at h
  refine ⟨?_, ?_, ?_, ?_⟩ <;> simp [World.frozen?, h]
end Go.Proofs.YtpcgpcjleedilaaGreatDoor

open Go.RowKit Go.Shelf
namespace Go.Proofs.YtpcgpcjleedilaaGreatDoor
open Go Go.Proofs Fm

end Go.Proofs.YtpcgpcjleedilaaGreatDoor

/- Walks: Take, Parse. -/
open Go.RowKit Go.Shelf
namespace Go.Proofs.YtpcgpcjleedilaaGreatDoor
open Go Go.Proofs Fm

theorem Box4.other {w : World} {b g : Nat} {c0 c1 c2 c3 : Value} (h : Box4 w b c0 c1 c2 c3) (hb : g ≠ b) (o : Nat) (u : Value) : Box4 (w.setCell ⟨g, o, none⟩ u) b c0 c1 c2 c3 :=
  h.kept (grown_set w g o u) (by simpa using hb)
theorem blk_ext {w w' : World} {b : Nat} {o : Obj} (h : w.heap[b]? = some o) (hE : Ext w w') : w'.heap[b]? = some o := (hE.block b (Array.getElem?_eq_some_iff.1 h).1).trans h
theorem blk_cell {w : World} {b : Nat} {cs : Array Value} {t : TypeId} (h : w.heap[b]? = some (.cells cs t (0, 0))) (j : Nat) : w.cell? ⟨b, j, none⟩ = cs[j]? := by simp [World.cell?, h]
theorem blk_free {w : World} {b : Nat} {cs : Array Value} {t : TypeId} (h : w.heap[b]? = some (.cells cs t (0, 0))) (j : Nat) : w.frozen? ⟨b, j, none⟩ = false := by simp [World.frozen?, h]

end Go.Proofs.YtpcgpcjleedilaaGreatDoor

/- Walks: Parse. -/
open Go.RowKit Go.Shelf
namespace Go.Proofs.YtpcgpcjleedilaaGreatDoor
open Go Go.Proofs Fm

end Go.Proofs.YtpcgpcjleedilaaGreatDoor

/- What a round that appends to a box's list leaves. -/
open Go.RowKit Go.Shelf
namespace Go.Proofs.YtpcgpcjleedilaaGreatDoor
open Go Go.Proofs Fm

end Go.Proofs.YtpcgpcjleedilaaGreatDoor

open Go.RowKit Go.Shelf
namespace Go.Proofs.YtpcgpcjleedilaaGreatDoor
open Go Go.Proofs Fm

/-- A builder in block b, of the call's own from block B on, holds these bytes. -/
def Bld (B b : Nat) (xs : List UInt8) (w : World) : Prop := Lib.IsBuilder 90 5 B b (xs.map bv) w
/-- .. and has been written. -/
def BldU (B b : Nat) (xs : List UInt8) (w : World) : Prop := Lib.BuilderAt 90 5 B b (.pointer (some ⟨b, 0, none⟩)) (xs.map bv) w
theorem BldU.bld {B b : Nat} {xs : List UInt8} {w : World} (h : BldU B b xs w) : Bld B b xs w := .inr h
theorem BldU.lt {B b : Nat} {xs : List UInt8} {w : World} (h : BldU B b xs w) : B ≤ b ∧ b < w.heap.size := ⟨h.1, Lib.BuilderAt.lt h⟩
/-- It stays where nothing else but new memory comes. -/
theorem BldU.ext {B b : Nat} {xs : List UInt8} {w w' : World} (h : BldU B b xs w) (hE : Ext w w') : BldU B b xs w' := by
  have hlt := h.lt.2
  obtain ⟨h1, v, hb, ho, hn⟩ := h
  exact ⟨h1, v, (hE.block b hlt).trans hb, hE.own ho, hn⟩
theorem Bld.lt {B b : Nat} {xs : List UInt8} {w : World} (h : Bld B b xs w) : B ≤ b ∧ b < w.heap.size := by
  rcases h with h | h
  · exact ⟨h.1, Lib.BuilderAt.lt h⟩
  · exact ⟨h.1, Lib.BuilderAt.lt h⟩
theorem Bld.ext {B b : Nat} {xs : List UInt8} {w w' : World} (h : Bld B b xs w) (hE : Ext w w') : Bld B b xs w' := by
  have hlt := h.lt.2
  rcases h with h | h
  · obtain ⟨h1, v, hb, ho, hn⟩ := h
    exact .inl ⟨h1, v, (hE.block b hlt).trans hb, hE.own ho, hn⟩
  · obtain ⟨h1, v, hb, ho, hn⟩ := h
    exact .inr ⟨h1, v, (hE.block b hlt).trans hb, hE.own ho, hn⟩

/-- In which block its buffer lies. -/
def bufAt (w : World) (b : Nat) : Option Nat := match w.heap[b]? with
  | some (.cells cs _ _) => (cs.getD 1 undef).ownBlock
  | _ => none
/-- Block k is none of the builder's. -/
def Apart (w : World) (b k : Nat) : Prop := k < w.heap.size ∧ k ≠ b ∧ bufAt w b ≠ some k
/-- What is none of the builder's stays as it is, and none of its. -/
def Keep (b : Nat) (w w' : World) : Prop := ∀ k, Apart w b k → w'.heap[k]? = w.heap[k]? ∧ Apart w' b k
theorem Keep.refl (b : Nat) (w : World) : Keep b w w := fun _ h => ⟨rfl, h⟩
theorem Keep.trans {b : Nat} {x y z : World} (h : Keep b x y) (k : Keep b y z) : Keep b x z := fun i hi => by
  obtain ⟨a1, a2⟩ := h i hi
  obtain ⟨b1, b2⟩ := k i a2
  exact ⟨b1.trans a1, b2⟩
theorem bufAt_ext {w w' : World} {b : Nat} (hE : Ext w w') (hb : b < w.heap.size) : bufAt w' b = bufAt w b := by unfold bufAt; rw [hE.block b hb]
theorem BldU.buf {B b : Nat} {xs : List UInt8} {w : World} (h : BldU B b xs w) : ∀ k, bufAt w b = some k → B ≤ k ∧ k < w.heap.size := by
  obtain ⟨_, v, hb, ho, _⟩ := h
  intro k hk
  unfold bufAt at hk
  rw [hb] at hk
  exact ho.lt k hk
/-- What is new is none of the builder's. -/
theorem BldU.apart {B b : Nat} {xs : List UInt8} {w : World} (h : BldU B b xs w) (o : Obj) : Apart (w.alloc o) b w.heap.size := by
  have hlt := h.lt.2
  refine ⟨by simp, by omega, fun e => ?_⟩
  rw [bufAt_ext ((Ext.refl w).alloc o) hlt] at e
  have := (h.buf _ e).2
  omega

/-- What is written is behind it. -/
def WrotePost (B b : Nat) (xs : List UInt8) (w : World) (r : Value) (e : Ending) (w' : World) : Prop := e = .returned r ∧ BldU B b xs w' ∧ Below B w w' ∧ Keep b w w'

theorem copyCheck_any {B b : Nat} {xs : List UInt8} {w : World} (h : Bld B b xs w) :
    Calls Tryz.prog 82 #[.pointer (some ⟨b, 0, none⟩)] w (WrotePost B b xs w (.tuple #[])) := by
  rcases h with h | h
  · refine (Any.Builder_copyCheck_fresh (L := { Tryz.lays166 with }) Tryz.Builder_Extra_166.toX72 b w h.cell0 h.shape h.frozen0).mono ?_
    rintro e w' ⟨rfl, rfl⟩
    refine ⟨rfl, h.used _, (Below.refl B w).setCell (p := ⟨b, 0, none⟩) h.1 _, fun k hk => ?_⟩
    have e1 : bufAt (w.setCell ⟨b, 0, none⟩ (.pointer (some ⟨b, 0, none⟩))) b = bufAt w b := by
      obtain ⟨_, v, hb, _⟩ := h
      unfold bufAt
      rw [hb]
      simp [World.setCell, Array.getElem?_modify, hb]
    have hne : k ≠ b := hk.2.1
    refine ⟨Below.heap_setCell _ _ _ _ (by simpa using hne), by simpa [World.setCell] using hk.1, hk.2.1, ?_⟩
    rw [e1]; exact hk.2.2
  · refine (Any.Builder_copyCheck_used (L := { Tryz.lays166 with }) Tryz.Builder_Extra_166.toX72 b w h.cell0).mono ?_
    rintro e w' ⟨rfl, rfl⟩
    exact ⟨rfl, h, Below.refl B _, Keep.refl _ _⟩

theorem appSt {w : World} {ops : Array Oper} {rest : List Oper} {o : Oper} {a : Act} {Q : Exit → Act → World → Prop}
    (hg : Region.wanted o (yielded ops a.tmps) = true) (s x : Operand) (hop : o.op = Op.call { callee := Callee.builtin Builtin.append, args := #[s, x], argTypes := #[66, 9] }) {base : Nat}
    {v : Value} {xs : List UInt8} (hs : a.eval s = v) (hown : OwnB base w v xs) {ys : List UInt8} (hx : a.eval x = .string (str ys))
    (b1 : xs.length + ys.length ≤ 70368744177664) (b3 : base ≤ w.heap.size)
    (hK : ∀ v' w', OwnB base w' v' (xs ++ ys) → w.grownBy w' v.ownBlock → (v'.ownBlock = v.ownBlock ∨ v'.ownBlock = some w.heap.size) → wpList Tryz.prog ops Q rest (a.put o.dst v') w') :
    wpList Tryz.prog ops Q (o :: rest) a w := by
  have hsrc := Src.string (P := Tryz.prog) Tryz.underlying9 w (str ys)
  rw [str_list] at hsrc
  refine wpList_appAt w elem_u8 hg s x 9 hop base v _ _ hs hown _ _ _ hx hsrc (by unfold maxLen; omega) (by omega) b3 (fun v' w' h1 h2 h3 => hK v' w' ?_ h2 h3)
  unfold OwnB; rw [List.length_append, List.map_append]; exact h1

/-- A new buffer is laid into the builder. -/
theorem wrote {B b : Nat} {xs zs : List UInt8} {w wa w2 : World} {v v' : Value} (hBb : B ≤ b) (hbk : w.heap[b]? = some (.cells #[.pointer (some ⟨b, 0, none⟩), v] 90 (0, 0))) (ho : OwnB B w v xs) (hn : v.ownBlock ≠ some b) (hE : Ext w wa) (hB : B ≤ wa.heap.size)
    (hown' : OwnB B w2 v' zs) (hg : wa.grownBy w2 v.ownBlock) (hat : v'.ownBlock = v.ownBlock ∨ v'.ownBlock = some wa.heap.size) :
    w2.cell? ⟨b, 1, none⟩ = some v ∧ w2.frozen? ⟨b, 1, none⟩ = false ∧ BldU B b zs (w2.setCell ⟨b, 1, none⟩ v') ∧ Below B w (w2.setCell ⟨b, 1, none⟩ v') ∧ Keep b w (w2.setCell ⟨b, 1, none⟩ v') := by
  have hlt : b < w.heap.size := (Array.getElem?_eq_some_iff.1 hbk).1
  have hba := blk_ext hbk hE
  have hz := hE.size
  have hb2 : w2.heap[b]? = some (.cells #[.pointer (some ⟨b, 0, none⟩), v] 90 (0, 0)) := by
    rw [hg.block b (by omega) (fun e => hn e.symm)]; exact hba
  have h1 : (w2.setCell ⟨b, 1, none⟩ v').heap[b]? = some (.cells #[.pointer (some ⟨b, 0, none⟩), v'] 90 (0, 0)) := by simp [World.setCell, Array.getElem?_modify, hb2]
  refine ⟨(blk_cell hb2 1).trans rfl, blk_free hb2 1, ?_, ?_, ?_⟩
  · exact Lib.BuilderAt.put (T := 90) (e := 5) hBb hb2 (bs' := zs.map bv) (by rw [List.length_map]; exact hown') Tryz.Builder_Extra_166.neB5
  · exact (((Below.refl B w).trans (hE.mono (by have := ho.lt; omega))).grown hg hB (fun k hk => (ho.lt k hk).1)).setCell (p := ⟨b, 1, none⟩) hBb _
  · intro k hk
    have e0 : bufAt w b = v.ownBlock := by unfold bufAt; rw [hbk]; rfl
    have e1 : bufAt (w2.setCell ⟨b, 1, none⟩ v') b = v'.ownBlock := by unfold bufAt; rw [h1]; rfl
    have hkv : v.ownBlock ≠ some k := by rw [← e0]; exact hk.2.2
    refine ⟨?_, ?_, hk.2.1, ?_⟩
    · rw [Below.heap_setCell _ _ _ _ (by simpa using hk.2.1), hg.block k (by have := hk.1; omega) (fun e => hkv e.symm)]
      exact hE.block k hk.1
    · have := hg.size; have := hk.1; simp [World.setCell]; omega
    · rw [e1]
      rcases hat with h | h
      · rw [h]; exact hkv
      · rw [h]; intro e; injection e with e; have := hk.1; omega

theorem BldU.open {B b : Nat} {xs : List UInt8} {w : World} (h : BldU B b xs w) : B ≤ b ∧ ∃ v, w.heap[b]? = some (.cells #[.pointer (some ⟨b, 0, none⟩), v] 90 (0, 0)) ∧ OwnB B w v xs ∧ v.ownBlock ≠ some b := by
  obtain ⟨h1, v, hb, ho, hn⟩ := h
  rw [List.length_map] at ho
  exact ⟨h1, v, hb, ho, hn⟩

set_option maxRecDepth 100000 in
set_option maxHeartbeats 2000000 in
theorem wstring_any {B b : Nat} {xs : List UInt8} {w : World} (h : Bld B b xs w) (s : List UInt8) (hl : xs.length ≤ 1000000000000) (hs : s.length ≤ 1000000000000) (hB : B ≤ w.heap.size) :
    Calls Tryz.prog 58 #[.pointer (some ⟨b, 0, none⟩), .string (str s)] w (WrotePost B b (xs ++ s) w (.tuple #[.int .i64 (s.length : Int), .nilIface])) := by
  have H := Lib.hid h
  clear h
  go_enter Tryz.func58, Tryz.ntmps58
  go_wp2_with fail
  refine (copyCheck_any H.out).mono ?_
  rintro e w1 ⟨rfl, hu, hB1, hK1⟩
  obtain ⟨hBb, v, hbk, ho, hn⟩ := hu.open
  have c1 : w1.cell? ⟨b, 1, none⟩ = some v := (blk_cell hbk 1).trans rfl
  have hb1 : B ≤ w1.heap.size := Nat.le_trans hB hB1.size
  have hsz := str_size s
  have HO := Lib.hid ho
  have HK := Lib.hid hbk
  have HN := Lib.hid hn
  have HB1 := Lib.hid hB1
  have HK1 := Lib.hid hK1
  clear ho hbk hn hu hB1 hK1
  go_wp2_with (at_builtin; refine appSt rfl _ _ rfl rfl HO.out rfl ?b1 hb1 ?_)
  case b1 => omega
  intro v' w2 hown' hgrow hat
  obtain ⟨d1, f1, r1, r2, r3⟩ := wrote hBb HK.out HO.out HN.out (Ext.refl w1) (by omega) hown' hgrow hat
  obtain ⟨ao, n', cap, rfl⟩ : ∃ ao n' cap, v' = .slice ao n' cap := by
    rcases hown'.2 with ⟨hv, _⟩ | ⟨g, cap, cur, hv, _⟩
    · exact ⟨_, _, _, hv⟩
    · exact ⟨_, _, _, hv⟩
  have HX : Hid (WrotePost B b (xs ++ s) w (.tuple #[.int .i64 (s.length : Int), .nilIface]) (.returned (.tuple #[.int .i64 (s.length : Int), .nilIface])) (w2.setCell ⟨b, 1, none⟩ (.slice ao n' cap))) := Lib.hid ⟨rfl, r1, HB1.out.trans r2, HK1.out.trans r3⟩
  clear hown' hgrow hat r1 r2 r3
  go_wp2
  go_ret2
  exact HX.out

theorem bstring_any {B b : Nat} {xs : List UInt8} {w : World} (h : Bld B b xs w) (hB : B ≤ w.heap.size) :
    Calls Tryz.prog 60 #[.pointer (some ⟨b, 0, none⟩)] w fun e w' => e = .returned (.string (str xs)) ∧ Below B w w' :=
  Tryz.Builder_String_any B b xs w h hB

end Go.Proofs.YtpcgpcjleedilaaGreatDoor

open Go.RowKit Go.Shelf
namespace Go.Proofs.YtpcgpcjleedilaaGreatDoor
open Go Go.Proofs Fm

/-- The table that FormatInt reads is as the program's text lays it. -/
def Tab (w : World) : Prop := Lib.TabIs Tryz.prog w "internal/strconv.uint64pow10" .u64 Lib.pow10Tab
theorem Tab.ext {w w' : World} (h : Tab w) (hE : Ext w w') : Tab w' := by
  have hg : Tryz.prog.globalNamed "internal/strconv.uint64pow10" = some 5 := by kernel_rfl
  unfold Tab Lib.TabIs World.var? at *
  rw [hg] at h ⊢
  simp only [Option.bind_some] at h ⊢
  have hlt : 5 < w.heap.size := by
    rcases Nat.lt_or_ge 5 w.heap.size with h' | h'
    · exact h'
    · rw [Array.getElem?_eq_none h'] at h; cases h
  rw [hE.block _ hlt]
  exact h
theorem ext_grow (w : World) (os : Array Obj) : Ext w (Go.Sort.grow w os) :=
  ⟨rfl, rfl, rfl, by simp [Go.Sort.grow], fun i hi => by simp [Go.Sort.grow, Array.getElem?_append_left hi]⟩
theorem Bld.buf {B b : Nat} {xs : List UInt8} {w : World} (h : Bld B b xs w) : ∀ k, bufAt w b = some k → B ≤ k ∧ k < w.heap.size := by
  intro k hk
  unfold bufAt at hk
  rcases h with h | h
  · obtain ⟨_, v, hb, ho, _⟩ := h
    rw [hb] at hk; exact ho.lt k hk
  · obtain ⟨_, v, hb, ho, _⟩ := h
    rw [hb] at hk; exact ho.lt k hk
theorem Bld.apart {B b : Nat} {xs : List UInt8} {w : World} (h : Bld B b xs w) (o : Obj) : Apart (w.alloc o) b w.heap.size := by
  have hlt := h.lt.2
  refine ⟨by simp, by omega, fun e => ?_⟩
  rw [bufAt_ext ((Ext.refl w).alloc o) hlt] at e
  have := (h.buf _ e).2
  omega
end Go.Proofs.YtpcgpcjleedilaaGreatDoor

namespace Go.Proofs
open Go.Shelf
def Tryz.lays104_ren : Go.Shelf.Ren := ⟨fun | 104 => 78 | 211 => 92 | 207 => 114 | n => n, fun | 9 => 9 | 4 => 4 | 24 => 30 | 3 => 3 | n => n, fun | n => n⟩
theorem Tryz.lays104 : Go.Proofs.Lays.n104 Tryz.prog Tryz.lays104_ren := {
  mixed := by kernel_rfl
  f104 := Tryz.func78.trans (congrArg some (by kernel_rfl))
  f207 := Tryz.func114.trans (congrArg some (by kernel_rfl))
  f211 := Tryz.func92.trans (congrArg some (by kernel_rfl))
  t3 := Tryz.underlying3
  a3 := Tryz.isAgg3
  z3 := Tryz.sizeOf3
  v3 := Tryz.zeroValue3
  t4 := Tryz.underlying4
  a4 := Tryz.isAgg4
  z4 := Tryz.sizeOf4
  v4 := Tryz.zeroValue4
  t9 := Tryz.underlying9
  a9 := Tryz.isAgg9
  z9 := Tryz.sizeOf9
  v9 := Tryz.zeroValue9
  t24 := Tryz.underlying30
  a24 := Tryz.isAgg30
  z24 := Tryz.sizeOf30
  v24 := Tryz.zeroValue30 }
open Go.RowKit in
theorem Tryz.strings_CutSuffix (s p : ByteArray) (w : World) (hs : s.size ≤ 9223372036854775807) :
    Calls Tryz.prog 78 #[.string s, .string p] w fun e w' => e = .returned (.tuple #[.string ⟨(Lib.trimSuffix s.data.toList p.data.toList).toArray⟩, .bool (Lib.hasSuffix s.data.toList p.data.toList)]) ∧ w' = w := Any.strings_CutSuffix Tryz.lays104 s p w hs
def Tryz.lays122_ren : Go.Shelf.Ren := ⟨fun | 122 => 105 | 215 => 123 | n => n, fun | 3 => 3 | 4 => 4 | n => n, fun | n => n⟩
theorem Tryz.lays122 : Go.Proofs.Lays.n122 Tryz.prog Tryz.lays122_ren := {
  mixed := by kernel_rfl
  f122 := Tryz.func105.trans (congrArg some (by kernel_rfl))
  f215 := Tryz.func123.trans (congrArg some (by kernel_rfl))
  t3 := Tryz.underlying3
  a3 := Tryz.isAgg3
  z3 := Tryz.sizeOf3
  v3 := Tryz.zeroValue3
  t4 := Tryz.underlying4
  a4 := Tryz.isAgg4
  z4 := Tryz.sizeOf4
  v4 := Tryz.zeroValue4 }
open Go.RowKit in
theorem Tryz.cmp_Compare_int (x y : Int) (w : World) :
    Calls Tryz.prog 105 #[.int .i64 x, .int .i64 y] w fun e w' => e = .returned (.int .i64 (Lib.compareInt x y)) ∧ w' = w := Any.cmp_Compare_int Tryz.lays122 x y w
def Tryz.laysM171_ren : Go.Shelf.Ren := ⟨fun | 171 => 59 | 243 => 83 | 246 => 101 | 283 => 118 | 284 => 119 | 285 => 120 | 286 => 121 | 129 => 134 | 317 => 133 | 318 => 135 | 319 => 136 | 320 => 137 | 337 => 144 | 338 => 145 | n => n, fun | 3 => 3 | 9 => 9 | 2 => 2 | 4 => 4 | 171 => 147 | 0 => 0 | 53 => 148 | 37 => 66 | 5 => 5 | 173 => 151 | 212 => 168 | 51 => 169 | 20 => 20 | 213 => 170 | 46 => 154 | 232 => 180 | 233 => 181 | n => n, fun | 17 => 5 | 18 => 6 | 19 => 7 | n => n⟩
theorem Tryz.laysM171 : Go.Proofs.LaysM.n171 Tryz.prog Tryz.laysM171_ren := {
  mixed := by kernel_rfl
  f129 := Tryz.func134.trans (congrArg some (by kernel_rfl))
  f171 := Tryz.func59.trans (congrArg some (by kernel_rfl))
  f243 := Tryz.func83.trans (congrArg some (by kernel_rfl))
  f246 := Tryz.func101.trans (congrArg some (by kernel_rfl))
  f283 := Tryz.func118.trans (congrArg some (by kernel_rfl))
  f284 := Tryz.func119.trans (congrArg some (by kernel_rfl))
  f285 := Tryz.func120.trans (congrArg some (by kernel_rfl))
  f286 := Tryz.func121.trans (congrArg some (by kernel_rfl))
  f317 := Tryz.func133.trans (congrArg some (by kernel_rfl))
  f318 := Tryz.func135.trans (congrArg some (by kernel_rfl))
  f319 := Tryz.func136.trans (congrArg some (by kernel_rfl))
  f320 := Tryz.func137.trans (congrArg some (by kernel_rfl))
  f337 := Tryz.func144.trans (congrArg some (by kernel_rfl))
  f338 := Tryz.func145.trans (congrArg some (by kernel_rfl))
  t0 := Tryz.underlying0
  a0 := Tryz.isAgg0
  z0 := Tryz.sizeOf0
  v0 := Tryz.zeroValue0
  t2 := Tryz.underlying2
  a2 := Tryz.isAgg2
  z2 := Tryz.sizeOf2
  v2 := Tryz.zeroValue2
  t3 := Tryz.underlying3
  a3 := Tryz.isAgg3
  z3 := Tryz.sizeOf3
  v3 := Tryz.zeroValue3
  t4 := Tryz.underlying4
  a4 := Tryz.isAgg4
  z4 := Tryz.sizeOf4
  v4 := Tryz.zeroValue4
  t5 := Tryz.underlying5
  a5 := Tryz.isAgg5
  z5 := Tryz.sizeOf5
  v5 := Tryz.zeroValue5
  t9 := Tryz.underlying9
  a9 := Tryz.isAgg9
  z9 := Tryz.sizeOf9
  v9 := Tryz.zeroValue9
  t20 := Tryz.underlying20
  a20 := Tryz.isAgg20
  z20 := Tryz.sizeOf20
  v20 := Tryz.zeroValue20
  t37 := Tryz.underlying66
  a37 := Tryz.isAgg66
  z37 := Tryz.sizeOf66
  v37 := Tryz.zeroValue66
  t46 := Tryz.underlying154
  a46 := Tryz.isAgg154
  z46 := Tryz.sizeOf154
  v46 := Tryz.zeroValue154
  t51 := Tryz.underlying169
  a51 := Tryz.isAgg169
  z51 := Tryz.sizeOf169
  v51 := Tryz.zeroValue169
  t53 := Tryz.underlying148
  a53 := Tryz.isAgg148
  z53 := Tryz.sizeOf148
  v53 := Tryz.zeroValue148
  t171 := Tryz.underlying147
  a171 := Tryz.isAgg147
  z171 := Tryz.sizeOf147
  v171 := Tryz.zeroValue147
  t173 := Tryz.underlying151
  a173 := Tryz.isAgg151
  z173 := Tryz.sizeOf151
  v173 := Tryz.zeroValue151
  t212 := Tryz.underlying168
  a212 := Tryz.isAgg168
  z212 := Tryz.sizeOf168
  v212 := Tryz.zeroValue168
  t213 := Tryz.underlying170
  a213 := Tryz.isAgg170
  z213 := Tryz.sizeOf170
  t232 := Tryz.underlying180
  a232 := Tryz.isAgg180
  z232 := Tryz.sizeOf180
  v232 := Tryz.zeroValue180
  t233 := Tryz.underlying181
  a233 := Tryz.isAgg181
  z233 := Tryz.sizeOf181
  v233 := Tryz.zeroValue181
  g17 := by kernel_rfl
  g18 := by kernel_rfl
  g19 := by kernel_rfl
  i0 := by kernel_rfl
  i2 := by kernel_rfl
  i3 := by kernel_rfl
  i4 := by kernel_rfl
  i5 := by kernel_rfl
  i9 := by kernel_rfl
  i20 := by kernel_rfl
  i37 := by kernel_rfl
  i46 := by kernel_rfl
  i51 := by kernel_rfl
  i53 := by kernel_rfl
  i171 := by kernel_rfl
  i173 := by kernel_rfl
  i212 := by kernel_rfl
  i232 := by kernel_rfl
  i233 := by kernel_rfl
  m17 := by kernel_rfl
  m18 := by kernel_rfl
  m19 := by kernel_rfl }
open Go.RowKit Go.Sort Go.Lib in
theorem Tryz.strconv_Itoa (n : Int) (h0 : -9223372036854775808 ≤ n) (h1 : n ≤ 9223372036854775807) (w : World) (htab : Lib.TabIs Tryz.prog w "internal/strconv.uint64pow10" .u64 Lib.pow10Tab) :
    Calls Tryz.prog 59 #[.int .i64 n] w fun e w' => e = .returned (.string ⟨(Lib.itoa n).toArray⟩) ∧ ∃ k os, w' = grow (w.drewN k) os := Any.strconv_Itoa Tryz.laysM171 n h0 h1 w htab
def Tryz.laysC172_ren : Go.Shelf.Ren := ⟨fun | 172 => 76 | 244 => 89 | 245 => 90 | 247 => 109 | 279 => 110 | 280 => 111 | 281 => 112 | 282 => 113 | 287 => 128 | 316 => 129 | 171 => 59 | 205 => 130 | 321 => 140 | 322 => 141 | 243 => 83 | 246 => 101 | 283 => 118 | 284 => 119 | 285 => 120 | 286 => 121 | 129 => 134 | 317 => 133 | 318 => 135 | 319 => 136 | 320 => 137 | 337 => 144 | 338 => 145 | n => n, fun | 9 => 9 | 3 => 3 | 75 => 92 | 76 => 93 | 4 => 4 | 5 => 5 | 167 => 139 | 37 => 66 | 0 => 0 | 85 => 140 | 2 => 2 | 168 => 142 | 53 => 148 | 175 => 160 | 46 => 154 | 210 => 164 | 127 => 118 | 145 => 177 | 143 => 175 | 21 => 21 | 171 => 147 | 173 => 151 | 212 => 168 | 51 => 169 | 20 => 20 | 213 => 170 | 232 => 180 | 233 => 181 | 80 => 96 | n => n, fun | 15 => 3 | 16 => 4 | 17 => 5 | 18 => 6 | 19 => 7 | n => n⟩
theorem Tryz.laysC172 : Go.Proofs.LaysC.n172 Tryz.prog Tryz.laysC172_ren := {
  mixed := by kernel_rfl
  f129 := Tryz.func134.trans (congrArg some (by kernel_rfl))
  f171 := Tryz.func59.trans (congrArg some (by kernel_rfl))
  f172 := Tryz.func76.trans (congrArg some (by kernel_rfl))
  f205 := Tryz.func130.trans (congrArg some (by kernel_rfl))
  f243 := Tryz.func83.trans (congrArg some (by kernel_rfl))
  f244 := Tryz.func89.trans (congrArg some (by kernel_rfl))
  f245 := Tryz.func90.trans (congrArg some (by kernel_rfl))
  f246 := Tryz.func101.trans (congrArg some (by kernel_rfl))
  f247 := Tryz.func109.trans (congrArg some (by kernel_rfl))
  f279 := Tryz.func110.trans (congrArg some (by kernel_rfl))
  f280 := Tryz.func111.trans (congrArg some (by kernel_rfl))
  f281 := Tryz.func112.trans (congrArg some (by kernel_rfl))
  f282 := Tryz.func113.trans (congrArg some (by kernel_rfl))
  f283 := Tryz.func118.trans (congrArg some (by kernel_rfl))
  f284 := Tryz.func119.trans (congrArg some (by kernel_rfl))
  f285 := Tryz.func120.trans (congrArg some (by kernel_rfl))
  f286 := Tryz.func121.trans (congrArg some (by kernel_rfl))
  f287 := Tryz.func128.trans (congrArg some (by kernel_rfl))
  f316 := Tryz.func129.trans (congrArg some (by kernel_rfl))
  f317 := Tryz.func133.trans (congrArg some (by kernel_rfl))
  f318 := Tryz.func135.trans (congrArg some (by kernel_rfl))
  f319 := Tryz.func136.trans (congrArg some (by kernel_rfl))
  f320 := Tryz.func137.trans (congrArg some (by kernel_rfl))
  f321 := Tryz.func140.trans (congrArg some (by kernel_rfl))
  f322 := Tryz.func141.trans (congrArg some (by kernel_rfl))
  f337 := Tryz.func144.trans (congrArg some (by kernel_rfl))
  f338 := Tryz.func145.trans (congrArg some (by kernel_rfl))
  t0 := Tryz.underlying0
  a0 := Tryz.isAgg0
  z0 := Tryz.sizeOf0
  v0 := Tryz.zeroValue0
  t2 := Tryz.underlying2
  a2 := Tryz.isAgg2
  z2 := Tryz.sizeOf2
  v2 := Tryz.zeroValue2
  t3 := Tryz.underlying3
  a3 := Tryz.isAgg3
  z3 := Tryz.sizeOf3
  v3 := Tryz.zeroValue3
  t4 := Tryz.underlying4
  a4 := Tryz.isAgg4
  z4 := Tryz.sizeOf4
  v4 := Tryz.zeroValue4
  t5 := Tryz.underlying5
  a5 := Tryz.isAgg5
  z5 := Tryz.sizeOf5
  v5 := Tryz.zeroValue5
  t9 := Tryz.underlying9
  a9 := Tryz.isAgg9
  z9 := Tryz.sizeOf9
  v9 := Tryz.zeroValue9
  t20 := Tryz.underlying20
  a20 := Tryz.isAgg20
  z20 := Tryz.sizeOf20
  v20 := Tryz.zeroValue20
  t21 := Tryz.underlying21
  a21 := Tryz.isAgg21
  z21 := Tryz.sizeOf21
  v21 := Tryz.zeroValue21
  t37 := Tryz.underlying66
  a37 := Tryz.isAgg66
  z37 := Tryz.sizeOf66
  v37 := Tryz.zeroValue66
  t46 := Tryz.underlying154
  a46 := Tryz.isAgg154
  z46 := Tryz.sizeOf154
  v46 := Tryz.zeroValue154
  t51 := Tryz.underlying169
  a51 := Tryz.isAgg169
  z51 := Tryz.sizeOf169
  v51 := Tryz.zeroValue169
  t53 := Tryz.underlying148
  a53 := Tryz.isAgg148
  z53 := Tryz.sizeOf148
  v53 := Tryz.zeroValue148
  t75 := Tryz.underlying92
  a75 := Tryz.isAgg92
  z75 := Tryz.sizeOf92
  v75 := Tryz.zeroValue92
  t76 := Tryz.underlying93
  a76 := Tryz.isAgg93
  z76 := Tryz.sizeOf93
  v76 := Tryz.zeroValue93
  t85 := Tryz.underlying140
  a85 := Tryz.isAgg140
  z85 := Tryz.sizeOf140
  v85 := Tryz.zeroValue140
  t127 := Tryz.underlying118
  a127 := Tryz.isAgg118
  z127 := Tryz.sizeOf118
  v127 := Tryz.zeroValue118
  t143 := Tryz.underlying175
  a143 := Tryz.isAgg175
  z143 := Tryz.sizeOf175
  v143 := Tryz.zeroValue175
  t145 := Tryz.underlying177
  a145 := Tryz.isAgg177
  z145 := Tryz.sizeOf177
  v145 := Tryz.zeroValue177
  t167 := Tryz.underlying139
  a167 := Tryz.isAgg139
  z167 := Tryz.sizeOf139
  v167 := Tryz.zeroValue139
  t168 := Tryz.underlying142
  a168 := Tryz.isAgg142
  z168 := Tryz.sizeOf142
  v168 := Tryz.zeroValue142
  t171 := Tryz.underlying147
  a171 := Tryz.isAgg147
  z171 := Tryz.sizeOf147
  v171 := Tryz.zeroValue147
  t173 := Tryz.underlying151
  a173 := Tryz.isAgg151
  z173 := Tryz.sizeOf151
  v173 := Tryz.zeroValue151
  t175 := Tryz.underlying160
  a175 := Tryz.isAgg160
  z175 := Tryz.sizeOf160
  v175 := Tryz.zeroValue160
  t210 := Tryz.underlying164
  a210 := Tryz.isAgg164
  z210 := Tryz.sizeOf164
  v210 := Tryz.zeroValue164
  t212 := Tryz.underlying168
  a212 := Tryz.isAgg168
  z212 := Tryz.sizeOf168
  v212 := Tryz.zeroValue168
  t213 := Tryz.underlying170
  a213 := Tryz.isAgg170
  z213 := Tryz.sizeOf170
  t232 := Tryz.underlying180
  a232 := Tryz.isAgg180
  z232 := Tryz.sizeOf180
  v232 := Tryz.zeroValue180
  t233 := Tryz.underlying181
  a233 := Tryz.isAgg181
  z233 := Tryz.sizeOf181
  v233 := Tryz.zeroValue181
  g15 := by kernel_rfl
  g16 := by kernel_rfl
  g17 := by kernel_rfl
  g18 := by kernel_rfl
  g19 := by kernel_rfl
  t80 := Tryz.underlying96
  a80 := Tryz.isAgg96
  z80 := Tryz.sizeOf96
  v80 := Tryz.zeroValue96
  i0 := by kernel_rfl
  i2 := by kernel_rfl
  i3 := by kernel_rfl
  i4 := by kernel_rfl
  i5 := by kernel_rfl
  i9 := by kernel_rfl
  i20 := by kernel_rfl
  i21 := by kernel_rfl
  i37 := by kernel_rfl
  i46 := by kernel_rfl
  i51 := by kernel_rfl
  i53 := by kernel_rfl
  i75 := by kernel_rfl
  i76 := by kernel_rfl
  i80 := by kernel_rfl
  i85 := by kernel_rfl
  i127 := by kernel_rfl
  i143 := by kernel_rfl
  i145 := by kernel_rfl
  i167 := by kernel_rfl
  i168 := by kernel_rfl
  i171 := by kernel_rfl
  i173 := by kernel_rfl
  i175 := by kernel_rfl
  i210 := by kernel_rfl
  i212 := by kernel_rfl
  i232 := by kernel_rfl
  i233 := by kernel_rfl
  m15 := by kernel_rfl
  m16 := by kernel_rfl
  m17 := by kernel_rfl
  m18 := by kernel_rfl
  m19 := by kernel_rfl
  c0 := by kernel_rfl
  c2 := by kernel_rfl
  c3 := by kernel_rfl
  c4 := by kernel_rfl
  c5 := by kernel_rfl
  c9 := by kernel_rfl
  c20 := by kernel_rfl
  c21 := by kernel_rfl
  c37 := by kernel_rfl
  c46 := by kernel_rfl
  c51 := by kernel_rfl
  c53 := by kernel_rfl
  c75 := by kernel_rfl
  c76 := by kernel_rfl
  c80 := by kernel_rfl
  c85 := by kernel_rfl
  c127 := by kernel_rfl
  c143 := by kernel_rfl
  c145 := by kernel_rfl
  c167 := by kernel_rfl
  c168 := by kernel_rfl
  c171 := by kernel_rfl
  c173 := by kernel_rfl
  c175 := by kernel_rfl
  c210 := by kernel_rfl
  c212 := by kernel_rfl
  c213 := by kernel_rfl
  c232 := by kernel_rfl
  c233 := by kernel_rfl }
open Go.RowKit in
theorem Tryz.strconv_Atoi_ok (s : ByteArray) (hmax : s.size ≤ 9223372036854775806) (v : Int) (h : Lib.atoiAll s.data.toList = .ok v) (w : World) :
    Calls Tryz.prog 76 #[.string s] w fun e w' => e = .returned (.tuple #[.int .i64 v, .nilIface]) ∧ (w' = w ∨ ∃ t, w' = Lib.bytesWorld w 5 t) := Any.strconv_Atoi_ok Tryz.laysC172 s hmax v h w
open Go.RowKit in
theorem Tryz.strconv_Atoi_syntax (s : ByteArray) (hlim : s.size ≤ 281474976710656) (h1 : ∀ v, Lib.atoiAll s.data.toList ≠ .ok v) (h2 : Lib.atoiAll s.data.toList ≠ .range) (ev : Value) (w : World) (hv : w.cell? ⟨3, 0, none⟩ = some ev) (hev : ev = .nilIface ∨ ∃ te pe, ev = .iface te pe) :
    Calls Tryz.prog 76 #[.string s] w fun e w' => ∃ N, e = .returned (.tuple #[.int .i64 (0), .iface 142 (.pointer (some ⟨N, 0, none⟩))]) ∧ w.heap.size ≤ N ∧ w'.heap[N]? = some (.cells #[.string ⟨#[65, 116, 111, 105]⟩, .string s, ev] 164 (0, 0)) ∧ Below w.heap.size w w' := Any.strconv_Atoi_syntax Tryz.laysC172 s hlim (by cases e : Lib.atoiAll s.data.toList <;> first | rfl | exact absurd e (h1 _) | exact absurd e h2) ev w hv hev
open Go.RowKit in
theorem Tryz.strconv_Atoi_range (s : ByteArray) (hlim : s.size ≤ 281474976710656) (h : Lib.atoiAll s.data.toList = .range) (ev : Value) (w : World) (hv : w.cell? ⟨4, 0, none⟩ = some ev) (hev : ev = .nilIface ∨ ∃ te pe, ev = .iface te pe) :
    Calls Tryz.prog 76 #[.string s] w fun e w' => ∃ N, e = .returned (.tuple #[.int .i64 (Lib.atoiSat s.data.toList), .iface 142 (.pointer (some ⟨N, 0, none⟩))]) ∧ w.heap.size ≤ N ∧ w'.heap[N]? = some (.cells #[.string ⟨#[65, 116, 111, 105]⟩, .string s, ev] 164 (0, 0)) ∧ Below w.heap.size w w' := Any.strconv_Atoi_range Tryz.laysC172 s hlim h ev w hv hev
def Tryz.lays143_ren : Go.Shelf.Ren := ⟨fun | 143 => 88 | 219 => 108 | 217 => 124 | 225 => 125 | 224 => 126 | 267 => 127 | 266 => 138 | 314 => 139 | n => n, fun | 9 => 9 | 3 => 3 | 4 => 4 | 5 => 5 | 46 => 154 | 146 => 172 | 51 => 169 | n => n, fun | 1 => 2 | n => n⟩
theorem Tryz.lays143 : Go.Proofs.Lays.n143 Tryz.prog Tryz.lays143_ren := {
  mixed := by kernel_rfl
  f143 := Tryz.func88.trans (congrArg some (by kernel_rfl))
  f217 := Tryz.func124.trans (congrArg some (by kernel_rfl))
  f219 := Tryz.func108.trans (congrArg some (by kernel_rfl))
  f224 := Tryz.func126.trans (congrArg some (by kernel_rfl))
  f225 := Tryz.func125.trans (congrArg some (by kernel_rfl))
  f266 := Tryz.func138.trans (congrArg some (by kernel_rfl))
  f267 := Tryz.func127.trans (congrArg some (by kernel_rfl))
  f314 := Tryz.func139.trans (congrArg some (by kernel_rfl))
  t3 := Tryz.underlying3
  a3 := Tryz.isAgg3
  z3 := Tryz.sizeOf3
  v3 := Tryz.zeroValue3
  t4 := Tryz.underlying4
  a4 := Tryz.isAgg4
  z4 := Tryz.sizeOf4
  v4 := Tryz.zeroValue4
  t5 := Tryz.underlying5
  a5 := Tryz.isAgg5
  z5 := Tryz.sizeOf5
  v5 := Tryz.zeroValue5
  t9 := Tryz.underlying9
  a9 := Tryz.isAgg9
  z9 := Tryz.sizeOf9
  v9 := Tryz.zeroValue9
  t46 := Tryz.underlying154
  a46 := Tryz.isAgg154
  z46 := Tryz.sizeOf154
  v46 := Tryz.zeroValue154
  t51 := Tryz.underlying169
  a51 := Tryz.isAgg169
  z51 := Tryz.sizeOf169
  v51 := Tryz.zeroValue169
  t146 := Tryz.underlying172
  a146 := Tryz.isAgg172
  z146 := Tryz.sizeOf172
  v146 := Tryz.zeroValue172
  g1 := by kernel_rfl }
open Go.RowKit Go.Lib in
theorem Tryz.strings_Index_one (s : ByteArray) (c : UInt8) (w : World) :
    Calls Tryz.prog 88 #[.string s, .string ⟨#[c]⟩] w fun e w' => e = .returned (.int .i64 (Lib.indexByte s.data.toList c)) ∧ w' = w := Any.strings_Index_one Tryz.lays143 s c w

def Tryz.lays219_ren : Go.Shelf.Ren := ⟨fun | 219 => 108 | 217 => 124 | 225 => 125 | 224 => 126 | 267 => 127 | 266 => 138 | 314 => 139 | n => n, fun | 9 => 9 | 3 => 3 | 4 => 4 | 5 => 5 | 46 => 154 | 146 => 172 | 51 => 169 | n => n, fun | 1 => 2 | n => n⟩
theorem Tryz.lays219 : Go.Proofs.Lays.n219 Tryz.prog Tryz.lays219_ren := {
  mixed := by kernel_rfl
  f217 := Tryz.func124.trans (congrArg some (by kernel_rfl))
  f219 := Tryz.func108.trans (congrArg some (by kernel_rfl))
  f224 := Tryz.func126.trans (congrArg some (by kernel_rfl))
  f225 := Tryz.func125.trans (congrArg some (by kernel_rfl))
  f266 := Tryz.func138.trans (congrArg some (by kernel_rfl))
  f267 := Tryz.func127.trans (congrArg some (by kernel_rfl))
  f314 := Tryz.func139.trans (congrArg some (by kernel_rfl))
  t3 := Tryz.underlying3
  a3 := Tryz.isAgg3
  z3 := Tryz.sizeOf3
  v3 := Tryz.zeroValue3
  t4 := Tryz.underlying4
  a4 := Tryz.isAgg4
  z4 := Tryz.sizeOf4
  v4 := Tryz.zeroValue4
  t5 := Tryz.underlying5
  a5 := Tryz.isAgg5
  z5 := Tryz.sizeOf5
  v5 := Tryz.zeroValue5
  t9 := Tryz.underlying9
  a9 := Tryz.isAgg9
  z9 := Tryz.sizeOf9
  v9 := Tryz.zeroValue9
  t46 := Tryz.underlying154
  a46 := Tryz.isAgg154
  z46 := Tryz.sizeOf154
  v46 := Tryz.zeroValue154
  t51 := Tryz.underlying169
  a51 := Tryz.isAgg169
  z51 := Tryz.sizeOf169
  v51 := Tryz.zeroValue169
  t146 := Tryz.underlying172
  a146 := Tryz.isAgg172
  z146 := Tryz.sizeOf172
  v146 := Tryz.zeroValue172
  g1 := by kernel_rfl }
open Go.RowKit Go.Lib in
theorem Tryz.stringslite_Index_one (s : ByteArray) (c : UInt8) (w : World) :
    Calls Tryz.prog 108 #[.string s, .string ⟨#[c]⟩] w fun e w' => e = .returned (.int .i64 (Lib.indexByte s.data.toList c)) ∧ w' = w := Any.stringslite_Index_one Tryz.lays219 s c w

end Go.Proofs

open Go.RowKit Go.Shelf
namespace Go.Proofs.YtpcgpcjleedilaaGreatDoor
open Go Go.Proofs Fm

/-- A variable that holds an error, or none. -/
def ErrAt (w : World) (g : Nat) : Prop := ∃ ev, w.cell? ⟨g, 0, none⟩ = some ev ∧ (ev = .nilIface ∨ ∃ te pe, ev = .iface te pe)
theorem cell_lt {w : World} {a : Addr} {v : Value} (h : w.cell? a = some v) : a.block < w.heap.size := by
  obtain ⟨o, ho, _⟩ := cells_of_cell h
  exact (Array.getElem?_eq_some_iff.1 ho).1
theorem ErrAt.ext {w w' : World} {g : Nat} (h : ErrAt w g) (hE : Ext w w') : ErrAt w' g := by
  obtain ⟨ev, h1, h2⟩ := h
  exact ⟨ev, (hE.cell (p := ⟨g, 0, none⟩) (cell_lt h1)).trans h1, h2⟩
/-- What package ident reads of the world that is not its own. -/
structure KW (w : World) : Prop where
  tab : Tab w
  sx : ErrAt w 3
  rg : ErrAt w 4
theorem KW.ext {w w' : World} (h : KW w) (hE : Ext w w') : KW w' := ⟨h.tab.ext hE, h.sx.ext hE, h.rg.ext hE⟩
theorem itoa_any {n : Int} (h : isI64 n) {w : World} (ht : KW w) :
    Calls Tryz.prog 59 #[.int .i64 n] w fun e w' => e = .returned (.string (str (Lib.itoa n))) ∧ Ext w w' :=
  (Tryz.strconv_Itoa n h.1 h.2 w ht.tab).mono fun e w' ⟨h1, k, os, h2⟩ => ⟨h1, by rw [h2]; exact ((Ext.refl w).drewN k).trans (ext_grow _ os)⟩
theorem ext_bytesW (w : World) (e : TypeId) (s : ByteArray) : Ext w (Lib.bytesWorld w e s) :=
  ⟨rfl, rfl, rfl, by rw [Lib.bytesWorld_size]; omega, fun j hj => Lib.bytesWorld_at_old w _ _ j hj⟩
theorem i64_may {v : Int} (h : mayB v = true) : isI64 v := by
  have := mayB_iff.1 h
  unfold isI64; omega
/-- What number hands back. -/
def numV (s : List UInt8) : Int := (numI s).getD (-1)
theorem numV_none {s : List UInt8} (h : numI s = none) : numV s = -1 := by unfold numV; rw [h]; rfl
theorem numV_some {s : List UInt8} {n : Int} (h : numI s = some n) : numV s = n := by unfold numV; rw [h]; rfl
theorem numV_eq {s : List UInt8} : numV s = -1 ↔ numI s = none := by
  constructor
  · intro h
    cases e : numI s with
    | none => rfl
    | some n => rw [numV_some e] at h; have := (numI_iff.1 e).1; omega
  · exact numV_none
theorem numV_isI64 (s : List UInt8) : isI64 (numV s) := by
  cases e : numI s with
  | none => rw [numV_none e]; unfold isI64; omega
  | some n => rw [numV_some e]; have := (numI_iff.1 e).1; unfold isI64; omega
set_option maxHeartbeats 1000000 in
theorem idNumber_any (s : List UInt8) (hs : s.length ≤ 1000000) (w : World) (hw : KW w) :
    Calls Tryz.prog 49 #[.string (str s)] w fun e w' => e = .returned (.int .i64 (numV s)) ∧ Ext w w' := by
  have hsz := str_size s
  have hl := str_list s
  cases ha : Lib.atoiAll s with
  | range =>
    have HY := Lib.hid (show numV s = -1 from numV_none (by unfold numI; rw [ha]))
    obtain ⟨ev, h1, h2⟩ := hw.rg
    have HC := Lib.hid (Tryz.strconv_Atoi_range (str s) (by rw [hsz]; omega) (by rw [hl]; exact ha) ev w h1 h2)
    clear hw ha h1 h2 hl
    generalize Lib.atoiSat (str s).data.toList = m at HC
    go_enter Tryz.func49, Tryz.ntmps49
    go_wp2_with fail
    refine HC.out.mono ?_
    rintro e w1 ⟨N, rfl, -, -, hb⟩
    have HE := Lib.hid (show Ext w w1 from hb)
    clear hb HC
    go_wp2
    go_ret
    exact ⟨by rw [HY.out]; rfl, HE.out⟩
  | ok v =>
    have HX := Lib.hid (show numI s = if mayB v = true ∧ Lib.itoa v = s then some v else none by unfold numI; rw [ha])
    have HC := Lib.hid (Tryz.strconv_Atoi_ok (str s) (by rw [hsz]; omega) v (by rw [hl]; exact ha) w)
    have HW := Lib.hid hw
    clear hw ha hl
    go_enter Tryz.func49, Tryz.ntmps49
    go_wp2_with fail
    refine HC.out.mono ?_
    rintro e w1 ⟨rfl, hb⟩
    have hE : Ext w w1 := by
      rcases hb with rfl | ⟨t, rfl⟩
      · exact Ext.refl _
      · exact ext_bytesW _ _ _
    have HE := Lib.hid hE
    clear hb HC hE
    go_wp2_with fail
    refine (idMay_any v w1).mono ?_
    rintro e w2 ⟨rfl, rfl⟩
    cases hm : mayB v with
    | false =>
      have HY := Lib.hid (show numV s = -1 from numV_none (by rw [HX.out, hm]; simp))
      clear hm
      go_wp2
      go_ret
      exact ⟨by rw [HY.out]; rfl, HE.out⟩
    | true =>
      have hv := Lib.hid (i64_may hm)
      have HW1 := Lib.hid (HW.out.ext HE.out)
      have HX := Lib.hid (show numI s = if Lib.itoa v = s then some v else none by rw [HX.out, hm]; simp)
      clear hm
      go_wp2_with fail
      refine (itoa_any hv.out HW1.out).mono ?_
      rintro e w3 ⟨rfl, hE3⟩
      have HE3 := Lib.hid (HE.out.trans hE3)
      clear hE3
      have es : ((str (Lib.itoa v)).toList == (str s).toList) = decide (Lib.itoa v = s) := str_beq _ _
      by_cases hc : Lib.itoa v = s
      · have HY := Lib.hid (show numV s = v from numV_some (by rw [HX.out, if_pos hc]))
        have f0 : ((str (Lib.itoa v)).toList == (str s).toList) = true := by rw [es]; simpa using hc
        clear es hc
        go_wp2
        go_ret
        exact ⟨by rw [HY.out]; rfl, HE3.out⟩
      · have HY := Lib.hid (show numV s = -1 from numV_none (by rw [HX.out, if_neg hc]))
        have f0 : ((str (Lib.itoa v)).toList == (str s).toList) = false := by rw [es]; simpa using hc
        clear es hc
        go_wp2
        go_ret
        exact ⟨by rw [HY.out]; rfl, HE3.out⟩
  | _ =>
    have HY := Lib.hid (show numV s = -1 from numV_none (by unfold numI; rw [ha]))
    obtain ⟨ev, h1, h2⟩ := hw.sx
    have HC := Lib.hid (Tryz.strconv_Atoi_syntax (str s) (by rw [hsz]; omega) (by rw [hl, ha]; intro v h; cases h) (by rw [hl, ha]; intro h; cases h) ev w h1 h2)
    clear hw ha h1 h2 hl
    go_enter Tryz.func49, Tryz.ntmps49
    go_wp2_with fail
    refine HC.out.mono ?_
    rintro e w1 ⟨N, rfl, -, -, hb⟩
    have HE := Lib.hid (show Ext w w1 from hb)
    clear hb HC
    go_wp2
    go_ret
    exact ⟨by rw [HY.out]; rfl, HE.out⟩
theorem extract_strI (s : List UInt8) (a b : Nat) : (str s).extract a b = str ((s.take b).drop a) := by
  unfold str
  rw [ByteArray.extract_mk]
  congr 1
  apply Array.toList_inj.1
  simp [List.drop_take]
/-- The index of a byte. -/
theorem idxByte_at (a r : List UInt8) (c : UInt8) (h : ∀ d, d ∈ a → d ≠ c) : Lib.indexByte (a ++ c :: r) c = (a.length : Int) := by rw [← Lib.index_one]; exact Fm.index_one a r c h
theorem idxByte_no (a : List UInt8) (c : UInt8) (h : ∀ d, d ∈ a → d ≠ c) : Lib.indexByte a c = -1 := by rw [← Lib.index_one]; exact index_none a c h
set_option maxHeartbeats 1000000 in
theorem slCut_at (a r : List UInt8) (c : UInt8) (h : ∀ d, d ∈ a → d ≠ c) (hl : (a ++ c :: r).length ≤ 1000000) (w : World) :
    Calls Tryz.prog 91 #[.string (str (a ++ c :: r)), .string (str [c])] w fun e w' => e = .returned (.tuple #[.string (str a), .string (str r), .bool true]) ∧ Ext w w' := by
  have hI := Lib.hid (Tryz.stringslite_Index_one (str (a ++ c :: r)) c w)
  have hsz := str_size (a ++ c :: r)
  have hsc : (str [c]).size = 1 := str_size [c]
  have hi := idxByte_at a r c h
  rw [str_list] at hI
  rw [hi] at hI
  have e1 : (str (a ++ c :: r)).extract 0 a.length = str a := by rw [extract_strI, List.drop_zero, List.take_left' rfl]
  have e2 : (str (a ++ c :: r)).extract (a.length + 1) (str (a ++ c :: r)).size = str r := by rw [hsz, extract_strI, List.take_length, show a ++ c :: r = (a ++ [c]) ++ r by simp]; exact congrArg str (List.drop_left' (by simp))
  have hal : a.length + 1 ≤ (a ++ c :: r).length := by simp
  have E1 := Lib.hid e1
  have E2 := Lib.hid e2
  clear hi h e1 e2
  rw [hsz] at E2
  generalize (a ++ c :: r).length = N at *
  generalize str (a ++ c :: r) = S at *
  go_enter Tryz.func91, Tryz.ntmps91
  go_wp2_with fail
  refine hI.out.mono ?_
  rintro e w1 ⟨rfl, rfl⟩
  have hw : IntKind.i64.wrap ((a.length : Int) + 1) = (a.length : Int) + 1 := IntWalk.i64_in _ (by omega)
  have h0 : (0 : Int) ≤ (a.length : Int) + 1 := by omega
  have ht : ((a.length : Int) + 1).toNat = a.length + 1 := by omega
  go_wp2_with fail
  go_quiet (fail)
  go_wp2
  go_ret3
  exact ⟨by rw [← E1.out, ← E2.out]; rfl, (Ext.refl _).drewN nq⟩
set_option maxHeartbeats 1000000 in
theorem slCut_no (a : List UInt8) (c : UInt8) (h : ∀ d, d ∈ a → d ≠ c) (w : World) :
    Calls Tryz.prog 91 #[.string (str a), .string (str [c])] w fun e w' => e = .returned (.tuple #[.string (str a), .string (str []), .bool false]) ∧ Ext w w' := by
  have hI := Lib.hid (Tryz.stringslite_Index_one (str a) c w)
  have hi := idxByte_no a c h
  rw [str_list] at hI
  rw [hi] at hI
  clear hi h
  go_enter Tryz.func91, Tryz.ntmps91
  go_wp2_with fail
  refine hI.out.mono ?_
  rintro e w1 ⟨rfl, rfl⟩
  go_wp2
  go_ret3
  exact ⟨rfl, Ext.refl _⟩
/-- strings.Cut at one byte. -/
def CutPost (s : List UInt8) (c : UInt8) (w : World) (e : Ending) (w' : World) : Prop := e = .returned (.tuple #[.string (str (Lib.cut s [c]).1), .string (str (Lib.cut s [c]).2.1), .bool (Lib.cut s [c]).2.2]) ∧ Ext w w'
theorem slCut_any (s : List UInt8) (c : UInt8) (hs : s.length ≤ 1000000) (w : World) :
    Calls Tryz.prog 91 #[.string (str s), .string (str [c])] w (CutPost s c w) := by
  by_cases h : c ∈ s
  · obtain ⟨a, r, rfl, hk⟩ := first_of c s h
    refine (slCut_at a r c hk hs w).mono ?_
    rintro e w' ⟨h1, h2⟩
    unfold CutPost
    rw [cut_at a r c hk]
    exact ⟨h1, h2⟩
  · refine (slCut_no s c (fun d hd e => h (e ▸ hd)) w).mono ?_
    rintro e w' ⟨h1, h2⟩
    unfold CutPost
    rw [cut_no s c (fun d hd e => h (e ▸ hd))]
    exact ⟨h1, h2⟩
set_option maxHeartbeats 1000000 in
theorem cut_any (s : List UInt8) (c : UInt8) (hs : s.length ≤ 1000000) (w : World) :
    Calls Tryz.prog 77 #[.string (str s), .string (str [c])] w (CutPost s c w) := by
  have HC := Lib.hid (slCut_any s c hs w)
  go_enter Tryz.func77, Tryz.ntmps77
  go_wp2_with fail
  refine HC.out.mono ?_
  rintro e w1 ⟨rfl, hE⟩
  have HE := Lib.hid hE
  clear hE
  go_wp2
  go_ret3
  exact ⟨rfl, HE.out⟩
end Go.Proofs.YtpcgpcjleedilaaGreatDoor

namespace Fm
open Go Go.RowKit

/-- The contract of an iterator that names the steps it makes of its own (Ab), what the body must keep (Kp), and what may come next (Nx). -/
def SeqAb {α : Type} (F : Fence) (n : Nat) (P : Program) (g : Nat) (lb : Array Value) (encs : α → Array Value) (Ab Kp : World → World → Prop) (S Sp : List α → Prop) (Nx : List α → α → Prop) (w : World) : Prop :=
  ∀ (l : Nat) (J Jx : List α → World → Prop) (W : World), Below w.heap.size w W → (∀ s X Y, J s X → Ab X Y → J s Y) → (∀ s X Y, Jx s X → Ab X Y → Jx s Y) →
    (∀ pre x X, J pre X → Nx pre x → YieldAt F (n - 1) P l (encs x) X fun e Y => (e = .returned (.bool true) ∧ J (pre ++ [x]) Y ∧ Kp X Y) ∨ (e = .returned (.bool false) ∧ Jx (pre ++ [x]) Y)) →
    J [] W →
    CallsIn F n P g (#[.func (.yield l) #[] #[]] ++ lb) W fun e Y => (∃ v, e = .returned v) ∧ ((∃ xs, S xs ∧ J xs Y) ∨ (∃ pre, Sp pre ∧ Jx pre Y))

variable {F : Fence} {n : Nat} {P : Program}

/-- The loop's two blocks of book-keeping. -/
def Kept2 (B : Nat) (r : Loop) (W : World) : Prop := W.heap[B + 1]? = some (.loop r) ∧ W.heap[B]? = some (.deferred (some []))
theorem Kept2.put {B : Nat} {r : Loop} {W : World} (h : Kept2 B r W) (r' : Loop) : Kept2 B r' (W.putObj (B + 1) (.loop r')) :=
  ⟨World.putObj_heap_same (Array.getElem?_eq_some_iff.1 h.1).1, (World.putObj_heap_other (by omega)).trans h.2⟩
theorem Kept2.from {B : Nat} {r : Loop} {W W' : World} (h : Kept2 B r W) (hk : KeepsFrom B W W') : Kept2 B r W' :=
  ⟨hk.same _ _ (by omega) h.1 rfl, hk.same _ _ (Nat.le_refl _) h.2 rfl⟩

theorem wpIn_rangeFunc_ab {α : Type} {g : Operand} {ps : Array Tmp} {assign body : Code} {Q : Exit → Act → World → Prop} {a : Act} {w : World}
    (hro : F.round = none) (h1 : 1 ≤ n) {gf : Nat} {lb : Array Value} (hg : a.eval g = .func (.func gf) #[] lb) (hFg : F.fn gf) (eg : ∀ args w, (callFunc gf args).run P w = .ok (.enter gf args) w)
    {encs : α → Array Value} {Ab Kp : World → World → Prop} {S Sp : List α → Prop} {Nx : List α → α → Prop} {w0 : World} (hseq : SeqAb F (n - 1) P gf lb encs Ab Kp S Sp Nx w0)
    (hb0 : Below w0.heap.size w0 w) (hps : ∀ x, (encs x).size = ps.size)
    (hAb : ∀ X Y, Ab X Y → ∀ k o, w.heap.size ≤ k → X.heap[k]? = some o → o.isCells = false → Y.heap[k]? = some o)
    (hKt : ∀ {A B C : World}, Kp A B → Kp B C → Kp A C) (hKb : ∀ (W : World) (l : Nat) (o o' : Obj), w.heap.size ≤ l → W.heap[l]? = some o → o.isCells = false → Kp W (W.putObj l o'))
    (I : List α → World → Prop) (Ix : Code → List α → World → Prop) (hI : OwnFrom w.heap.size I) (hIx : ∀ c, OwnFrom w.heap.size (Ix c))
    (aI : ∀ s X Y, I s X → Ab X Y → I s Y) (aIx : ∀ c s X Y, Ix c s X → Ab X Y → Ix c s Y) (h0 : I [] w) (a₁ : α → Act)
    (hassign : ∀ (l : Nat) (x : α) (W : World) (K : Act → World → Prop), K (a₁ x) W →
      assign.wpIn (F.inRound l) (n - 1 - 1) P (Exit.then K (fun _ _ _ => False)) { tmps := (ps.zip (encs x)).foldl (fun t (p, v) => t.setIfInBounds p v) a.tmps, defers := [] } W)
    (hbody : ∀ (l : Nat) (pre : List α) (x : α) (W : World), I pre W → Nx pre x → body.wpIn (F.inRound l) (n - 1 - 1) P (ownPostG w.heap.size Kp I Ix (pre ++ [x]) W) (a₁ x) W)
    (hdone : ∀ (D : Nat) (xs : List α) (W : World), w.heap.size ≤ D → S xs → I xs W → W.heap[D]? = some (.deferred (some [])) → Q .normal { a with defers := { target := .collected D, args := #[] } :: a.defers } W)
    (hstop : ∀ (D : Nat) (c : Code) (pre : List α) (W : World), w.heap.size ≤ D → Sp pre → Ix c pre W → W.heap[D]? = some (.deferred (some [])) → c.wpIn F n P Q { a with defers := { target := .collected D, args := #[] } :: a.defers } W) :
    (Code.rangeFunc g ps assign body).wpIn F n P Q a w := by
  refine wpIn_rangeFunc fun fn hfn => ?_
  rw [hro]
  obtain ⟨rec, hrec⟩ : ∃ rec : LoopState → Option Code → Loop, rec = fun st pe => { state := st, pending := pe, fn, tmps := a.tmps, params := ps, assign, body, defers := w.heap.size } := ⟨_, rfl⟩
  have hK : Kept2 w.heap.size (rec .ready none) ((w.alloc (.deferred (some []))).alloc (.loop (rec .ready none))) := by
    constructor
    · have := World.alloc_heap_new (w.alloc (.deferred (some []))) (.loop (rec .ready none)); rwa [World.size_alloc] at this
    · exact (Below.heap_alloc _ _ _ (by simp)).trans (World.alloc_heap_new w _)
  have hI1 : I [] ((w.alloc (.deferred (some []))).alloc (.loop (rec .ready none))) := hI.alloc _ (hI.alloc _ h0)
  have hb1 : Below w0.heap.size w0 ((w.alloc (.deferred (some []))).alloc (.loop (rec .ready none))) :=
    hb0.trans ((((Below.refl _ w).alloc (Nat.le_refl _) _).alloc (by simp) _).mono hb0.size)
  have hrun := run_enterLoop_outer (P := P) (w := w) fn a.tmps ps assign body
  rw [show (Loop.mk LoopState.ready none fn a.tmps ps assign body w.heap.size) = rec .ready none from by rw [hrec]] at hrun
  generalize (w.alloc (.deferred (some []))).alloc (.loop (rec .ready none)) = W1 at *
  refine ⟨w.heap.size + 1, [{ target := .collected w.heap.size, args := #[] }], W1, { target := .fn (.func gf) lb, args := #[.func (.yield (w.heap.size + 1)) #[] #[]] }, W1, gf,
    #[.func (.yield (w.heap.size + 1)) #[] #[]] ++ lb, W1, hrun, ?_, ?_, ?_, fun _ => h1, ?_⟩
  · simp only [resolve, hg]
    simp [go_sem]
  · intro f' hf'; simp [Target.leads] at hf'; subst hf'; exact hFg
  · simp [invoke, go_sem, eg]
  · have kAb : ∀ {r X Y}, Kept2 w.heap.size r X → Ab X Y → Kept2 w.heap.size r Y := fun h k => ⟨hAb _ _ k _ _ (by omega) h.1 rfl, hAb _ _ k _ _ (Nat.le_refl _) h.2 rfl⟩
    refine (hseq (w.heap.size + 1) (fun pre W => I pre W ∧ Kept2 w.heap.size (rec .ready none) W) (fun pre W => ∃ c, Ix c pre W ∧ Kept2 w.heap.size (rec .done (some c)) W) W1 hb1
      (fun s X Y h k => ⟨aI s X Y h.1 k, kAb h.2 k⟩) (fun s X Y ⟨c, h, h'⟩ k => ⟨c, aIx c s X Y h k, kAb h' k⟩) ?_ ⟨hI1, hK⟩).mono ?_
    · rintro pre x W ⟨hi, hk⟩ hnx
      have hy := run_yield (P := P) (args := encs x) hk.1 (by rw [hrec]; exact hps x)
      rw [hrec] at hy
      refine ⟨fn, _, assign, body, hy, roundIn_of_wpIn hfn (hassign _ x W _ ⟨_, run_beginRound hk.1 (by rw [hrec]), ?_⟩)⟩
      have hk2 := hk.put { rec .ready none with state := .busy }
      have hw2 : Kp W _ := hKb W (w.heap.size + 1) _ (.loop { rec .ready none with state := .busy }) (by omega) hk.1 rfl
      refine wpIn_mono (hbody _ pre x _ (hI.putObj _ hi (by omega) hk.1 rfl) hnx) ?_
      have fin : ∀ (jump : Option Code) (W3 : World), KeepsFrom w.heap.size (W.putObj (w.heap.size + 1) (.loop { rec .ready none with state := .busy })) W3 →
          (Instr.endRound (w.heap.size + 1) jump).run P W3 = .ok (.bool jump.isNone) (W3.putObj (w.heap.size + 1) (.loop (rec (if jump.isNone then .ready else .done) jump))) ∧
          W3.heap[w.heap.size + 1]? = some (.loop { rec .ready none with state := .busy }) ∧
          Kept2 w.heap.size (rec (if jump.isNone then .ready else .done) jump) (W3.putObj (w.heap.size + 1) (.loop (rec (if jump.isNone then .ready else .done) jump))) := fun jump W3 hk3 => by
        have hl3 := hk2.from hk3
        have := run_endRound (P := P) jump hl3.1
        rw [hrec] at this
        refine ⟨by rw [hrec]; exact this, hl3.1, hl3.put _⟩
      rintro e a3 W3 hp
      cases e with
      | normal =>
        obtain ⟨hr, hl3, hk4⟩ := fin none W3 hp.1
        exact ⟨_, _, hr, .inl ⟨rfl, ⟨hI.putObj _ hp.2.2 (by omega) hl3 rfl, hk4⟩, hKt (hKt hw2 hp.2.1) (hKb _ _ _ _ (by omega) hl3 rfl)⟩⟩
      | ret =>
        obtain ⟨hr, hl3, hk4⟩ := fin (some .ret) W3 hp.1
        exact ⟨_, _, hr, .inr ⟨rfl, .ret, (hIx _).putObj _ hp.2 (by omega) hl3 rfl, hk4⟩⟩
      | exit id =>
        obtain ⟨hr, hl3, hk4⟩ := fin (some (.exit id)) W3 hp.1
        exact ⟨_, _, hr, .inr ⟨rfl, .exit id, (hIx _).putObj _ hp.2 (by omega) hl3 rfl, hk4⟩⟩
      | goto t =>
        obtain ⟨hr, hl3, hk4⟩ := fin (some (.goto t)) W3 hp.1
        exact ⟨_, _, hr, .inr ⟨rfl, .goto t, (hIx _).putObj _ hp.2 (by omega) hl3 rfl, hk4⟩⟩
      | panic ch => exact hp.elim
      | outgrown => exact hp.elim
    · rintro e W2 ⟨⟨v, rfl⟩, (⟨xs, hS, hi, hk⟩ | ⟨pre, hSp, c, hi, hk⟩)⟩
      · exact ⟨none, _, by have := run_endLoop (P := P) hk.1 (by rw [hrec]; simp); rw [hrec] at this; exact this, hdone _ xs _ (Nat.le_refl _) hS (hI.putObj _ hi (by omega) hk.1 rfl) ((World.putObj_heap_other (by omega)).trans hk.2)⟩
      · exact ⟨some c, _, by have := run_endLoop (P := P) hk.1 (by rw [hrec]; simp); rw [hrec] at this; exact this, hstop _ c pre _ (Nat.le_refl _) hSp ((hIx c).putObj _ hi (by omega) hk.1 rfl) ((World.putObj_heap_other (by omega)).trans hk.2)⟩
end Fm

open Go.RowKit Go.Shelf
namespace Go.Proofs.YtpcgpcjleedilaaGreatDoor
open Go Go.Proofs Fm
attribute [local go_sem] Oper.semAt_some

/-- Blocks that lie as they lay. -/
def KeepsB (bs : List Nat) (X Y : World) : Prop := ∀ b, b ∈ bs → ∀ o, X.heap[b]? = some o → Y.heap[b]? = some o
theorem KeepsB.trans {bs : List Nat} {X Y Z : World} (h : KeepsB bs X Y) (k : KeepsB bs Y Z) : KeepsB bs X Z := fun b hb o ho => k b hb o (h b hb o ho)
/-- What may come next. -/
def NextP (s : List UInt8) (pre : List (List UInt8)) (x : List UInt8) : Prop := ∃ post, split47 s = pre ++ x :: post

theorem splitSeq_any (s : List UInt8) (w : World) :
    Calls Tryz.prog 48 #[.string (str s), .string (str [47])] w fun e w' => e = .returned (.func (.func 86) #[] #[.pointer (some ⟨w.heap.size + 1, 0, none⟩), .pointer (some ⟨w.heap.size, 0, none⟩), .pointer (some ⟨w.heap.size + 2, 0, none⟩)]) ∧
      ((w.alloc (.cells #[.string (str s)] 9)).alloc (.cells #[.string (str [47])] 9)).alloc (.cells #[.int .i64 0] 3) = w' := by
  have HC : ∀ w : World, Hid (Calls Tryz.prog 75 #[.string (str s), .string (str [47]), .int .i64 0] w fun e w' => e = .returned (.func (.func 86) #[] #[.pointer (some ⟨w.heap.size + 1, 0, none⟩), .pointer (some ⟨w.heap.size, 0, none⟩), .pointer (some ⟨w.heap.size + 2, 0, none⟩)]) ∧
      ((w.alloc (.cells #[.string (str s)] 9)).alloc (.cells #[.string (str [47])] 9)).alloc (.cells #[.int .i64 0] 3) = w') := fun w => Lib.hid (by
    go_enter Tryz.func75, Tryz.ntmps75
    go_wp2
    go_ret
    exact ⟨rfl, rfl⟩)
  go_enter Tryz.func48, Tryz.ntmps48
  go_wp2_with fail
  refine (HC _).out.mono ?_
  rintro e w1 ⟨rfl, rfl⟩
  go_wp2
  go_ret
  exact ⟨rfl, rfl⟩
set_option maxHeartbeats 1000000 in
theorem splitSeq1_in (n l bS bP bV : Nat) (s0 : List UInt8) (hl : s0.length ≤ 1000000) (hne : bS ≠ bP ∧ bS ≠ bV) (J Jx : List (List UInt8) → World → Prop)
    (aJ : ∀ p X u, J p X → J p (X.setCell ⟨bS, 0, none⟩ u))
    (hY : ∀ pre x X, J pre X → NextP s0 pre x → YieldAt Fence.wide (n - 1) Tryz.prog l #[.string (str x)] X fun e Y =>
      (e = .returned (.bool true) ∧ J (pre ++ [x]) Y ∧ KeepsB [bS, bP, bV] X Y) ∨ (e = .returned (.bool false) ∧ Jx (pre ++ [x]) Y))
    (W : World) (hS : Boxed W bS 9 (.string (str s0))) (hP : Boxed W bP 9 (.string (str [47]))) (hV : Boxed W bV 3 (.int .i64 0)) (h0 : J [] W) :
    CallsIn Fence.wide n Tryz.prog 86 #[.func (.yield l) #[] #[], .pointer (some ⟨bP, 0, none⟩), .pointer (some ⟨bS, 0, none⟩), .pointer (some ⟨bV, 0, none⟩)] W fun e W' =>
      (∃ v, e = .returned v) ∧ (J (split47 s0) W' ∨ ∃ pre, Jx pre W') := by
  have hfn : ∀ f, Fence.wide.fn f := fun _ => trivial
  have hdp : Fence.wide.depth.isSome = false := rfl
  have hI : ∀ (r : List UInt8) (w : World), Calls Tryz.prog 88 #[.string (str r), .string (str [47])] w fun e w' => e = .returned (.int .i64 (Lib.indexByte r 47)) ∧ w = w' := fun r w =>
    (Tryz.strings_Index_one (str r) 47 w).mono fun e w' ⟨h1, h2⟩ => ⟨by rw [h1, str_list], h2.symm⟩
  refine callsIn_of_wp Tryz.func86 rfl trivial ?_ rfl
  simp only [Tryz.ntmps86, List.size_toArray, List.length_cons, List.length_nil, Nat.reduceAdd, Nat.reduceSub, Array.replicate_succ, Array.replicate_zero, List.push_toArray, List.append_toArray, List.nil_append, List.cons_append]
  have c1 := hP.cell
  have hI := Lib.hid hI
  have HY := Lib.hid hY
  have HJ := Lib.hid aJ
  clear hY aJ
  have hs1 : (str [47]).size = 1 := rfl
  gi_wp2
  gi_loopw [7] (fun _ wr => ∃ (pre : List (List UInt8)) (r : List UInt8), Hid (split47 s0 = pre ++ split47 r) ∧ Hid (r.length ≤ s0.length) ∧ Hid (Boxed wr bS 9 (.string (str r)) ∧ Boxed wr bP 9 (.string (str [47])) ∧ Boxed wr bV 3 (.int .i64 0)) ∧ Hid (J pre wr))
    (fun _ w => match w.cell? ⟨bS, 0, none⟩ with | some (.string b) => b.size | _ => 0)
  case atStart => exact ⟨[], s0, Lib.hid rfl, Lib.hid (Nat.le_refl _), Lib.hid ⟨hS, hP, hV⟩, Lib.hid h0⟩
  case round =>
    obtain ⟨pre, r, HR, HL, HB, HJr⟩ := hrel
    have hrl : r.length ≤ 1000000 := Nat.le_trans HL.out hl
    have c0 := HB.out.1.cell
    have c1 := HB.out.2.1.cell
    have c2 := HB.out.2.2.cell
    have f0 := HB.out.1.frozen
    clear hS hP hV h0
    have hIr := hI.out r wr
    by_cases hm : (47 : UInt8) ∈ r
    · obtain ⟨a, r', rfl, hk⟩ := first_of 47 r hm
      rw [idxByte_at a r' 47 hk] at hIr
      have hIr := Lib.hid hIr
      have hal : a.length + 1 ≤ (a ++ 47 :: r').length := by simp
      have e1 : (str (a ++ 47 :: r')).extract 0 a.length = str a := by rw [extract_strI]; simp
      have e2 : (str (a ++ 47 :: r')).extract (a.length + 1) (a ++ 47 :: r').length = str r' := by rw [extract_strI, List.take_length, show a ++ 47 :: r' = (a ++ [47]) ++ r' by simp]; exact congrArg str (List.drop_left' (by simp))
      have hsz := str_size (a ++ 47 :: r')
      have hsp : split47 (a ++ 47 :: r') = a :: split47 r' := split47_at a r' (fun c hc => hk c hc)
      have HR := Lib.hid (show split47 s0 = pre ++ a :: split47 r' by rw [HR.out, hsp])
      have HLr := Lib.hid (show r'.length ≤ s0.length by have := HL.out; simp at this; omega)
      have hlt : r'.length < (a ++ 47 :: r').length := by simp; omega
      clear hsp hk hm
      generalize (a ++ 47 :: r').length = N at *
      generalize str (a ++ 47 :: r') = S at *
      obtain ⟨fn, tmps, assign, body, hy, hR⟩ := HY.out pre a wr HJr.out ⟨_, HR.out⟩
      clear HJr
      gi_wp2_with (gi_at_call 88; refine (callsIn_wide.2 hIr.out).mono ?_; rintro e w' ⟨rfl, rfl⟩)
      refine hR.mono ?_
      rintro e W3 (⟨rfl, hJ3, hk3⟩ | ⟨rfl, hJx3⟩)
      · have HB3 : Hid (Boxed W3 bS 9 (.string S) ∧ Boxed W3 bP 9 (.string (str [47])) ∧ Boxed W3 bV 3 (.int .i64 0)) := Lib.hid ⟨hk3 _ (by simp) _ HB.out.1, hk3 _ (by simp) _ HB.out.2.1, hk3 _ (by simp) _ HB.out.2.2⟩
        have d0 := HB3.out.1.cell
        have d1 := HB3.out.2.1.cell
        have g0 := HB3.out.1.frozen
        have HJ3 := Lib.hid (HJ.out _ _ (.string (str r')) hJ3)
        have HB4 : Hid (Boxed (W3.setCell ⟨bS, 0, none⟩ (.string (str r'))) bS 9 (.string (str r')) ∧ Boxed (W3.setCell ⟨bS, 0, none⟩ (.string (str r'))) bP 9 (.string (str [47])) ∧ Boxed (W3.setCell ⟨bS, 0, none⟩ (.string (str r'))) bV 3 (.int .i64 0)) :=
          Lib.hid ⟨HB3.out.1.set _, HB3.out.2.1.other (fun e => hne.1 e.symm) _, HB3.out.2.2.other (fun e => hne.2 e.symm) _⟩
        have c0' := c0
        clear hJ3 hk3 HB3 c0 c1 c2 f0
        gi_wp2
        go_roundw
        case rel => exact ⟨pre ++ [a], r', Lib.hid (by rw [HR.out]; simp), HLr, HB4, HJ3⟩
        case measure =>
          have m1 := HB4.out.1.cell
          simp only [m1, c0']
          rw [str_size, hsz]; exact hlt
      · gi_wp2
        refine bodyPost_ret (results_none rfl _ _ _) rfl ?_
        exact ⟨⟨_, rfl⟩, .inr ⟨_, hJx3⟩⟩
    · have hIr' := hIr
      rw [idxByte_no r 47 (fun d hd e => hm (e ▸ hd))] at hIr'
      have hIr := Lib.hid hIr'
      have hsp := split47_no r (fun d hd e => hm (e ▸ hd))
      have HR := Lib.hid (show split47 s0 = pre ++ [r] by rw [HR.out, hsp])
      obtain ⟨fn, tmps, assign, body, hy, hR⟩ := HY.out pre r wr HJr.out ⟨[], HR.out⟩
      clear HJr hsp hIr' hm
      gi_wp2_with (gi_at_call 88; refine (callsIn_wide.2 hIr.out).mono ?_; rintro e w' ⟨rfl, rfl⟩)
      refine hR.mono ?_
      rintro e W3 (⟨rfl, hJ3, hk3⟩ | ⟨rfl, hJx3⟩)
      · have HJ3 := Lib.hid hJ3
        clear hJ3
        gi_wp2
        go_end0
        exact ⟨⟨_, rfl⟩, .inl (by rw [HR.out]; exact HJ3.out)⟩
      · gi_wp2
        go_end0
        exact ⟨⟨_, rfl⟩, .inr ⟨_, hJx3⟩⟩
/-- The iterator's contract. -/
theorem splitSeq1_stops (n bS bP bV : Nat) (s : List UInt8) (hl : s.length ≤ 1000000) (hne : bS ≠ bP ∧ bS ≠ bV) (w : World) (hS : Boxed w bS 9 (.string (str s))) (hP : Boxed w bP 9 (.string (str [47]))) (hV : Boxed w bV 3 (.int .i64 0)) :
    SeqAb Fence.wide n Tryz.prog 86 #[.pointer (some ⟨bP, 0, none⟩), .pointer (some ⟨bS, 0, none⟩), .pointer (some ⟨bV, 0, none⟩)] (fun x => #[.string (str x)]) (fun X Y => ∃ u, Y = X.setCell ⟨bS, 0, none⟩ u) (KeepsB [bS, bP, bV])
      (fun xs => xs = split47 s) (fun _ => True) (NextP s) w := by
  intro l J Jx W hW aJ aJx hY h0
  have hk : ∀ {b t v}, Boxed w b t v → Boxed W b t v := fun h => (hW.block _ h.lt).trans h
  refine (splitSeq1_in n l bS bP bV s hl hne J Jx (fun p X u h => aJ p X _ h ⟨u, rfl⟩) hY W (hk hS) (hk hP) (hk hV) h0).mono ?_
  rintro e W' ⟨hv, h | ⟨pre, h⟩⟩
  · exact ⟨hv, .inl ⟨_, rfl, h⟩⟩
  · exact ⟨hv, .inr ⟨pre, trivial, h⟩⟩
end Go.Proofs.YtpcgpcjleedilaaGreatDoor

open Go.RowKit Go.Shelf
namespace Go.Proofs.YtpcgpcjleedilaaGreatDoor
open Go Go.Proofs Fm

/-- A box of two cells, both written. -/
def set2W (w : World) (b : Nat) (x y : Value) : World := (w.setCell ⟨b, 0, none⟩ x).setCell ⟨b, 1, none⟩ y
theorem set2_facts {w0 w : World} {b : Nat} {c0 c1 x y : Value} (hE : Ext w0 w) (hb : BoxL w b [c0, c1]) (hw : w0.heap.size ≤ b) : Ext w0 (set2W w b x y) ∧ BoxL (set2W w b x y) b [x, y] := by
  refine ⟨(hE.setCell (p := ⟨b, 0, none⟩) hw _).setCell (p := ⟨b, 1, none⟩) hw _, ?_⟩
  have h1 := hb.set 0 (by simp) x
  have h2 := h1.set 1 (by simp) y
  exact h2
theorem set2_far {w : World} {b b' : Nat} {vs : List Value} (h : BoxL w b' vs) (hne : b' ≠ b) (x y : Value) : BoxL (set2W w b x y) b' vs :=
  (h.kept (grown_set _ b 0 _) (fun e => hne (by cases e; rfl))).kept (grown_set _ b 1 _) (fun e => hne (by cases e; rfl))
/-- What step hands back. -/
def StepPost (s : List UInt8) (w : World) (e : Ending) (w' : World) : Prop :=
  ∃ x : Stp, stpWf x ∧ e = .returned (.tuple #[.agg #[.string (str x.name), .int .i64 x.place], .bool (stepP s).isSome]) ∧ (stepP s = none ∨ stepP s = some x) ∧ Ext w w'
theorem stepZero (s : List UInt8) (w : World) {w' : World} (h : stepP s = none) (hE : Ext w w') : StepPost s w (.returned (.tuple #[.agg #[.string { data := #[] }, .int .i64 0], .bool false])) w' :=
  ⟨⟨[], 0⟩, ⟨by simp, by unfold isI64; simp⟩, by rw [h]; rfl, .inl h, hE⟩
theorem stepEnd {s nm : List UInt8} {pl : Int} {w w' : World} (h : stepP s = if nameB nm = true then some ⟨nm, pl⟩ else none) (hn : nm.length ≤ 9223372036854775807) (hp : isI64 pl) (hE : Ext w w') :
    StepPost s w (.returned (.tuple #[.agg #[.string (str nm), .int .i64 pl], .bool (nameB nm)])) w' := by
  refine ⟨⟨nm, pl⟩, ⟨hn, hp⟩, ?_, ?_, hE⟩
  · rw [h]; cases nameB nm <;> rfl
  · rw [h]; cases nameB nm
    · exact .inl rfl
    · exact .inr rfl
set_option maxHeartbeats 2000000 in
theorem idStep_any (s : List UInt8) (hs : s.length ≤ 1000000) (w : World) (hw : KW w) :
    Calls Tryz.prog 50 #[.string (str s)] w (StepPost s w) := by
  have HX := Lib.hid (show stepP s = if (Lib.cut s [91]).2.2 = true then
    if Lib.hasSuffix (Lib.cut s [91]).2.1 [93] = true then (numI (Lib.trimSuffix (Lib.cut s [91]).2.1 [93])).bind fun n => if nameB (Lib.cut s [91]).1 = true then some ⟨(Lib.cut s [91]).1, n⟩ else none else none
  else if nameB (Lib.cut s [91]).1 = true then some ⟨(Lib.cut s [91]).1, -1⟩ else none from rfl)
  have HC := fun w => Lib.hid (cut_any s 91 hs w)
  have hlc : (Lib.cut s [91]).1.length ≤ 1000000 ∧ (Lib.cut s [91]).2.1.length ≤ 1000000 := by
    by_cases h : (91 : UInt8) ∈ s
    · obtain ⟨a, r, rfl, hk⟩ := first_of 91 s h
      rw [cut_at a r 91 hk]
      simp at hs ⊢
      omega
    · rw [cut_no s 91 (fun d hd e => h (e ▸ hd))]
      exact ⟨hs, by simp⟩
  unfold CutPost at HC
  generalize Lib.cut s [91] = cc at *
  obtain ⟨nm, rs, ys⟩ := cc
  have HX := Lib.hid (show stepP s = if ys = true then
    if Lib.hasSuffix rs [93] = true then (numI (Lib.trimSuffix rs [93])).bind fun n => if nameB nm = true then some ⟨nm, n⟩ else none else none
  else if nameB nm = true then some ⟨nm, -1⟩ else none from HX.out)
  have hln : nm.length ≤ 1000000 := hlc.1
  have hlr : rs.length ≤ 1000000 := hlc.2
  clear hlc
  have HE0 := Lib.hid ((Ext.refl w).alloc (.cells #[.string { data := #[] }, .int .i64 0] 27))
  have hb := BoxL.new w [.string { data := #[] }, .int .i64 0] 27
  have HW := Lib.hid hw
  clear hw
  go_enter Tryz.func50, Tryz.ntmps50
  go_upto_region 1 with (fail)
  generalize w.alloc (.cells #[.string { data := #[] }, .int .i64 0] 27) = W1 at *
  have hz0 := hb.lt
  have HB := Lib.hid hb
  clear hb
  go_wp2_with fail
  refine (HC _).out.mono ?_
  rintro e w2 ⟨rfl, hE⟩
  have HB2 := Lib.hid (HB.out.ext hE)
  have HE2 := Lib.hid (HE0.out.trans hE)
  have hz2 : w.heap.size < w2.heap.size := HB2.out.lt
  clear hE HB HC HE0
  have hE3 := HE2.out.alloc (.cells #[.string (str nm), .int .i64 (-1)] 27)
  have hb3 := BoxL.new w2 [.string (str nm), .int .i64 (-1)] 27
  have hB3 := HB2.out.ext ((Ext.refl w2).alloc (.cells #[.string (str nm), .int .i64 (-1)] 27))
  go_upto_region 3 with (fail)
  generalize w2.alloc (.cells #[.string (str nm), .int .i64 (-1)] 27) = W3 at *
  generalize w2.heap.size = OB at *
  have HE3 := Lib.hid hE3
  have HO3 := Lib.hid hb3
  have HB3 := Lib.hid hB3
  clear hE3 hb3 hB3 HE2 HB2
  have hne : w.heap.size ≠ OB := by omega
  cases ys with
  | false =>
    have HXn := Lib.hid (show stepP s = if nameB nm = true then some ⟨nm, -1⟩ else none from by rw [HX.out, if_neg (by simp)])
    have o0 := HO3.out.cell 0 _ rfl
    have o1 := HO3.out.cell 1 _ rfl
    have hzB := HB3.out.lt
    go_upto_region 8 with (fail)
    clear HX
    go_region_with ((go_at_call 54; refine (name_any nm (by omega) _).mono ?_; rintro e w5 ⟨rfl, hE5⟩; have hE6 := (Ext.refl W3).drew.trans hE5; have q0 := (HO3.out.ext hE6).cell 0 _ rfl; have q1 := (HO3.out.ext hE6).cell 1 _ rfl; have HB5 := (HB3.out.ext hE6); have r0 := HB5.cell 0 _ rfl; have r1 := HB5.cell 1 _ rfl; have s0 := HB5.free 0; have s1 := HB5.free 1; have HB5 := Lib.hid HB5; have HE6 := Lib.hid (HE3.out.trans hE6); clear hE5 hE6))
    all_goals
      have hs2 := set2_facts (x := .string (str nm)) (y := .int .i64 (-1)) HE6.out HB5.out (Nat.le_refl _)
      have c0 := hs2.2.cell 0 _ rfl
      have c1 := hs2.2.cell 1 _ rfl
      have HZ := Lib.hid (stepEnd (show stepP s = if nameB nm = true then some ⟨nm, -1⟩ else none from HXn.out) (by omega) (by unfold isI64; omega) hs2.1)
      clear hs2 q0 q1 r0 r1 s0 s1 o0 o1
      go_wp2
      change bodyPost _ _ _ _ _ (set2W w5 w.heap.size (.string (str nm)) (.int .i64 (-1)))
      generalize set2W w5 w.heap.size (.string (str nm)) (.int .i64 (-1)) = Wn at *
      exact bodyPost_ret (v := .tuple #[.agg #[.string (str nm), .int .i64 (-1)], .bool (nameB nm)]) (by simp [results, Tryz.results50, go_sem, c0, c1]) rfl HZ.out
  | true =>
    have HXy := Lib.hid (show stepP s = if Lib.hasSuffix rs [93] = true then (numI (Lib.trimSuffix rs [93])).bind fun n => if nameB nm = true then some ⟨nm, n⟩ else none else none from by rw [HX.out, if_pos rfl])
    clear HX
    have hCS := Lib.hid (Tryz.strings_CutSuffix (str rs) (str [93]) W3 (by rw [str_size]; omega))
    rw [str_list, str_list] at hCS
    have hlt : (Lib.trimSuffix rs [93]).length ≤ 1000000 := by
      cases h : Lib.hasSuffix rs [93] with
      | true =>
        obtain ⟨a, rfl⟩ := suffix_cases h
        rw [trimSuffix_snoc]
        simp at hlr; omega
      | false =>
        unfold Lib.trimSuffix
        rw [if_neg (by simp [h])]; exact hlr
    generalize Lib.trimSuffix rs [93] = ds at *
    generalize Lib.hasSuffix rs [93] = hsf at *
    go_wp2_with fail
    refine hCS.out.mono ?_
    rintro e w4 ⟨rfl, rfl⟩
    go_wp2_with fail
    change Calls _ _ #[.string (str ds)] _ _
    have HW3 := Lib.hid (HW.out.ext HE3.out)
    refine (idNumber_any ds hlt _ HW3.out).mono ?_
    rintro e w5 ⟨rfl, hE5⟩
    have HNI := Lib.hid (numV_isI64 ds)
    have HNE := Lib.hid (@numV_eq ds)
    have HNS : Hid (numI ds = if numV ds = -1 then none else some (numV ds)) := Lib.hid (by
      cases h : numI ds with
      | none => rw [numV_none h]; rfl
      | some n => rw [numV_some h]; have := (numI_iff.1 h).1; rw [if_neg (by omega)])
    have hO5 := HO3.out.ext hE5
    have hB5 := HB3.out.ext hE5
    have o0 := hO5.cell 0 _ rfl
    have o1 := hO5.cell 1 _ rfl
    have f1 := hO5.free 1
    have hO6 := hO5.set 1 (by simp) (.int .i64 (numV ds))
    have hB6 := hB5.kept (grown_set w5 OB 1 (.int .i64 (numV ds))) (fun e => hne (by cases e; rfl))
    have hE6 := (HE3.out.trans hE5).setCell (p := ⟨OB, 1, none⟩) (by show w.heap.size ≤ OB; omega) (.int .i64 (numV ds))
    have HO5 := Lib.hid hO6
    have HB5 := Lib.hid hB6
    have HE5 := Lib.hid hE6
    clear hO5 hB5 hO6 hB6 hE5 hE6 HE3 HB3 HO3
    generalize numV ds = NV at *
    go_upto_region 6 with (fail)
    generalize w5.setCell ⟨OB, 1, none⟩ (.int .i64 NV) = W6 at *
    clear o0 o1 f1
    have o0 := HO5.out.cell 0 _ rfl
    have o1 := HO5.out.cell 1 _ rfl
    cases hsf with
    | false =>
      have HSN := Lib.hid (show stepP s = none by rw [HXy.out]; simp)
      have hsB := set2_facts (x := .string { data := #[] }) (y := .int .i64 0) HE5.out HB5.out (Nat.le_refl _)
      have c0 := hsB.2.cell 0 _ rfl
      have c1 := hsB.2.cell 1 _ rfl
      have HZ := Lib.hid (stepZero s w HSN.out hsB.1)
      have r0 := HB5.out.cell 0 _ rfl
      have r1 := HB5.out.cell 1 _ rfl
      have s0 := HB5.out.free 0
      have s1 := HB5.out.free 1
      clear hsB
      go_wp2
      change bodyPost _ _ _ _ _ (set2W W6 w.heap.size (.string { data := #[] }) (.int .i64 0))
      generalize set2W W6 w.heap.size (.string { data := #[] }) (.int .i64 0) = Wn at *
      exact bodyPost_ret (v := .tuple #[.agg #[.string { data := #[] }, .int .i64 0], .bool false]) (by simp [results, Tryz.results50, go_sem, c0, c1]) rfl HZ.out
    | true =>
    by_cases hn : NV = -1
    · have HSN := Lib.hid (show stepP s = none by rw [HXy.out, HNS.out, if_pos hn]; simp)
      have ht : (NV == -1) = true := by simp [hn]
      clear hn
      have hsB := set2_facts (x := .string { data := #[] }) (y := .int .i64 0) HE5.out HB5.out (Nat.le_refl _)
      have c0 := hsB.2.cell 0 _ rfl
      have c1 := hsB.2.cell 1 _ rfl
      have HZ := Lib.hid (stepZero s w HSN.out hsB.1)
      have r0 := HB5.out.cell 0 _ rfl
      have r1 := HB5.out.cell 1 _ rfl
      have s0 := HB5.out.free 0
      have s1 := HB5.out.free 1
      clear hsB HNS HNE HNI
      go_wp2
      change bodyPost _ _ _ _ _ (set2W W6 w.heap.size (.string { data := #[] }) (.int .i64 0))
      generalize set2W W6 w.heap.size (.string { data := #[] }) (.int .i64 0) = Wn at *
      exact bodyPost_ret (v := .tuple #[.agg #[.string { data := #[] }, .int .i64 0], .bool false]) (by simp [results, Tryz.results50, go_sem, c0, c1]) rfl HZ.out
    · have HXv := Lib.hid (show stepP s = if nameB nm = true then some ⟨nm, NV⟩ else none by rw [HXy.out, HNS.out, if_neg hn]; simp)
      have ht : (NV == -1) = false := by simp [hn]
      clear hn
      go_upto_region 8 with (fail)
      go_region_with ((go_at_call 54; refine (name_any nm (by omega) _).mono ?_; rintro e w7 ⟨rfl, hE6⟩; have hE7 := (Ext.refl W6).drew.trans hE6; have q0 := (HO5.out.ext hE7).cell 0 _ rfl; have q1 := (HO5.out.ext hE7).cell 1 _ rfl; have HB7 := (HB5.out.ext hE7); have r0 := HB7.cell 0 _ rfl; have r1 := HB7.cell 1 _ rfl; have s0 := HB7.free 0; have s1 := HB7.free 1; have HB7 := Lib.hid HB7; have HE6 := Lib.hid (HE5.out.trans hE7); clear hE6 hE7))
      all_goals
        have hs2 := set2_facts (x := .string (str nm)) (y := .int .i64 NV) HE6.out HB7.out (Nat.le_refl _)
        have c0 := hs2.2.cell 0 _ rfl
        have c1 := hs2.2.cell 1 _ rfl
        have HZ := Lib.hid (stepEnd HXv.out (by omega) HNI.out hs2.1)
        clear hs2 q0 q1 r0 r1 s0 s1 o0 o1 ht
        go_wp2
        change bodyPost _ _ _ _ _ (set2W w7 w.heap.size (.string (str nm)) (.int .i64 NV))
        generalize set2W w7 w.heap.size (.string (str nm)) (.int .i64 NV) = Wn at *
        exact bodyPost_ret (v := .tuple #[.agg #[.string (str nm), .int .i64 NV], .bool (nameB nm)]) (by simp [results, Tryz.results50, go_sem, c0, c1]) rfl HZ.out
end Go.Proofs.YtpcgpcjleedilaaGreatDoor
