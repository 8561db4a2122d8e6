/- Walks of package check: wide, deep. -/
import Derived.Test.YtgclfmdpapadnaaDoorVaA
import Derived.RangeFuncNested
import Derived.Lib.Hide
import Derived.RangeFuncBound
import Derived.RangeFuncCalls
import Derived.RangeFuncLeaves
import Derived.OwnWalkIn
import Derived.TacticsInMore
import Derived.LoopNIn
import Derived.LoopIn
import Derived.Maps.AppendAt
import Derived.Shelf.Abstract
import Derived.Test.YtgclfmdpapadnaaDoorProg
import Derived.Deep.MidRow
import Derived.RangeFuncBox
import Derived.Maps.OwnSet
import Derived.Maps.OwnOps
import Derived.Maps.Views
import Derived.StringKeys
import Derived.DeepKeys4
import Derived.Deep.WholeRow
import Derived.Carry
open Go.RowKit Go.Shelf
namespace Go.Proofs.YtgclfmdpapadnaaDoor
open Go Go.Proofs Fm

theorem trim_let (s : List UInt8) (hs : s.length ≤ 9223372036854775807) (w : World) :
    Calls Tryd.prog 70 #[.string (str s), .string { data := #[97, 98, 99, 100, 101, 102, 103, 104, 105, 106, 107, 108, 109, 110, 111, 112, 113, 114, 115, 116, 117, 118, 119, 120, 121, 122, 48, 49, 50, 51, 52, 53, 54, 55, 56, 57, 95] }] w fun e w' => e = .returned (.string (str (Lib.trimS s letL))) ∧ Ext w w' := by
  have h := Tryd.strings_Trim_any (str s) { data := #[97, 98, 99, 100, 101, 102, 103, 104, 105, 106, 107, 108, 109, 110, 111, 112, 113, 114, 115, 116, 117, 118, 119, 120, 121, 122, 48, 49, 50, 51, 52, 53, 54, 55, 56, 57, 95] } w (by rw [str_size]; exact hs) (by decide) (ascii_of_all (by decide +kernel))
  rw [str_list] at h
  exact h

set_option maxHeartbeats 1000000 in
theorem name_any (s : List UInt8) (hs : s.length ≤ 9223372036854775807) (w : World) :
    Calls Tryd.prog 48 #[.string (str s)] w fun e w' => e = .returned (.bool (nameB s)) ∧ Ext w w' := by
  have hss := str_size s
  by_cases h1 : 1 ≤ s.length
  case neg =>
    have HX := Lib.hid (nameB_short h1)
    have h1' : ¬ (1 : Int) ≤ (s.length : Int) := by omega
    go_enter Tryd.func48, Tryd.ntmps48
    go_wp2
    go_ret
    exact ⟨by rw [HX.out]; rfl, Ext.refl w⟩
  have h1' : (1 : Int) ≤ (s.length : Int) := by omega
  by_cases h2 : s.length ≤ 20
  case neg =>
    have HX := Lib.hid (nameB_long h2)
    have h2' : ¬ (s.length : Int) ≤ 20 := by omega
    go_enter Tryd.func48, Tryd.ntmps48
    go_wp2
    go_ret
    exact ⟨by rw [HX.out]; rfl, Ext.refl w⟩
  have h2' : (s.length : Int) ≤ 20 := by omega
  have HX := Lib.hid (nameB_all h1 h2)
  have HN := Lib.hid (trim_nil s)
  go_enter Tryd.func48, Tryd.ntmps48
  go_wp2_with fail
  refine (trim_let s hs w).mono ?_
  rintro e w1 ⟨rfl, hE⟩
  cases ha : s.all letB with
  | true =>
    rw [HN.out.2 ha]
    have HA := Lib.hid ha
    have e1 : (str []).toList = ([] : List UInt8) := str_toList []
    clear ha
    go_wp2
    go_ret
    exact ⟨by rw [HX.out, HA.out]; simp_all, hE⟩
  | false =>
    obtain ⟨T, hT⟩ : ∃ T, T = Lib.trimS s letL := ⟨_, rfl⟩
    have hT0 : T ≠ [] := by rw [hT]; intro h; rw [HN.out.1 h] at ha; cases ha
    rw [← hT]
    have HA := Lib.hid ha
    have e1 : (str T).toList = T := str_toList T
    have e2 : T.isEmpty = false := by cases T with | nil => exact absurd rfl hT0 | cons _ _ => rfl
    clear ha hT
    go_wp2
    go_ret
    exact ⟨by rw [HX.out, HA.out]; simp_all, hE⟩

set_option maxHeartbeats 1000000 in
theorem within_any (n h : Int) (w : World) :
    Calls Tryd.prog 49 #[.int .i64 n, .int .i64 h] w fun e w' => e = .returned (.bool (decide (0 ≤ n) && decide (n ≤ h))) ∧ w = w' := by
  by_cases h0 : 0 ≤ n
  · go_enter Tryd.func49, Tryd.ntmps49
    go_wp2
    go_ret
    simp_all
  · go_enter Tryd.func49, Tryd.ntmps49
    go_wp2
    go_ret
    simp_all
    try omega

set_option maxHeartbeats 2000000 in
theorem rname_any (s : List UInt8) (hs : s.length ≤ 9223372036854775807) (w : World) :
    Calls Tryd.prog 79 #[.string (str s)] w fun e w' => e = .returned (.bool (nameB s)) ∧ w = w' := by
  have hss := str_size s
  go_enter Tryd.func79, Tryd.ntmps79
  go_wp2_with fail
  go_loop [3] (fun i => ∃ j : Nat, j ≤ s.length ∧ i = .int .i64 j ∧ Hid ((s.take j).all letB = true)) (fun i => s.length - (intOf i).toNat)
  case atStart => exact ⟨0, by omega, rfl, Lib.hid (by simp)⟩
  case round =>
    obtain ⟨j, hj, rfl, HA⟩ := hrel
    by_cases hlt : j < s.length
    · obtain ⟨x, hx⟩ : ∃ x, x = s[j]?.getD 0 := ⟨_, rfl⟩
      have hxs : x = s[j] := by rw [hx]; simp [hlt]
      have hix := run_index_str (P := Tryd.prog) Tryd.underlying9 s j hlt
      rw [← hx] at hix
      have HI := Lib.hid hxs
      clear hx hxs
      cases hb : letB x with
      | true =>
        have HB := Lib.hid hb
        unfold letB at hb
        simp only [Bool.or_eq_true, Bool.and_eq_true, decide_eq_true_eq] at hb
        generalize hz : (x.toNat : Int) = z at *
        have hz2 : (97 ≤ z ∧ z ≤ 122) ∨ (48 ≤ z ∧ z ≤ 57) ∨ z = 95 := by omega
        clear hb hz
        rcases hz2 with ⟨z1, z2⟩ | ⟨z1, z2⟩ | hz95
        case' inl => skip
        case' inr.inl =>
          have z3 : ¬ 97 ≤ z := by omega
        case' inr.inr =>
          have z3 : ¬ 97 ≤ z := by omega
          have z4 : 48 ≤ z := by omega
          have z5 : ¬ z ≤ 57 := by omega
          have z6 : (z == 95) = true := by simp [hz95]
          clear hz95
        all_goals
          go_wp2
          go_round
          case rel => exact ⟨j + 1, by omega, by go_num, Lib.hid (all_at hlt HA.out (by rw [← HI.out]; exact HB.out))⟩
          case measure => simp [intOf]; omega
      | false =>
        have HB := Lib.hid (show nameB s = false by
          unfold nameB; rw [all_not hlt (by rw [← HI.out]; exact hb)]; rfl)
        unfold letB at hb
        simp only [Bool.or_eq_false_iff, Bool.and_eq_false_iff, decide_eq_false_iff_not] at hb
        generalize hz : (x.toNat : Int) = z at *
        have hz2 : (z < 97 ∨ 122 < z) ∧ (z < 48 ∨ 57 < z) ∧ (z == 95) = false := by
          refine ⟨by omega, by omega, ?_⟩
          simp; omega
        clear hb hz HA HI
        obtain ⟨ha, hb, hc⟩ := hz2
        by_cases k1 : 97 ≤ z
        case' pos =>
          have k2 : ¬ z ≤ 122 := by omega
          have k3 : 48 ≤ z := by omega
          have k4 : ¬ z ≤ 57 := by omega
        case' neg =>
          by_cases k3 : 48 ≤ z
          case' pos =>
            have k4 : ¬ z ≤ 57 := by omega
        all_goals
          clear ha hb
          go_wp2
          go_ret
          exact ⟨by rw [HB.out]; rfl, rfl⟩
    · have hjl : j = s.length := by omega
      have HA2 := Lib.hid (show s.all letB = true by have := HA.out; rwa [hjl, List.take_length] at this)
      clear HA
      by_cases h1 : 1 ≤ s.length
      case neg =>
        have HX := Lib.hid (nameB_short h1)
        have h1' : ¬ (1 : Int) ≤ (s.length : Int) := by omega
        clear hjl
        go_wp2
        go_ret
        exact ⟨by rw [HX.out]; rfl, rfl⟩
      have h1' : (1 : Int) ≤ (s.length : Int) := by omega
      by_cases h2 : s.length ≤ 20
      case neg =>
        have HX := Lib.hid (nameB_long h2)
        have h2' : ¬ (s.length : Int) ≤ 20 := by omega
        clear hjl
        go_wp2
        go_ret
        exact ⟨by rw [HX.out]; rfl, rfl⟩
      have h2' : (s.length : Int) ≤ 20 := by omega
      have HX := Lib.hid ((nameB_all h1 h2).trans HA2.out)
      clear hjl
      go_wp2
      go_ret
      exact ⟨by rw [HX.out]; rfl, rfl⟩
end Go.Proofs.YtgclfmdpapadnaaDoor

/- Walks: slices.IndexFunc, ContainsFunc at []string and []api.Item. -/
open Go.RowKit Go.Shelf
namespace Go.Proofs.YtgclfmdpapadnaaDoor
open Go Go.Proofs Fm

set_option maxRecDepth 100000 in
set_option maxHeartbeats 1000000 in
theorem indexS_inv (l : List (List UInt8)) (f : FuncId) (eg : ∀ args w, (callFunc f args).run Tryd.prog w = .ok (.enter f args) w) (caps : Array Value) (q : Nat → Bool) (J : Nat → World → Prop) (w : World) (v : Value) (h : strE.Row w l v) (hJ : ∀ i w', J i w' → Ext w w') (h0 : J 0 w)
    (hf : ∀ i (hi : i < l.length) w', J i w' → (∀ j, j < i → q j = false) → l[i].length ≤ 9223372036854775807 → Calls Tryd.prog f (#[.string (str l[i])] ++ caps) w' fun e w'' => e = .returned (.bool (q i)) ∧ J (i + 1) w'') :
    Calls Tryd.prog 71 #[v, .func (.func f) #[] caps] w (IdxPost l.length q J) := by
  obtain ⟨a, c, rfl, hlc, hcm, hR⟩ := strRow_slice h
  have HR := Lib.hid hR
  have HF := Lib.hid hf
  have HJ := Lib.hid hJ
  have hlm : l.length ≤ 9223372036854775807 := by omega
  clear h hR hf hJ
  go_enter Tryd.func71, Tryd.ntmps71
  go_wp2_with fail
  go_loopw [8] (fun i wr => ∃ j : Nat, j ≤ l.length ∧ i = .int .i64 j ∧ Hid (J j wr) ∧ Hid (∀ k, k < j → q k = false)) (fun i _ => l.length - (intOf i).toNat)
  case atStart => exact ⟨0, by omega, rfl, Lib.hid h0, Lib.hid (fun k hk => by omega)⟩
  case round =>
    clear h0
    obtain ⟨j, hj, rfl, HJj, HQ⟩ := hrel
    by_cases hlt : j < l.length
    · obtain ⟨b, off, rfl, hb, hc, hs⟩ := str_at HR.out (HJ.out _ _ HJj.out) j hlt
      have HS := Lib.hid hs
      clear hs
      go_wp2_with fail
      refine (HF.out j hlt wr HJj.out HQ.out HS.out).mono ?_
      rintro e w1 ⟨rfl, hJ1⟩
      have HJ1 := Lib.hid hJ1
      clear hJ1 hc
      cases hq : q j with
      | true =>
        have HX : Hid (IdxPost l.length q J (.returned (.int .i64 (j : Int))) w1) := Lib.hid (.inl ⟨j, hlt, hq, HQ.out, rfl, HJ1.out⟩)
        clear hq
        go_wp2
        go_ret
        exact HX.out
      | false =>
        have HQ1 : Hid (∀ k, k < j + 1 → q k = false) := Lib.hid (fun k hk => by
          by_cases h : k = j
          · rw [h]; exact hq
          · exact HQ.out k (by omega))
        clear hq
        go_wp2
        go_roundw
        case rel => exact ⟨j + 1, by omega, by go_num, HJ1, HQ1⟩
        case measure => simp [intOf]; omega
    · obtain rfl : j = l.length := by omega
      have HX : Hid (IdxPost l.length q J (.returned (.int .i64 (-1))) wr) := Lib.hid (.inr ⟨HQ.out, rfl, HJj.out⟩)
      go_wp2
      go_ret
      exact HX.out

set_option maxRecDepth 100000 in
set_option maxHeartbeats 1000000 in
theorem indexI_inv (l : List It) (f : FuncId) (eg : ∀ args w, (callFunc f args).run Tryd.prog w = .ok (.enter f args) w) (caps : Array Value) (q : Nat → Bool) (J : Nat → World → Prop) (w : World) (v : Value) (h : itE.Row w l v) (hJ : ∀ i w', J i w' → Ext w w') (h0 : J 0 w)
    (hf : ∀ i (hi : i < l.length) w' x, J i w' → (∀ j, j < i → q j = false) → ItV w' l[i] x → Calls Tryd.prog f (#[x] ++ caps) w' fun e w'' => e = .returned (.bool (q i)) ∧ J (i + 1) w'') :
    Calls Tryd.prog 47 #[v, .func (.func f) #[] caps] w (IdxPost l.length q J) := by
  obtain ⟨a, c, rfl, hlc, hcm⟩ := h.slice
  have HR := Lib.hid h
  have HF := Lib.hid hf
  have HJ := Lib.hid hJ
  have hlm : l.length ≤ 9223372036854775807 := by omega
  clear h hf hJ
  go_enter Tryd.func47, Tryd.ntmps47
  go_wp2_with fail
  go_loopw [8] (fun i wr => ∃ j : Nat, j ≤ l.length ∧ i = .int .i64 j ∧ Hid (J j wr) ∧ Hid (∀ k, k < j → q k = false)) (fun i _ => l.length - (intOf i).toNat)
  case atStart => exact ⟨0, by omega, rfl, Lib.hid h0, Lib.hid (fun k hk => by omega)⟩
  case round =>
    clear h0
    obtain ⟨j, hj, rfl, HJj, HQ⟩ := hrel
    by_cases hlt : j < l.length
    · obtain ⟨b, off, rfl, hb, aa, m, cc, c0, c1, c2, c3, c4, c5, hs⟩ := it_at HR.out (HJ.out _ _ HJj.out) j hlt
      have HS := Lib.hid (hs.ext (HJ.out _ _ HJj.out))
      clear hs
      go_wp2_with fail
      refine (HF.out j hlt wr _ HJj.out HQ.out HS.out).mono ?_
      rintro e w1 ⟨rfl, hJ1⟩
      have HJ1 := Lib.hid hJ1
      clear hJ1 c0 c1 c2 c3 c4 c5
      cases hq : q j with
      | true =>
        have HX : Hid (IdxPost l.length q J (.returned (.int .i64 (j : Int))) w1) := Lib.hid (.inl ⟨j, hlt, hq, HQ.out, rfl, HJ1.out⟩)
        clear hq
        go_wp2
        go_ret
        exact HX.out
      | false =>
        have HQ1 : Hid (∀ k, k < j + 1 → q k = false) := Lib.hid (fun k hk => by
          by_cases h : k = j
          · rw [h]; exact hq
          · exact HQ.out k (by omega))
        clear hq
        go_wp2
        go_roundw
        case rel => exact ⟨j + 1, by omega, by go_num, HJ1, HQ1⟩
        case measure => simp [intOf]; omega
    · obtain rfl : j = l.length := by omega
      have HX : Hid (IdxPost l.length q J (.returned (.int .i64 (-1))) wr) := Lib.hid (.inr ⟨HQ.out, rfl, HJj.out⟩)
      go_wp2
      go_ret
      exact HX.out

set_option maxRecDepth 100000 in
set_option maxHeartbeats 1000000 in
theorem hasS_inv (l : List (List UInt8)) (f : FuncId) (eg : ∀ args w, (callFunc f args).run Tryd.prog w = .ok (.enter f args) w) (caps : Array Value) (q : Nat → Bool) (J : Nat → World → Prop) (w : World) (v : Value) (h : strE.Row w l v) (hJ : ∀ i w', J i w' → Ext w w') (h0 : J 0 w)
    (hf : ∀ i (hi : i < l.length) w', J i w' → (∀ j, j < i → q j = false) → l[i].length ≤ 9223372036854775807 → Calls Tryd.prog f (#[.string (str l[i])] ++ caps) w' fun e w'' => e = .returned (.bool (q i)) ∧ J (i + 1) w'') :
    Calls Tryd.prog 50 #[v, .func (.func f) #[] caps] w (HasPost l.length q J) := by
  have hC := indexS_inv l f eg caps q J w v h hJ h0 hf
  obtain ⟨a, c, rfl, hlc, hcm, hR⟩ := strRow_slice h
  have HC := Lib.hid hC
  clear h hR hf hJ hC h0
  go_enter Tryd.func50, Tryd.ntmps50
  go_wp2_with fail
  refine HC.out.mono ?_
  rintro e w1 (⟨i, hi, h1, h2, rfl, h3⟩ | ⟨h1, rfl, h3⟩)
  · have HX : Hid (HasPost l.length q J (.returned (.bool true)) w1) := Lib.hid (.inl ⟨i, hi, h1, h2, rfl, h3⟩)
    clear h1 h2 h3
    have h0 : (0 : Int) ≤ (i : Int) := by omega
    go_wp2
    go_ret
    exact HX.out
  · have HX : Hid (HasPost l.length q J (.returned (.bool false)) w1) := Lib.hid (.inr ⟨h1, rfl, h3⟩)
    clear h1 h3
    go_wp2
    go_ret
    exact HX.out

set_option maxRecDepth 100000 in
set_option maxHeartbeats 1000000 in
theorem hasI_inv (l : List It) (f : FuncId) (eg : ∀ args w, (callFunc f args).run Tryd.prog w = .ok (.enter f args) w) (caps : Array Value) (q : Nat → Bool) (J : Nat → World → Prop) (w : World) (v : Value) (h : itE.Row w l v) (hJ : ∀ i w', J i w' → Ext w w') (h0 : J 0 w)
    (hf : ∀ i (hi : i < l.length) w' x, J i w' → (∀ j, j < i → q j = false) → ItV w' l[i] x → Calls Tryd.prog f (#[x] ++ caps) w' fun e w'' => e = .returned (.bool (q i)) ∧ J (i + 1) w'') :
    Calls Tryd.prog 25 #[v, .func (.func f) #[] caps] w (HasPost l.length q J) := by
  have hC := indexI_inv l f eg caps q J w v h hJ h0 hf
  obtain ⟨a, c, rfl, hlc, hcm⟩ := h.slice
  have HC := Lib.hid hC
  clear h hf hJ hC h0
  go_enter Tryd.func25, Tryd.ntmps25
  go_wp2_with fail
  refine HC.out.mono ?_
  rintro e w1 (⟨i, hi, h1, h2, rfl, h3⟩ | ⟨h1, rfl, h3⟩)
  · have HX : Hid (HasPost l.length q J (.returned (.bool true)) w1) := Lib.hid (.inl ⟨i, hi, h1, h2, rfl, h3⟩)
    clear h1 h2 h3
    have h0 : (0 : Int) ≤ (i : Int) := by omega
    go_wp2
    go_ret
    exact HX.out
  · have HX : Hid (HasPost l.length q J (.returned (.bool false)) w1) := Lib.hid (.inr ⟨h1, rfl, h3⟩)
    clear h1 h3
    go_wp2
    go_ret
    exact HX.out
/-- Where the world only grows. -/
theorem hasS_any (l : List (List UInt8)) (f : FuncId) (eg : ∀ args w, (callFunc f args).run Tryd.prog w = .ok (.enter f args) w) (caps : Array Value) (p : List UInt8 → Bool) (w : World) (v : Value) (h : strE.Row w l v)
    (hf : ∀ s w', s ∈ l → Ext w w' → s.length ≤ 9223372036854775807 → Calls Tryd.prog f (#[.string (str s)] ++ caps) w' fun e w'' => e = .returned (.bool (p s)) ∧ Ext w' w'') :
    Calls Tryd.prog 50 #[v, .func (.func f) #[] caps] w fun e w' => e = .returned (.bool (l.any p)) ∧ Ext w w' := by
  refine (hasS_inv l f eg caps (fun i => if hi : i < l.length then p l[i] else false) (fun _ => Ext w) w v h (fun _ _ h => h) (Ext.refl w) (fun i hi w' hE _ hs => ?_)).mono ?_
  · simp only [dif_pos hi]
    exact (hf l[i] w' (List.getElem_mem hi) hE hs).mono fun e w'' ⟨a, b⟩ => ⟨a, hE.trans b⟩
  · rintro e w' (⟨i, hi, h1, h2, rfl, hE⟩ | ⟨h1, rfl, hE⟩)
    · simp only [dif_pos hi] at h1
      exact ⟨by rw [any_some hi h1], hE⟩
    · refine ⟨?_, hE⟩
      rw [any_none fun j hj => ?_]
      have := h1 j hj
      simpa only [dif_pos hj] using this
theorem hasI_any (l : List It) (f : FuncId) (eg : ∀ args w, (callFunc f args).run Tryd.prog w = .ok (.enter f args) w) (caps : Array Value) (p : It → Bool) (w : World) (v : Value) (h : itE.Row w l v)
    (hf : ∀ s w' x, s ∈ l → Ext w w' → ItV w' s x → Calls Tryd.prog f (#[x] ++ caps) w' fun e w'' => e = .returned (.bool (p s)) ∧ Ext w' w'') :
    Calls Tryd.prog 25 #[v, .func (.func f) #[] caps] w fun e w' => e = .returned (.bool (l.any p)) ∧ Ext w w' := by
  refine (hasI_inv l f eg caps (fun i => if hi : i < l.length then p l[i] else false) (fun _ => Ext w) w v h (fun _ _ h => h) (Ext.refl w) (fun i hi w' x hE _ hs => ?_)).mono ?_
  · simp only [dif_pos hi]
    exact (hf l[i] w' x (List.getElem_mem hi) hE hs).mono fun e w'' ⟨a, b⟩ => ⟨a, hE.trans b⟩
  · rintro e w' (⟨i, hi, h1, h2, rfl, hE⟩ | ⟨h1, rfl, hE⟩)
    · simp only [dif_pos hi] at h1
      exact ⟨by rw [any_some hi h1], hE⟩
    · refine ⟨?_, hE⟩
      rw [any_none fun j hj => ?_]
      have := h1 j hj
      simpa only [dif_pos hj] using this
end Go.Proofs.YtgclfmdpapadnaaDoor

/- Walks of package frag: fits, Right; the reference's item, Right. -/
open Go.RowKit Go.Shelf
namespace Go.Proofs.YtgclfmdpapadnaaDoor
open Go Go.Proofs Fm

theorem ffits1_any (s : List UInt8) (hs : s.length ≤ 9223372036854775807) (w : World) :
    Calls Tryd.prog 51 #[.string (str s)] w fun e w' => e = .returned (.bool (!nameB s)) ∧ Ext w w' := by
  cases hb : nameB s with
  | true =>
    go_enter Tryd.func51, Tryd.ntmps51
    go_wp2_with fail
    refine (name_any s hs w).mono ?_
    rw [hb]
    rintro e w1 ⟨rfl, hE⟩
    clear hb
    go_wp2
    go_ret
    exact ⟨rfl, hE⟩
  | false =>
    go_enter Tryd.func51, Tryd.ntmps51
    go_wp2_with fail
    refine (name_any s hs w).mono ?_
    rw [hb]
    rintro e w1 ⟨rfl, hE⟩
    clear hb
    go_wp2
    go_ret
    exact ⟨rfl, hE⟩

theorem any_not_all (l : List (List UInt8)) : l.any (fun s => !nameB s) = !l.all nameB := by
  induction l with
  | nil => rfl
  | cons s l ih => rw [List.any_cons, List.all_cons, ih]; cases nameB s <;> rfl
theorem anyI_not_all (l : List It) : l.any (fun s => !itB s) = !l.all itB := by
  induction l with
  | nil => rfl
  | cons s l ih => rw [List.any_cons, List.all_cons, ih]; cases itB s <;> rfl
theorem itB_noname {x : It} (h : nameB x.name = false) : itB x = false := by unfold itB; rw [h]; rfl
theorem itB_nolen {x : It} (h : ¬ x.after.length ≤ 20) : itB x = false := by
  cases e : itB x with
  | false => rfl
  | true => exact absurd (itB_iff.1 e).2.1 h
theorem itB_noquota {x : It} (h : ¬ (0 ≤ x.quota ∧ x.quota ≤ 400)) : itB x = false := by
  cases e : itB x with
  | false => rfl
  | true => exact absurd ⟨(itB_iff.1 e).2.2.1, (itB_iff.1 e).2.2.2.1⟩ h
theorem itB_noafter {x : It} (h : x.after.all nameB = false) : itB x = false := by
  cases e : itB x with
  | false => rfl
  | true => rw [(itB_iff.1 e).2.2.2.2.1] at h; cases h
theorem itB_rest {x : It} (h1 : nameB x.name = true) (h2 : x.after.length ≤ 20) (h3 : 0 ≤ x.quota ∧ x.quota ≤ 400) (h4 : x.after.all nameB = true) :
    itB x = (if x.kind = 0 then decide (x.over = []) && decide (x.width = 0) else decide (x.kind = 1) && nameB x.over && (decide (0 ≤ x.width) && decide (x.width ≤ 40))) := by
  unfold itB; rw [h1, h4]; simp [h2, h3.1, h3.2]

set_option maxHeartbeats 4000000 in
theorem ffits_any (x : It) (w : World) (v : Value) (h : ItV w x v) :
    Calls Tryd.prog 27 #[v] w fun e w' => e = .returned (.bool (itB x)) ∧ Ext w w' := by
  obtain ⟨a, m, c, rfl, hr, ln, lo, iw, iq⟩ := h
  have hm : m = x.after.length := by
    obtain ⟨_, _, e, _⟩ := hr.slice
    injection e
  have HR := Lib.hid hr
  have HLn := Lib.hid ln
  have HLo := Lib.hid lo
  clear hr ln lo
  have hss := str_size x.over
  have hml : m ≤ 9223372036854775807 := by rw [hm]; exact HR.out.length_le
  have HE0 := Lib.hid ((Ext.refl w).alloc (.cells #[.string (str x.name), .int .u8 (x.kind.toNat : Int), .slice a m c, .string (str x.over), .int .i64 x.width, .int .i64 x.quota] 27))
  have HB0 := Lib.hid (BoxL.new w [.string (str x.name), .int .u8 (x.kind.toNat : Int), .slice a m c, .string (str x.over), .int .i64 x.width, .int .i64 x.quota] 27)
  have hE0 := HE0.out
  have hb0 : BoxL (w.alloc (.cells #[.string (str x.name), .int .u8 (x.kind.toNat : Int), .slice a m c, .string (str x.over), .int .i64 x.width, .int .i64 x.quota] 27)) w.heap.size [.string (str x.name), .int .u8 (x.kind.toNat : Int), .slice a m c, .string (str x.over), .int .i64 x.width, .int .i64 x.quota] := HB0.out
  clear HE0 HB0
  cases hn : nameB x.name with
  | false =>
    have HX := Lib.hid (itB_noname hn)
    have HN := Lib.hid hn
    clear hn hm
    go_enter Tryd.func27, Tryd.ntmps27
    go_wp2_with fail
    generalize w.alloc (.cells #[.string (str x.name), .int .u8 (x.kind.toNat : Int), .slice a m c, .string (str x.over), .int .i64 x.width, .int .i64 x.quota] 27) = W0 at *
    refine (name_any x.name HLn.out W0).mono ?_
    rw [HN.out]
    rintro e w1 ⟨rfl, hE1⟩
    have HE1 := Lib.hid (hE0.trans hE1)
    clear hE1 hb0 hE0
    go_wp2
    go_ret
    exact ⟨by rw [HX.out]; rfl, HE1.out⟩
  | true =>
  by_cases ha : x.after.length ≤ 20
  case neg =>
    have HX := Lib.hid (itB_nolen ha)
    have HN := Lib.hid hn
    have ha' : (20 : Int) < (m : Int) := by omega
    clear hn hm ha
    go_enter Tryd.func27, Tryd.ntmps27
    go_wp2_with fail
    generalize w.alloc (.cells #[.string (str x.name), .int .u8 (x.kind.toNat : Int), .slice a m c, .string (str x.over), .int .i64 x.width, .int .i64 x.quota] 27) = W0 at *
    refine (name_any x.name HLn.out W0).mono ?_
    rw [HN.out]
    rintro e w1 ⟨rfl, hE1⟩
    have HE1 := Lib.hid (hE0.trans hE1)
    obtain ⟨p0, p1, p2, p3, p4, p5⟩ := (hb0.ext hE1).six
    clear hE1 hb0 hE0
    go_wp2
    go_ret
    exact ⟨by rw [HX.out]; rfl, HE1.out⟩
  have ha' : ¬ (20 : Int) < (m : Int) := by omega
  by_cases hq : 0 ≤ x.quota ∧ x.quota ≤ 400
  case neg =>
    have HX := Lib.hid (itB_noquota hq)
    have HN := Lib.hid hn
    have HQ := Lib.hid (show (decide (0 ≤ x.quota) && decide (x.quota ≤ 400)) = false by simp; omega)
    clear hn hm ha hq
    go_enter Tryd.func27, Tryd.ntmps27
    go_wp2_with fail
    generalize w.alloc (.cells #[.string (str x.name), .int .u8 (x.kind.toNat : Int), .slice a m c, .string (str x.over), .int .i64 x.width, .int .i64 x.quota] 27) = W0 at *
    refine (name_any x.name HLn.out W0).mono ?_
    rw [HN.out]
    rintro e w1 ⟨rfl, hE1⟩
    have HE1 := Lib.hid (hE0.trans hE1)
    obtain ⟨p0, p1, p2, p3, p4, p5⟩ := (hb0.ext hE1).six
    clear hE1 hb0 hE0
    go_wp2_with fail
    refine (within_any x.quota 400 w1).mono ?_
    rw [HQ.out]
    rintro e w2 ⟨rfl, rfl⟩
    go_wp2
    go_ret
    exact ⟨by rw [HX.out]; rfl, HE1.out⟩
  have HQ := Lib.hid (show (decide (0 ≤ x.quota) && decide (x.quota ≤ 400)) = true by simp; omega)
  have HN := Lib.hid hn
  have HK := fun h => itB_rest hn ha hq h
  have HKh := Lib.hid HK
  clear HK
  have HA := Lib.hid (any_not_all x.after)
  clear hn hm ha hq
  go_enter Tryd.func27, Tryd.ntmps27
  go_wp2_with fail
  generalize w.alloc (.cells #[.string (str x.name), .int .u8 (x.kind.toNat : Int), .slice a m c, .string (str x.over), .int .i64 x.width, .int .i64 x.quota] 27) = W0 at *
  refine (name_any x.name HLn.out W0).mono ?_
  rw [HN.out]
  rintro e w1 ⟨rfl, hE1⟩
  have HE1 := Lib.hid (hE0.trans hE1)
  have HB1 := Lib.hid (hb0.ext hE1)
  obtain ⟨p0, p1, p2, p3, p4, p5⟩ := HB1.out.six
  clear hE1 hb0 hE0
  go_wp2_with fail
  refine (within_any x.quota 400 w1).mono ?_
  rw [HQ.out]
  rintro e w2 ⟨rfl, rfl⟩
  go_wp2_with fail
  refine (hasS_any x.after 51 Tryd.call51 #[] (fun s => !nameB s) w1 _ (HR.out.ext HE1.out) (fun s w' _ _ hs => ffits1_any s hs w')).mono ?_
  rw [HA.out]
  rintro e w2 ⟨rfl, hE2⟩
  have HE2 := Lib.hid (HE1.out.trans hE2)
  have HB2 := Lib.hid (HB1.out.ext hE2)
  clear hE2 p0 p1 p2 p3 p4 p5 HE1 HB1
  obtain ⟨p0, p1, p2, p3, p4, p5⟩ := HB2.out.six
  cases hall : x.after.all nameB with
  | false =>
    have HX := Lib.hid (itB_noafter hall)
    clear hall
    go_wp2
    go_ret
    exact ⟨by rw [HX.out]; rfl, HE2.out⟩
  | true =>
  have HX := Lib.hid (HKh.out hall)
  clear hall HKh
  by_cases hk0 : x.kind = 0
  · have HX0 := Lib.hid (show itB x = ((str x.over).toList.isEmpty && (x.width == 0)) by rw [HX.out.trans (if_pos hk0), str_toList, Bool.eq_iff_iff]; simp)
    have f0 : ((x.kind.toNat : Int) == 0) = true := by rw [hk0]; rfl
    generalize (x.kind.toNat : Int) = K at *
    clear HX hk0
    go_wp2
    all_goals go_ret
    all_goals
      refine ⟨?_, HE2.out⟩
      have hX := HX0.out
      clear HX0
      rw [hX]
      simp_all
  have HX0 := Lib.hid (HX.out.trans (if_neg hk0))
  have f0 : ((x.kind.toNat : Int) == 0) = false := by rw [show (0 : Int) = ((0 : UInt8).toNat : Int) from rfl, u8_eq]; simpa using hk0
  clear HX
  by_cases hk1 : x.kind = 1
  case neg =>
    have f1 : ((x.kind.toNat : Int) == 1) = false := by rw [show (1 : Int) = ((1 : UInt8).toNat : Int) from rfl, u8_eq]; simpa using hk1
    have HX1 := Lib.hid (show itB x = false by rw [HX0.out]; simp [hk1])
    generalize (x.kind.toNat : Int) = K at *
    clear hk0 hk1 HX0
    go_wp2
    go_ret
    exact ⟨by rw [HX1.out]; rfl, HE2.out⟩
  have f1 : ((x.kind.toNat : Int) == 1) = true := by rw [hk1]; rfl
  have HX1 := Lib.hid (show itB x = (nameB x.over && (decide (0 ≤ x.width) && decide (x.width ≤ 40))) by rw [HX0.out]; simp [hk1])
  generalize (x.kind.toNat : Int) = K at *
  clear hk0 hk1 HX0
  go_wp2_with fail
  refine (name_any x.over HLo.out w2).mono ?_
  cases hv : nameB x.over with
  | false =>
    rintro e w3 ⟨rfl, hE3⟩
    have HE3 := Lib.hid (HE2.out.trans hE3)
    have HX2 := Lib.hid (show itB x = false by rw [HX1.out, hv]; rfl)
    clear hE3 hv
    go_wp2
    go_ret
    exact ⟨by rw [HX2.out]; rfl, HE3.out⟩
  | true =>
    rintro e w3 ⟨rfl, hE3⟩
    have HE3 := Lib.hid (HE2.out.trans hE3)
    have HB3 := Lib.hid (HB2.out.ext hE3)
    have HX2 := Lib.hid (show itB x = (decide (0 ≤ x.width) && decide (x.width ≤ 40)) by rw [HX1.out, hv]; rfl)
    clear hE3 hv p0 p1 p2 p3 p4 p5
    obtain ⟨p0, p1, p2, p3, p4, p5⟩ := HB3.out.six
    go_wp2_with fail
    refine (within_any x.width 40 w3).mono ?_
    rw [← HX2.out]
    rintro e w4 ⟨rfl, rfl⟩
    go_wp2
    go_ret
    exact ⟨rfl, HE3.out⟩

theorem right1_any (x : It) (w : World) (v : Value) (h : ItV w x v) :
    Calls Tryd.prog 26 #[v] w fun e w' => e = .returned (.bool (!itB x)) ∧ Ext w w' := by
  have HI := Lib.hid h
  obtain ⟨a, m, c, rfl, -⟩ := h
  have hE0 := (Ext.refl w).alloc (.cells #[.string (str x.name), .int .u8 (x.kind.toNat : Int), .slice a m c, .string (str x.over), .int .i64 x.width, .int .i64 x.quota] 27)
  cases hb : itB x with
  | true =>
    have HB := Lib.hid hb
    clear hb
    go_enter Tryd.func26, Tryd.ntmps26
    go_wp2_with fail
    refine (ffits_any x _ _ (HI.out.ext hE0)).mono ?_
    rw [HB.out]
    rintro e w1 ⟨rfl, hE⟩
    have hE1 := hE0.trans hE
    go_wp2
    go_ret
    exact ⟨rfl, hE1⟩
  | false =>
    have HB := Lib.hid hb
    clear hb
    go_enter Tryd.func26, Tryd.ntmps26
    go_wp2_with fail
    refine (ffits_any x _ _ (HI.out.ext hE0)).mono ?_
    rw [HB.out]
    rintro e w1 ⟨rfl, hE⟩
    have hE1 := hE0.trans hE
    go_wp2
    go_ret
    exact ⟨rfl, hE1⟩

set_option maxHeartbeats 1000000 in
theorem fright_any (l : List It) (w : World) (v : Value) (h : itE.Row w l v) :
    Calls Tryd.prog 8 #[v] w fun e w' => e = .returned (.bool (fragB l)) ∧ Ext w w' := by
  obtain ⟨a, c, rfl, hlc, hcm⟩ := h.slice
  have HR := Lib.hid h
  clear h
  by_cases hl : l.length ≤ 40
  case neg =>
    have HX := Lib.hid (show fragB l = false by unfold fragB; simp [hl])
    have hl' : ¬ (l.length : Int) ≤ 40 := by omega
    clear hl
    go_enter Tryd.func8, Tryd.ntmps8
    go_wp2
    go_ret
    exact ⟨by rw [HX.out]; rfl, Ext.refl w⟩
  have HX := Lib.hid (show fragB l = l.all itB by unfold fragB; simp [hl])
  have hl' : (l.length : Int) ≤ 40 := by omega
  have HA := Lib.hid (anyI_not_all l)
  clear hl
  go_enter Tryd.func8, Tryd.ntmps8
  go_wp2_with fail
  refine (hasI_any l 26 Tryd.call26 #[] (fun s => !itB s) w _ HR.out (fun s w' x _ _ hs => right1_any s w' x hs)).mono ?_
  rw [HA.out]
  rintro e w2 ⟨rfl, hE2⟩
  cases hb : l.all itB with
  | true =>
    have HX2 := Lib.hid (HX.out.trans hb)
    clear hb
    go_wp2
    go_ret
    exact ⟨by rw [HX2.out]; rfl, hE2⟩
  | false =>
    have HX2 := Lib.hid (HX.out.trans hb)
    clear hb
    go_wp2
    go_ret
    exact ⟨by rw [HX2.out]; rfl, hE2⟩
end Go.Proofs.YtgclfmdpapadnaaDoor

namespace Fm
open Go Go.RowKit

/-- The contract of an iterator that names the steps it makes of its own (Ab), what the body must keep (Kp), and what may come next (Nx). -/
def SeqAb {α : Type} (F : Fence) (n : Nat) (P : Program) (g : Nat) (lb : Array Value) (encs : α → Array Value) (Ab Kp : World → World → Prop) (S Sp : List α → Prop) (Nx : List α → α → Prop) (w : World) : Prop :=
  ∀ (l : Nat) (J Jx : List α → World → Prop) (W : World), Below w.heap.size w W → (∀ s X Y, J s X → Ab X Y → J s Y) → (∀ s X Y, Jx s X → Ab X Y → Jx s Y) →
    (∀ pre x X, J pre X → Nx pre x → YieldAt F (n - 1) P l (encs x) X fun e Y => (e = .returned (.bool true) ∧ J (pre ++ [x]) Y ∧ Kp X Y) ∨ (e = .returned (.bool false) ∧ Jx (pre ++ [x]) Y)) →
    J [] W →
    CallsIn F n P g (#[.func (.yield l) #[] #[]] ++ lb) W fun e Y => (∃ v, e = .returned v) ∧ ((∃ xs, S xs ∧ J xs Y) ∨ (∃ pre, Sp pre ∧ Jx pre Y))

variable {F : Fence} {n : Nat} {P : Program}

/-- The loop's two blocks of book-keeping. -/
def Kept2 (B : Nat) (r : Loop) (W : World) : Prop := W.heap[B + 1]? = some (.loop r) ∧ W.heap[B]? = some (.deferred (some []))
theorem Kept2.put {B : Nat} {r : Loop} {W : World} (h : Kept2 B r W) (r' : Loop) : Kept2 B r' (W.putObj (B + 1) (.loop r')) :=
  ⟨World.putObj_heap_same (Array.getElem?_eq_some_iff.1 h.1).1, (World.putObj_heap_other (by omega)).trans h.2⟩
theorem Kept2.from {B : Nat} {r : Loop} {W W' : World} (h : Kept2 B r W) (hk : KeepsFrom B W W') : Kept2 B r W' :=
  ⟨hk.same _ _ (by omega) h.1 rfl, hk.same _ _ (Nat.le_refl _) h.2 rfl⟩

theorem wpIn_rangeFunc_ab {α : Type} {g : Operand} {ps : Array Tmp} {assign body : Code} {Q : Exit → Act → World → Prop} {a : Act} {w : World}
    (hro : F.round = none) (h1 : 1 ≤ n) {gf : Nat} {lb : Array Value} (hg : a.eval g = .func (.func gf) #[] lb) (hFg : F.fn gf) (eg : ∀ args w, (callFunc gf args).run P w = .ok (.enter gf args) w)
    {encs : α → Array Value} {Ab Kp : World → World → Prop} {S Sp : List α → Prop} {Nx : List α → α → Prop} {w0 : World} (hseq : SeqAb F (n - 1) P gf lb encs Ab Kp S Sp Nx w0)
    (hb0 : Below w0.heap.size w0 w) (hps : ∀ x, (encs x).size = ps.size)
    (hAb : ∀ X Y, Ab X Y → ∀ k o, w.heap.size ≤ k → X.heap[k]? = some o → o.isCells = false → Y.heap[k]? = some o)
    (hKt : ∀ {A B C : World}, Kp A B → Kp B C → Kp A C) (hKb : ∀ (W : World) (l : Nat) (o o' : Obj), w.heap.size ≤ l → W.heap[l]? = some o → o.isCells = false → Kp W (W.putObj l o'))
    (I : List α → World → Prop) (Ix : Code → List α → World → Prop) (hI : OwnFrom w.heap.size I) (hIx : ∀ c, OwnFrom w.heap.size (Ix c))
    (aI : ∀ s X Y, I s X → Ab X Y → I s Y) (aIx : ∀ c s X Y, Ix c s X → Ab X Y → Ix c s Y) (h0 : I [] w) (a₁ : α → Act)
    (hassign : ∀ (l : Nat) (x : α) (W : World) (K : Act → World → Prop), K (a₁ x) W →
      assign.wpIn (F.inRound l) (n - 1 - 1) P (Exit.then K (fun _ _ _ => False)) { tmps := (ps.zip (encs x)).foldl (fun t (p, v) => t.setIfInBounds p v) a.tmps, defers := [] } W)
    (hbody : ∀ (l : Nat) (pre : List α) (x : α) (W : World), I pre W → Nx pre x → body.wpIn (F.inRound l) (n - 1 - 1) P (ownPostG w.heap.size Kp I Ix (pre ++ [x]) W) (a₁ x) W)
    (hdone : ∀ (D : Nat) (xs : List α) (W : World), w.heap.size ≤ D → S xs → I xs W → W.heap[D]? = some (.deferred (some [])) → Q .normal { a with defers := { target := .collected D, args := #[] } :: a.defers } W)
    (hstop : ∀ (D : Nat) (c : Code) (pre : List α) (W : World), w.heap.size ≤ D → Sp pre → Ix c pre W → W.heap[D]? = some (.deferred (some [])) → c.wpIn F n P Q { a with defers := { target := .collected D, args := #[] } :: a.defers } W) :
    (Code.rangeFunc g ps assign body).wpIn F n P Q a w := by
  refine wpIn_rangeFunc fun fn hfn => ?_
  rw [hro]
  obtain ⟨rec, hrec⟩ : ∃ rec : LoopState → Option Code → Loop, rec = fun st pe => { state := st, pending := pe, fn, tmps := a.tmps, params := ps, assign, body, defers := w.heap.size } := ⟨_, rfl⟩
  have hK : Kept2 w.heap.size (rec .ready none) ((w.alloc (.deferred (some []))).alloc (.loop (rec .ready none))) := by
    constructor
    · have := World.alloc_heap_new (w.alloc (.deferred (some []))) (.loop (rec .ready none)); rwa [World.size_alloc] at this
    · exact (Below.heap_alloc _ _ _ (by simp)).trans (World.alloc_heap_new w _)
  have hI1 : I [] ((w.alloc (.deferred (some []))).alloc (.loop (rec .ready none))) := hI.alloc _ (hI.alloc _ h0)
  have hb1 : Below w0.heap.size w0 ((w.alloc (.deferred (some []))).alloc (.loop (rec .ready none))) :=
    hb0.trans ((((Below.refl _ w).alloc (Nat.le_refl _) _).alloc (by simp) _).mono hb0.size)
  have hrun := run_enterLoop_outer (P := P) (w := w) fn a.tmps ps assign body
  rw [show (Loop.mk LoopState.ready none fn a.tmps ps assign body w.heap.size) = rec .ready none from by rw [hrec]] at hrun
  generalize (w.alloc (.deferred (some []))).alloc (.loop (rec .ready none)) = W1 at *
  refine ⟨w.heap.size + 1, [{ target := .collected w.heap.size, args := #[] }], W1, { target := .fn (.func gf) lb, args := #[.func (.yield (w.heap.size + 1)) #[] #[]] }, W1, gf,
    #[.func (.yield (w.heap.size + 1)) #[] #[]] ++ lb, W1, hrun, ?_, ?_, ?_, fun _ => h1, ?_⟩
  · simp only [resolve, hg]
    simp [go_sem]
  · intro f' hf'; simp [Target.leads] at hf'; subst hf'; exact hFg
  · simp [invoke, go_sem, eg]
  · have kAb : ∀ {r X Y}, Kept2 w.heap.size r X → Ab X Y → Kept2 w.heap.size r Y := fun h k => ⟨hAb _ _ k _ _ (by omega) h.1 rfl, hAb _ _ k _ _ (Nat.le_refl _) h.2 rfl⟩
    refine (hseq (w.heap.size + 1) (fun pre W => I pre W ∧ Kept2 w.heap.size (rec .ready none) W) (fun pre W => ∃ c, Ix c pre W ∧ Kept2 w.heap.size (rec .done (some c)) W) W1 hb1
      (fun s X Y h k => ⟨aI s X Y h.1 k, kAb h.2 k⟩) (fun s X Y ⟨c, h, h'⟩ k => ⟨c, aIx c s X Y h k, kAb h' k⟩) ?_ ⟨hI1, hK⟩).mono ?_
    · rintro pre x W ⟨hi, hk⟩ hnx
      have hy := run_yield (P := P) (args := encs x) hk.1 (by rw [hrec]; exact hps x)
      rw [hrec] at hy
      refine ⟨fn, _, assign, body, hy, roundIn_of_wpIn hfn (hassign _ x W _ ⟨_, run_beginRound hk.1 (by rw [hrec]), ?_⟩)⟩
      have hk2 := hk.put { rec .ready none with state := .busy }
      have hw2 : Kp W _ := hKb W (w.heap.size + 1) _ (.loop { rec .ready none with state := .busy }) (by omega) hk.1 rfl
      refine wpIn_mono (hbody _ pre x _ (hI.putObj _ hi (by omega) hk.1 rfl) hnx) ?_
      have fin : ∀ (jump : Option Code) (W3 : World), KeepsFrom w.heap.size (W.putObj (w.heap.size + 1) (.loop { rec .ready none with state := .busy })) W3 →
          (Instr.endRound (w.heap.size + 1) jump).run P W3 = .ok (.bool jump.isNone) (W3.putObj (w.heap.size + 1) (.loop (rec (if jump.isNone then .ready else .done) jump))) ∧
          W3.heap[w.heap.size + 1]? = some (.loop { rec .ready none with state := .busy }) ∧
          Kept2 w.heap.size (rec (if jump.isNone then .ready else .done) jump) (W3.putObj (w.heap.size + 1) (.loop (rec (if jump.isNone then .ready else .done) jump))) := fun jump W3 hk3 => by
        have hl3 := hk2.from hk3
        have := run_endRound (P := P) jump hl3.1
        rw [hrec] at this
        refine ⟨by rw [hrec]; exact this, hl3.1, hl3.put _⟩
      rintro e a3 W3 hp
      cases e with
      | normal =>
        obtain ⟨hr, hl3, hk4⟩ := fin none W3 hp.1
        exact ⟨_, _, hr, .inl ⟨rfl, ⟨hI.putObj _ hp.2.2 (by omega) hl3 rfl, hk4⟩, hKt (hKt hw2 hp.2.1) (hKb _ _ _ _ (by omega) hl3 rfl)⟩⟩
      | ret =>
        obtain ⟨hr, hl3, hk4⟩ := fin (some .ret) W3 hp.1
        exact ⟨_, _, hr, .inr ⟨rfl, .ret, (hIx _).putObj _ hp.2 (by omega) hl3 rfl, hk4⟩⟩
      | exit id =>
        obtain ⟨hr, hl3, hk4⟩ := fin (some (.exit id)) W3 hp.1
        exact ⟨_, _, hr, .inr ⟨rfl, .exit id, (hIx _).putObj _ hp.2 (by omega) hl3 rfl, hk4⟩⟩
      | goto t =>
        obtain ⟨hr, hl3, hk4⟩ := fin (some (.goto t)) W3 hp.1
        exact ⟨_, _, hr, .inr ⟨rfl, .goto t, (hIx _).putObj _ hp.2 (by omega) hl3 rfl, hk4⟩⟩
      | panic ch => exact hp.elim
      | outgrown => exact hp.elim
    · rintro e W2 ⟨⟨v, rfl⟩, (⟨xs, hS, hi, hk⟩ | ⟨pre, hSp, c, hi, hk⟩)⟩
      · exact ⟨none, _, by have := run_endLoop (P := P) hk.1 (by rw [hrec]; simp); rw [hrec] at this; exact this, hdone _ xs _ (Nat.le_refl _) hS (hI.putObj _ hi (by omega) hk.1 rfl) ((World.putObj_heap_other (by omega)).trans hk.2)⟩
      · exact ⟨some c, _, by have := run_endLoop (P := P) hk.1 (by rw [hrec]; simp); rw [hrec] at this; exact this, hstop _ c pre _ (Nat.le_refl _) hSp ((hIx c).putObj _ hi (by omega) hk.1 rfl) ((World.putObj_heap_other (by omega)).trans hk.2)⟩
end Fm

open Go.RowKit Go.Shelf
namespace Go.Proofs.YtgclfmdpapadnaaDoor
open Go Go.Proofs Fm
attribute [local go_sem] Oper.semAt_some

set_option maxHeartbeats 1000000 in
theorem scplace_any (l : List Nd) (i : Int) (w : World) (v : Value) (h : ndE.Row w l v) :
    Calls Tryd.prog 39 #[v, .int .i64 i] w fun e w' => e = .returned (.bool (placeF l i)) ∧ w = w' := by
  obtain ⟨a, c, rfl, hc1, hc2⟩ := h.slice
  have HX := Lib.hid (show placeF l i = (decide (0 ≤ i) && decide (i < l.length)) from rfl)
  clear h
  by_cases h0 : 0 ≤ i
  · go_enter Tryd.func39, Tryd.ntmps39
    go_wp2
    go_ret
    exact ⟨by rw [HX.out]; simp [h0], rfl⟩
  · go_enter Tryd.func39, Tryd.ntmps39
    go_wp2
    go_ret
    exact ⟨by rw [HX.out]; simp; omega, rfl⟩
theorem up_any (a : Option Addr) (m c : Nat) (i : Int) (w : World) :
    Calls Tryd.prog 40 #[.slice a m c, .int .i64 i] w fun e w' => e = .returned (.func (.func 68) #[] #[.pointer (some ⟨w.heap.size, 0, none⟩), .pointer (some ⟨w.heap.size + 1, 0, none⟩)]) ∧
      (w.alloc (.cells #[.slice a m c] 34)).alloc (.cells #[.int .i64 i] 3) = w' := by
  go_enter Tryd.func40, Tryd.ntmps40
  go_wp2
  go_ret
  exact ⟨rfl, rfl⟩
/-- What up hands out. -/
def upL (l : List Nd) (i : Int) : List Nat := if placeF l i then chainO l i.toNat else []
def restL (l : List Nd) (q : Int) : List Nat := if 0 ≤ q then q.toNat :: chainO l q.toNat else []
theorem upL_rest {l : List Nd} (h : RightO l) {i : Nat} (hi : i < l.length) : chainO l i = restL l l[i].owner := by
  have h1 := h i hi
  unfold restL
  by_cases h0 : 0 ≤ l[i].owner
  · rw [if_pos h0]
    exact chainO_some h hi (by omega)
  · rw [if_neg h0]
    exact chainO_none hi (by omega)
theorem restL_nat {l : List Nd} (h : RightO l) {q : Nat} (hq : q < l.length) : restL l q = q :: restL l l[q].owner := by
  rw [← upL_rest h hq]
  unfold restL
  rw [if_pos (Int.natCast_nonneg q)]
  rfl
/-- What the rounds over up must keep: what was ahead, and the box of the nodes. -/
def KpU (B bL : Nat) (X Y : World) : Prop := Below B X Y ∧ Y.heap[bL]? = X.heap[bL]?
theorem KpU.cell {B bL : Nat} {X Y : World} (h : KpU B bL X Y) {o : Nat} {v : Value} (hc : X.cell? ⟨bL, o, none⟩ = some v) : Y.cell? ⟨bL, o, none⟩ = some v :=
  (World.cell?_of_block (w := X) (a := ⟨bL, o, none⟩) h.2).trans hc
theorem KpU.trans {B bL : Nat} {X Y Z : World} (h : KpU B bL X Y) (k : KpU B bL Y Z) : KpU B bL X Z := ⟨h.1.trans k.1, k.2.trans h.2⟩
theorem KpU.put {B bL : Nat} (X : World) (l : Nat) (o o' : Obj) (hB : B ≤ l) (hb : bL < l) (hl : X.heap[l]? = some o) : KpU B bL X (X.putObj l o') :=
  ⟨(Below.refl B X).grown (grownBy_putObj' X l o') (by have := (Array.getElem?_eq_some_iff.1 hl).1; omega) (fun k e => by cases e; exact hB), World.putObj_heap_other (by omega)⟩
set_option maxRecDepth 100000 in
set_option maxHeartbeats 1000000 in
theorem up1_in (n l bL bI : Nat) (nd : List Nd) (v : Value) (i : Int) (hO : RightO nd) (w : World) (hR : ndE.Row w nd v)
    (J Jx : List Nat → World → Prop)
    (hY : ∀ (pre : List Nat) (x : Nat) X, J pre X → (∃ post, upL nd i = pre ++ x :: post) → YieldAt Fence.wide (n - 1) Tryd.prog l #[.int .i64 (x : Int)] X fun e Y =>
      (e = .returned (.bool true) ∧ J (pre ++ [x]) Y ∧ KpU w.heap.size bL X Y) ∨ (e = .returned (.bool false) ∧ Jx (pre ++ [x]) Y))
    (W : World) (hW : Ext w W) (hL : W.cell? ⟨bL, 0, none⟩ = some v) (hI : W.cell? ⟨bI, 0, none⟩ = some (.int .i64 i)) (h0 : J [] W) :
    CallsIn Fence.wide n Tryd.prog 68 #[.func (.yield l) #[] #[], .pointer (some ⟨bL, 0, none⟩), .pointer (some ⟨bI, 0, none⟩)] W fun e W' =>
      (∃ v, e = .returned v) ∧ (J (upL nd i) W' ∨ ∃ pre, Jx pre W') := by
  have hfn : ∀ f, Fence.wide.fn f := fun _ => trivial
  have hdp : Fence.wide.depth.isSome = false := rfl
  have HR := Lib.hid hR
  have HO := Lib.hid hO
  obtain ⟨a, c, rfl, hc1, hc2⟩ := hR.slice
  have HC := Lib.hid (scplace_any nd i W _ (hR.ext hW))
  have c1 := hL
  have c2 := hI
  have HY := Lib.hid hY
  have HW := Lib.hid hW
  have HJ0 := Lib.hid h0
  refine callsIn_of_wp Tryd.func68 rfl trivial ?_ rfl
  simp only [Tryd.ntmps68, List.size_toArray, List.length_cons, List.length_nil, Nat.reduceAdd, Nat.reduceSub, Array.replicate_succ, Array.replicate_zero, List.push_toArray, List.append_toArray, List.nil_append, List.cons_append]
  clear hR hO hY h0 hW hL hI
  cases hpl : placeF nd i with
  | false =>
    rw [hpl] at HC
    gi_wp2_with (gi_at_call 39; refine (callsIn_wide.2 HC.out).mono ?_; rintro e w' ⟨rfl, rfl⟩)
    have HU := Lib.hid (show upL nd i = [] by unfold upL; rw [hpl]; rfl)
    clear hpl
    gi_wp2

    first | go_end0 | (refine bodyPost_ret (results_none rfl _ _ _) rfl ?_)
    exact ⟨⟨_, rfl⟩, .inl (by rw [HU.out]; exact HJ0.out)⟩
  | true =>
    rw [hpl] at HC
    obtain ⟨hm0, hm1⟩ : 0 ≤ i ∧ i < nd.length := by unfold placeF at hpl; simpa using hpl
    obtain ⟨p, rfl⟩ : ∃ p : Nat, i = (p : Int) := ⟨i.toNat, by omega⟩
    have hp : p < nd.length := by omega
    have HU := Lib.hid (show upL nd p = restL nd nd[p].owner by unfold upL; rw [hpl]; exact upL_rest HO.out hp)
    obtain ⟨b, off, rfl, hb, aa, ma, ca, k, N, s, d, ⟨x0, x1, x2, x3, x4, x5, x6, x7, x8, x9, x10, x11, x12, x13, x14, x15⟩, -⟩ := nd_at16 HR.out HW.out p hp
    have hop := HO.out p hp
    have hol : -1 ≤ nd[p].owner ∧ nd[p].owner < (nd.length : Int) := ⟨hop.1, by have := hop.2.1; omega⟩
    obtain ⟨OW, hOW⟩ : ∃ OW, OW = nd[p].owner := ⟨_, rfl⟩
    rw [← hOW] at x4 HU hol
    obtain ⟨LN, hLN⟩ : ∃ LN, LN = nd.length := ⟨_, rfl⟩
    rw [← hLN] at hc1 hm1 hol c1 HC
    have HLN := Lib.hid hLN
    have HC1 := Lib.hid c1
    clear hpl x0 x1 x2 x3 x5 x6 x7 x8 x9 x10 x11 x12 x13 x14 x15 hop hOW hp hLN
    gi_wp2_with (gi_at_call 39; refine (callsIn_wide.2 HC.out).mono ?_; rintro e w' ⟨rfl, rfl⟩)
    gi_loopw [4] (fun o wr => ∃ (pre : List Nat) (q : Int), o = .int .i64 q ∧ -1 ≤ q ∧ q < (LN : Int) ∧ Hid (upL nd p = pre ++ restL nd q) ∧ Hid (Ext w wr) ∧ Hid (wr.cell? ⟨bL, 0, none⟩ = some (.slice (some ⟨b, off, none⟩) LN c)) ∧ Hid (J pre wr)) (fun o _ => (intOf o + 1).toNat)
    case atStart => exact ⟨[], OW, rfl, hol.1, hol.2, HU, HW, HC1, HJ0⟩
    case round =>
      clear x4 c1 c2 HU HW HJ0 hol HC1
      obtain ⟨pre, q, rfl, hq1, hq2, HU, HW, HC1, HJ⟩ := hrel
      rename World => wr
      by_cases hq0 : 0 ≤ q
      case neg =>
        have HE := Lib.hid (show upL nd p = pre by rw [HU.out]; unfold restL; rw [if_neg hq0, List.append_nil])
        gi_wp2
        first | go_end0 | (refine bodyPost_ret (results_none rfl _ _ _) rfl ?_)
        exact ⟨⟨_, rfl⟩, .inl (by rw [HE.out]; exact HJ.out)⟩
      obtain ⟨qn, rfl⟩ : ∃ qn : Nat, q = (qn : Int) := ⟨q.toNat, by omega⟩
      have hqn : qn < nd.length := by rw [← HLN.out]; omega
      have HE := Lib.hid (show upL nd p = (pre ++ [qn]) ++ restL nd nd[qn].owner by rw [HU.out, restL_nat HO.out hqn]; simp)
      obtain ⟨fn, tmps, assign, body, hy, hRn⟩ := HY.out pre qn wr HJ.out ⟨restL nd nd[qn].owner, by rw [HE.out]; simp⟩
      clear HJ HU
      gi_wp2
      refine hRn.mono ?_
      rintro e W3 (⟨rfl, hJ3, hk3⟩ | ⟨rfl, hJx3⟩)
      · have hE3 := HW.out.then hk3.1
        have c1 := hk3.cell HC1.out
        have HC3 := Lib.hid c1
        obtain ⟨b', off', e', hb', aa, ma, ca, k, N, s, d, ⟨x0, x1, x2, x3, x4, x5, x6, x7, x8, x9, x10, x11, x12, x13, x14, x15⟩, -⟩ := nd_at16 HR.out hE3 qn hqn
        injection e' with e'
        injection e' with e1' e2'
        subst e1' e2'
        have hop := HO.out qn hqn
        have hol : -1 ≤ nd[qn].owner ∧ nd[qn].owner < (LN : Int) ∧ nd[qn].owner < (qn : Int) := ⟨hop.1, by have := hop.2.1; omega, hop.2.1⟩
        obtain ⟨OW, hOW⟩ : ∃ OW, OW = nd[qn].owner := ⟨_, rfl⟩
        rw [← hOW] at x4 HE hol
        have HE3 := Lib.hid hE3
        have HJ3 := Lib.hid hJ3
        clear x0 x1 x2 x3 x5 x6 x7 x8 x9 x10 x11 x12 x13 x14 x15 hop hOW hJ3 hE3 hk3
        gi_wp2
        go_roundw
        case rel => exact ⟨pre ++ [qn], OW, rfl, hol.1, hol.2.1, HE, HE3, HC3, HJ3⟩
        case measure => simp [intOf]; omega
      · gi_wp2
        first | go_end0 | (refine bodyPost_ret (results_none rfl _ _ _) rfl ?_)
        exact ⟨⟨_, rfl⟩, .inr ⟨_, hJx3⟩⟩
/-- The iterator's contract. -/
theorem up1_stops (n bL bI : Nat) (nd : List Nd) (v : Value) (i : Int) (hO : RightO nd) (w w0 : World) (hR : ndE.Row w nd v) (hE : Ext w w0) (hbL : bL < w0.heap.size) (hbI : bI < w0.heap.size) (hL : w0.cell? ⟨bL, 0, none⟩ = some v) (hI : w0.cell? ⟨bI, 0, none⟩ = some (.int .i64 i)) :
    SeqAb Fence.wide n Tryd.prog 68 #[.pointer (some ⟨bL, 0, none⟩), .pointer (some ⟨bI, 0, none⟩)] (fun (x : Nat) => #[.int .i64 (x : Int)]) (fun _ _ => False) (KpU w.heap.size bL) (fun xs => xs = upL nd i) (fun _ => True) (fun pre x => ∃ post, upL nd i = pre ++ x :: post) w0 := by
  intro l J Jx W hW aJ aJx hY h0
  refine (up1_in n l bL bI nd v i hO w hR J Jx hY W (hE.then (hW.mono hE.size)) ((hW.cell (p := ⟨bL, 0, none⟩) hbL).trans hL) ((hW.cell (p := ⟨bI, 0, none⟩) hbI).trans hI) h0).mono ?_
  rintro e W' ⟨hv, h | ⟨pre, h⟩⟩
  · exact ⟨hv, .inl ⟨_, rfl, h⟩⟩
  · exact ⟨hv, .inr ⟨pre, trivial, h⟩⟩
end Go.Proofs.YtgclfmdpapadnaaDoor

open Go.RowKit Go.Shelf
namespace Go.Proofs.YtgclfmdpapadnaaDoor
open Go Go.Proofs Fm
attribute [local go_sem] Oper.semAt_some

theorem upL_len {nd : List Nd} (hO : RightO nd) (i : Int) (hn : nd.length ≤ 9223372036854775807) : (upL nd i).length + 1 ≤ 9223372036854775807 := by
  unfold upL
  cases h : placeF nd i with
  | false => simp
  | true =>
    obtain ⟨h0, h1⟩ : 0 ≤ i ∧ i < nd.length := by unfold placeF at h; simpa using h
    have := chainO_len hO i.toNat (by omega)
    rw [if_pos rfl]
    omega
theorem grown_setI (w : World) (R o : Nat) (u : Value) : w.grownBy (w.setCell ⟨R, o, none⟩ u) (some R) := ⟨rfl, rfl, rfl, by simp [World.setCell], fun k _ hk => Below.heap_setCell _ _ _ _ (fun e => hk (by simp [e]))⟩
/-- The rounds of Deep. -/
def DRnd (w : World) (pre : List Nat) (W : World) : Prop := Ext w W ∧ w.heap.size + 3 ≤ W.heap.size ∧ BoxL W w.heap.size [.int .i64 (1 + (pre.length : Int))]
theorem DRnd.own (w : World) : OwnFrom (w.heap.size + 3) (DRnd w) := by
  rintro pre X Y row ⟨h1, h2, h3⟩ hg hr
  exact ⟨h1.grown hg (fun k e => by have := (hr k e).1; omega), Nat.le_trans h2 hg.size, h3.kept hg (fun e => by have := (hr _ e).1; omega)⟩
theorem deep_boxes (w : World) (a : Option Addr) (m c : Nat) (i : Int) (W : World) (hW : ((w.alloc (.cells #[.int .i64 1] 3)).alloc (.cells #[.slice a m c] 34)).alloc (.cells #[.int .i64 i] 3) = W) :
    W.heap.size = w.heap.size + 3 ∧ DRnd w [] W ∧ W.cell? ⟨w.heap.size + 1, 0, none⟩ = some (.slice a m c) ∧ W.cell? ⟨w.heap.size + 2, 0, none⟩ = some (.int .i64 i) := by
  have b1 := BoxL.new w [.int .i64 1] 3
  have b2 := BoxL.new (w.alloc (.cells #[.int .i64 1] 3)) [.slice a m c] 34
  have b3 := BoxL.new ((w.alloc (.cells #[.int .i64 1] 3)).alloc (.cells #[.slice a m c] 34)) [.int .i64 i] 3
  have e1 := (Ext.refl w).alloc (.cells #[.int .i64 1] 3)
  have e2 := (Ext.refl (w.alloc (.cells #[.int .i64 1] 3))).alloc (.cells #[.slice a m c] 34)
  have e3 := (Ext.refl ((w.alloc (.cells #[.int .i64 1] 3)).alloc (.cells #[.slice a m c] 34))).alloc (.cells #[.int .i64 i] 3)
  simp only [World.size_alloc, Nat.add_assoc, Nat.reduceAdd] at b2 b3
  subst hW
  refine ⟨by simp only [World.size_alloc], ⟨(e1.trans e2).trans e3, by simp only [World.size_alloc]; omega, (b1.ext e2).ext e3⟩, ?_, ?_⟩
  · exact (b2.ext e3).cell 0 _ rfl
  · exact b3.cell 0 _ rfl
set_option maxRecDepth 100000 in
set_option maxHeartbeats 2000000 in
theorem deep_any (nd : List Nd) (i : Int) (hO : RightO nd) (w : World) (v : Value) (h : ndE.Row w nd v) :
    Calls Tryd.prog 19 #[v, .int .i64 i] w fun e w' => e = .returned (.int .i64 (deepF nd i)) ∧ Ext w w' := by
  have hfn : ∀ f, Fence.wide.fn f := fun _ => trivial
  have hdp : Fence.wide.depth.isSome = false := rfl
  obtain ⟨a, c, rfl, hc1, hc2⟩ := h.slice
  have HR := Lib.hid h
  have HO := Lib.hid hO
  have HC := Lib.hid (fun W (hW : Ext w W) => scplace_any nd i W _ (h.ext hW))
  have HLn := Lib.hid (upL_len hO i (by omega))
  clear h hO
  refine (callsIn_wide (n := 3)).1 ?_
  refine callsIn_of_wp_marks Tryd.func19 rfl trivial ?_ rfl
  simp only [Tryd.ntmps19, List.size_toArray, List.length_cons, List.length_nil, Nat.reduceAdd, Nat.reduceSub, Array.replicate_succ, Array.replicate_zero, List.push_toArray, List.append_toArray, List.nil_append, List.cons_append]
  cases hpl : placeF nd i with
  | false =>
    rw [hpl] at HC
    have HD := Lib.hid (show deepF nd i = 0 by unfold deepF; rw [hpl]; rfl)
    clear hpl
    gi_wp2_with (gi_at_call 39; refine (callsIn_wide.2 (HC.out _ (Ext.refl w))).mono ?_; rintro e w' ⟨rfl, rfl⟩)
    exact ⟨.int .i64 0, by simp [results, Tryd.results19, go_sem], by rw [HD.out], Ext.refl w⟩
  | true =>
    rw [hpl] at HC
    have HD := Lib.hid (show deepF nd i = 1 + ((upL nd i).length : Int) by unfold deepF upL; rw [hpl, if_pos rfl, if_pos rfl]; omega)
    clear hpl
    obtain ⟨W3, hW3⟩ : ∃ x, ((w.alloc (.cells #[.int .i64 1] 3)).alloc (.cells #[.slice a nd.length c] 34)).alloc (.cells #[.int .i64 i] 3) = x := ⟨_, rfl⟩
    obtain ⟨hz3, hD3, hL3, hI3⟩ := deep_boxes w a _ c i W3 hW3
    have HW3 := Lib.hid hW3
    clear hW3
    gi_wp2_with (first | (gi_at_call 39; refine (callsIn_wide.2 (HC.out _ (Ext.refl w))).mono ?_; rintro e w' ⟨rfl, rfl⟩) | (gi_at_call 40; refine (callsIn_wide.2 (up_any a _ c i _)).mono ?_; rintro e w' ⟨rfl, rfl⟩))
    rw [HW3.out]
    simp only [Nat.add_assoc, Nat.reduceAdd]
    refine wpIn_rangeFunc_ab rfl (by decide) (gf := 68) (lb := #[.pointer (some ⟨w.heap.size + 1, 0, none⟩), .pointer (some ⟨w.heap.size + 2, 0, none⟩)]) rfl trivial (enters_of Tryd.func68 (by kernel_rfl) rfl)
      (up1_stops _ _ _ nd _ i HO.out w W3 HR.out hD3.1 (by omega) (by omega) hL3 hI3) (Below.refl _ _) (fun _ => rfl)
      (fun _ _ h => h.elim) (fun h k => h.trans k) (fun X l o o' hl ho hc => KpU.put X l o o' (by omega) (by omega) ho)
      (DRnd w) (fun _ _ _ => False) (by rw [hz3]; exact DRnd.own w) (fun c s X Y row h => h.elim) (fun _ _ _ _ h => h.elim) (fun _ _ _ _ _ h => h.elim) hD3
      (fun x => { tmps := #[.slice a nd.length c, .int .i64 i, undef, undef, .int .i64 0, .pointer (some ⟨w.heap.size, 0, none⟩), .slice a nd.length c, .int .i64 i, .bool true, .bool false, .slice a nd.length c, .int .i64 i, .func (.func 68) #[] #[.pointer (some ⟨w.heap.size + 1, 0, none⟩), .pointer (some ⟨w.heap.size + 2, 0, none⟩)], .int .i64 (x : Int), undef, undef, undef], defers := [] }) ?assign ?body ?done ?stop
    case assign =>
      intro l x W K hK
      gi_wp2
      simpa using hK
    case body =>
      rintro l pre x W ⟨hE, hz, hb⟩ ⟨post, hp⟩
      have hln : (pre.length : Int) + 2 ≤ 9223372036854775807 := by
        have := HLn.out
        rw [hp] at this
        simp at this
        omega
      have c0 := hb.cell 0 _ rfl
      have c1 := hb.free 0
      have HK := Lib.hid (show KpU w.heap.size (w.heap.size + 1) W (W.setCell ⟨w.heap.size, 0, none⟩ (.int .i64 (1 + (pre.length : Int) + 1))) from
        ⟨(Below.refl _ _).setCell (p := ⟨w.heap.size, 0, none⟩) (Nat.le_refl _) _, Below.heap_setCell _ _ _ _ (by show w.heap.size + 1 ≠ w.heap.size; omega)⟩)
      have HD := Lib.hid (show DRnd w (pre ++ [x]) (W.setCell ⟨w.heap.size, 0, none⟩ (.int .i64 (1 + (pre.length : Int) + 1))) from
        ⟨hE.setCell (p := ⟨w.heap.size, 0, none⟩) (Nat.le_refl _) _, by rw [World.size_setCell]; exact hz, by
          have := hb.set 0 (by simp) (.int .i64 (1 + (pre.length : Int) + 1))
          rwa [show ([Value.int .i64 (1 + (pre.length : Int))].set 0 (.int .i64 (1 + (pre.length : Int) + 1))) = [.int .i64 (1 + ((pre ++ [x]).length : Int))] by simp; omega] at this⟩)
      have HF := Lib.hid (KeepsFrom.of_grownBy (B := w.heap.size + 3) (grown_setI W w.heap.size 0 (.int .i64 (1 + (pre.length : Int) + 1))) (fun j e => by injection e with e; omega))
      clear hE hz hb hp hD3 hL3 hI3
      gi_wp2
      rw [hz3]
      exact ⟨HF.out, HK.out, HD.out⟩
    case done =>
      rintro D xs W hD rfl ⟨hE, hz, hb⟩ hK
      have c0 := hb.cell 0 _ rfl
      have HE := Lib.hid hE
      have HK := Lib.hid hK
      rw [hz3] at hD
      clear hE hb hD3 hL3 hI3 hK
      gi_wp2
      refine ⟨by simp, .inl ⟨_, _, rfl, run_takeDeferred HK.out, ?_⟩⟩
      refine ⟨.int .i64 (1 + ((upL nd i).length : Int)), by simp [results, Tryd.results19, go_sem], by rw [HD.out], HE.out.grown (grownBy_putObj' W D (.deferred none)) (fun k e => by injection e with e; omega)⟩
    case stop =>
      rintro D cd pre W hD - h hK
      exact h.elim
end Go.Proofs.YtgclfmdpapadnaaDoor

namespace Fm
open Go Go.RowKit

def FRow (w : World) (B : Nat) (fs : List Fld) : Prop := B < w.heap.size ∧ ∀ (i j : Nat) (hi : i < fs.length), j < 3 → w.cell? ⟨B, i * 3 + j, none⟩ = (fdCells fs[i])[j]?
theorem FRow.kept {w w' : World} {B : Nat} {fs : List Fld} {row : Option Nat} (h : FRow w B fs) (hg : w.grownBy w' row) (hr : row ≠ some B) : FRow w' B fs :=
  ⟨Nat.lt_of_lt_of_le h.1 hg.size, fun i j hi hj => (hg.cell_far ⟨B, _, none⟩ h.1 (fun e => hr e.symm)).trans (h.2 i j hi hj)⟩
theorem FRow.ext {w w' : World} {B : Nat} {fs : List Fld} (h : FRow w B fs) (hE : Ext w w') : FRow w' B fs :=
  ⟨Nat.lt_of_lt_of_le h.1 hE.size, fun i j hi hj => (hE.cell (p := ⟨B, _, none⟩) h.1).trans (h.2 i j hi hj)⟩
theorem FRow.new (w : World) (fs : List Fld) (e : TypeId) : FRow (w.alloc (.cells (fdsCells fs).toArray e)) w.heap.size fs := by
  refine ⟨by simp, fun i j hi hj => ?_⟩
  have := heap_alloc_new w (.cells (fdsCells fs).toArray e)
  simp only [World.cell?, this]
  show (fdsCells fs).toArray[i * 3 + j]? = _
  rw [List.getElem?_toArray, fdsCells_at fs i j hi hj]
/-- Fields that are told, in a new block. -/
def FdsNew (w : World) (fs : List Fld) (e : Ending) (w' : World) : Prop :=
  ∃ B, e = .returned (.slice (some ⟨B, 0, none⟩) fs.length fs.length) ∧ w.heap.size ≤ B ∧ FRow w' B fs ∧ fdE.Row w' fs (.slice (some ⟨B, 0, none⟩) fs.length fs.length) ∧ Ext w w'
theorem FdsNew.new (w w2 : World) (fs : List Fld) (e : TypeId) (h : Ext w w2) (hl : fs.length ≤ 1000) : FdsNew w fs (.returned (.slice (some ⟨w2.heap.size, 0, none⟩) fs.length fs.length)) (w2.alloc (.cells (fdsCells fs).toArray e)) :=
  ⟨w2.heap.size, rfl, h.size, FRow.new w2 fs e, fdRow_new w2 fs e hl, h.alloc _⟩
theorem FdsNew.post {w : World} {fs : List Fld} {e : Ending} {w' : World} (h : FdsNew w fs e w') : FdsPost w fs e w' := by
  obtain ⟨B, h1, h2, h3, h4, h5⟩ := h
  exact ⟨_, h1, h4, h5⟩
end Fm

namespace Fm
open Go Go.RowKit

structure NSt (w wr : World) (R : Nat) (ps vs ks : List Value) : Prop where
  g : w.grownBy wr (some R)
  pb : BoxL wr w.heap.size ps
  bv : BoxL wr (w.heap.size + 1) vs
  bk : BoxL wr (w.heap.size + 1 + 1) ks
  hR : R < w.heap.size
theorem NSt.then {w wr wx : World} {R : Nat} {ps vs ks : List Value} (h : NSt w wr R ps vs ks) (hE : Ext wr wx) : NSt w wx R ps vs ks :=
  ⟨grown_trans h.g (grown_ext hE _), h.pb.ext hE, h.bv.ext hE, h.bk.ext hE, h.hR⟩
theorem NSt.step {w wr wx : World} {R : Nat} {ps vs ks : List Value} (h : NSt w wr R ps vs ks) (hg : wr.grownBy wx (some R)) : NSt w wx R ps vs ks := by
  have a := h.hR
  exact ⟨grown_trans h.g hg, h.pb.kept hg (fun e => by injection e with e; omega), h.bv.kept hg (fun e => by injection e with e; omega), h.bk.kept hg (fun e => by injection e with e; omega), a⟩
theorem NSt.far {w wr wx : World} {R : Nat} {ps vs ks : List Value} (h : NSt w wr R ps vs ks) {row : Option Nat} (hg : wr.grownBy wx row) (hr : ∀ k, row = some k → w.heap.size + 1 + 1 < k) : NSt w wx R ps vs ks := by
  have a := h.hR
  exact ⟨grown_row' h.g hg (fun x hx => by have := hr x hx; omega), h.pb.kept hg (fun e => by have := hr _ e; omega), h.bv.kept hg (fun e => by have := hr _ e; omega), h.bk.kept hg (fun e => by have := hr _ e; omega), a⟩
def ndZ : List Value := [.string { data := #[] }, .string { data := #[] }, .int .u8 0, .int .i64 0, .int .i64 0, .int .i64 0, .slice none 0 0, .int .i64 0, .int .i64 0, .int .u8 0, .int .i64 0, .int .i64 0, .int .u8 0, .int .i64 0, .string { data := #[] }, .slice none 0 0]

theorem BoxL.has {w : World} {b : Nat} {vs : List Value} (h : BoxL w b vs) (j : Nat) (hj : j < vs.length) : ∃ u, w.cell? ⟨b, j, none⟩ = some u ∧ w.frozen? ⟨b, j, none⟩ = false :=
  ⟨_, h.cell j _ (List.getElem?_eq_getElem hj), h.free j⟩
/-- Numbers in a row of one's own. -/
def OwnN (e : TypeId) (base : Nat) (w : World) (v : Value) (l : List Int) : Prop := w.ownsRow base e 1 v l.length (l.map (Value.int .i64))
theorem OwnN.nil (e : TypeId) (base : Nat) (w : World) : OwnN e base w (.slice none 0 0) [] := World.ownsRow_nil w base e 1
theorem OwnN.ext {e : TypeId} {base : Nat} {w w' : World} {v : Value} {l : List Int} (h : OwnN e base w v l) (hE : Ext w w') : OwnN e base w' v l := hE.own h
theorem OwnN.mono {e : TypeId} {base base' : Nat} {w : World} {v : Value} {l : List Int} (h : OwnN e base w v l) (hb : base' ≤ base) : OwnN e base' w v l := ownsRow_base h hb
theorem OwnN.kept {e : TypeId} {base : Nat} {w w' : World} {v : Value} {l : List Int} {row : Option Nat} (h : OwnN e base w v l) (hg : w.grownBy w' row) (hr : ∀ b, row = some b → b < base) : OwnN e base w' v l := by
  refine World.ownsRow.kept h hg ?_
  cases hv : v.ownBlock with
  | none => exact .inl rfl
  | some b => right; intro e; have := hr b e.symm; have := (World.ownsRow.lt h b hv).1; omega
theorem OwnN.row {e : TypeId} {base : Nat} {w : World} {v : Value} {l : List Int} (h : OwnN e base w v l) (hl : ∀ i, i ∈ l → isI64 i) : intE.Row w l v := by
  have hc := fun g => World.ownsRow.cells h (g := g)
  rcases h.2 with ⟨rfl, h0⟩ | ⟨g, cap, cur, rfl, hb, hg, h1, h2, h5, h6⟩
  · have : l = [] := List.eq_nil_of_length_eq_zero h0
    subst this
    exact Elem.Row.void intE w none
  · refine Elem.Row.mk rfl h1 h2 (Array.getElem?_eq_some_iff.1 hg).1 (fun i hi => ⟨fun _ => .int .i64 l[i], ⟨rfl, hl _ (List.getElem_mem hi)⟩, fun j hj => ?_⟩)
    have hj0 : j = 0 := by have : j < 1 := hj; omega
    subst hj0
    have := hc g rfl i (.int .i64 l[i]) (by simp [hi])
    rw [Addr.add_lit] at this
    show w.cell? ⟨g, 0 + (i * 1 + 0), none⟩ = _
    rw [show 0 + (i * 1 + 0) = 0 + i by omega]
    exact this
theorem setCells_grown (b : Nat) : ∀ (vs : List Value) (o : Nat) (w : World), w.grownBy (w.setCells b o vs) (some b)
  | [], o, w => ⟨rfl, rfl, rfl, Nat.le_refl _, fun _ _ _ => rfl⟩
  | v :: r, o, w => by rw [World.setCells]; exact grown_trans (setOne_grown w b o v) (setCells_grown b r (o + 1) _)
theorem BoxL.range {w : World} {b : Nat} {vs : List Value} (h : BoxL w b vs) : w.rangeAt b 0 vs := fun j v hv => by rw [Nat.zero_add]; exact h.cell j v hv
theorem BoxL.there {w : World} {b n : Nat} {vs : List Value} (h : BoxL w b vs) (hn : n ≤ vs.length) : w.there b 0 n := fun j hj => by
  rw [Nat.zero_add]
  exact ⟨by rw [h.cell j _ (List.getElem?_eq_getElem (by omega))]; rfl, h.free j⟩
end Fm

open Go.RowKit Go.Shelf
namespace Go.Proofs.YtgclfmdpapadnaaDoor
open Go Go.Proofs Fm
attribute [local go_sem] Oper.semAt_some

theorem info_intE : (Tryd.prog.info? 3).map (fun i => (i.zero, i.size, i.bytes)) = some (some (.int .i64 0), 1, 8) := by kernel_rfl
/-- Places as numbers. -/
def natsI (l : List Nat) : List Int := l.map (fun (o : Nat) => (o : Int))
theorem natsI_len (l : List Nat) : (natsI l).length = l.length := List.length_map _
theorem upL_short {nd : List Nd} (hO : RightO nd) (i : Int) : (upL nd i).length ≤ nd.length := by
  unfold upL
  cases h : placeF nd i with
  | false => simp
  | true =>
    obtain ⟨h0, h1⟩ : 0 ≤ i ∧ i < nd.length := by unfold placeF at h; simpa using h
    have := chainO_len hO i.toNat (by omega)
    rw [if_pos rfl]
    omega
theorem ownsRow_sl {W : World} {base size k : Nat} {e : TypeId} {v : Value} {xs : List Value} (h : W.ownsRow base e size v k xs) : ∃ A c, v = .slice A k c := by
  rcases h.2 with ⟨rfl, h0⟩ | ⟨g, cap, _, rfl, _⟩
  · exact ⟨none, 0, by rw [h0]⟩
  · exact ⟨_, _, rfl⟩
/-- The rounds of AppendSeq. -/
def CRnd (w : World) (pre : List Nat) (W : World) : Prop := (∃ v, Boxed W w.heap.size 33 v ∧ W.ownsRow w.heap.size 3 1 v (natsI pre).length ((natsI pre).map (Value.int .i64)) ∧ (fun (_ : List Nat) (_ : Value) => True) pre v) ∧ Below w.heap.size w W
theorem CRnd.own (w : World) (B : Nat) (hB : w.heap.size ≤ B) : OwnFrom B (CRnd w) :=
  OwnFrom.and (Own.from (holdsRow_own w.heap.size w.heap.size 33 3 1 (fun pre => (natsI pre).length) (fun pre => (natsI pre).map (Value.int .i64)) (fun _ _ => True)) _) (ownFrom_below (Nat.le_refl _) hB)
set_option maxRecDepth 100000 in
set_option maxHeartbeats 2000000 in
theorem appendUp_any (nd : List Nd) (i : Int) (hO : RightO nd) (hl : nd.length ≤ 1000000) (w0 w : World) (v : Value) (h : ndE.Row w0 nd v) (hE : Ext w0 w) (bL bI : Nat) (hbL : bL < w.heap.size) (hbI : bI < w.heap.size) (hL : w.cell? ⟨bL, 0, none⟩ = some v) (hI : w.cell? ⟨bI, 0, none⟩ = some (.int .i64 i)) :
    Calls Tryd.prog 69 #[.slice none 0 0, .func (.func 68) #[] #[.pointer (some ⟨bL, 0, none⟩), .pointer (some ⟨bI, 0, none⟩)]] w fun e w' =>
      ∃ v', e = .returned v' ∧ OwnN 3 w.heap.size w' v' (natsI (upL nd i)) ∧ Ext w w' := by
  have hfn : ∀ f, Fence.wide.fn f := fun _ => trivial
  have hdp : Fence.wide.depth.isSome = false := rfl
  obtain ⟨i0, hi, hz0, hz1, hz2⟩ := info_parts info_intE
  have HR := Lib.hid h
  have HO := Lib.hid hO
  have HLn := Lib.hid (upL_short hO i)
  clear h hO
  refine (callsIn_wide (n := 3)).1 ?_
  refine callsIn_of_wp_marks Tryd.func69 rfl trivial ?_ rfl
  simp only [Tryd.ntmps69, List.size_toArray, List.length_cons, List.length_nil, Nat.reduceAdd, Nat.reduceSub, Array.replicate_succ, Array.replicate_zero, List.push_toArray, List.append_toArray, List.nil_append, List.cons_append]
  gi_wp2_with fail
  have bO := Boxed.new w 33 (.slice none 0 0)
  have hB0 : Below w.heap.size w (w.alloc (.cells #[.slice none 0 0] 33)) := (Below.refl _ w).alloc (Nat.le_refl _) _
  refine wpIn_rangeFunc_ab rfl (by decide) (gf := 68) (lb := #[.pointer (some ⟨bL, 0, none⟩), .pointer (some ⟨bI, 0, none⟩)]) rfl trivial (enters_of Tryd.func68 (by kernel_rfl) rfl)
    (up1_stops _ _ _ nd _ i HO.out w0 w HR.out hE hbL hbI hL hI) hB0 (fun _ => rfl)
    (fun _ _ h => h.elim) (fun h k => h.trans k) (fun X l o o' hl ho hc => KpU.put X l o o' (by have := hE.size; simp at hl; omega) (by simp at hl; omega) ho)
    (CRnd w) (fun _ _ _ => False) (CRnd.own w _ (by simp)) (fun c s X Y row h => h.elim) (fun _ _ _ _ h => h.elim) (fun _ _ _ _ _ h => h.elim)
    ⟨⟨_, bO, World.ownsRow_nil _ _ _ _, trivial⟩, hB0⟩
    (fun x => { tmps := #[.slice none 0 0, .func (.func 68) #[] #[.pointer (some ⟨bL, 0, none⟩), .pointer (some ⟨bI, 0, none⟩)], .pointer (some ⟨w.heap.size, 0, none⟩), undef, .slice none 0 0, .int .i64 (x : Int), .func (.func 68) #[] #[.pointer (some ⟨bL, 0, none⟩), .pointer (some ⟨bI, 0, none⟩)], .int .i64 (x : Int), undef, undef, undef, undef, undef], defers := [] }) ?assign ?body ?done ?stop
  case assign =>
    intro l x W K hK
    gi_wp2
    exact hK
  case body =>
    rintro l pre x W ⟨⟨v, hv, hrow, -⟩, hB⟩ ⟨post, hp⟩
    have hpl : (natsI pre).length + 1 ≤ 1000000 := by
      have := HLn.out
      rw [hp] at this
      rw [natsI_len]
      simp at this
      omega
    have hc := hv.cell
    gi_wp2_with (gi_at_builtin; refine wpListIn_append_own _ rfl _ _ 33 rfl w.heap.size 3 i0 (.int .i64 0) 1 8 Tryd.underlying33 hi hz0 hz1 hz2 rfl (by decide) _ _ _ rfl (hrow.alloc _) ⟨W.heap.size, 0, none⟩ 1 1 [.int .i64 x] rfl rfl (cell_one_new _ _ _) (by simp [Value.oneCell']) (by unfold maxLen; omega) (by omega) (by have := hB.size; simp; omega) ?_; intro v' w1 hown' hgrow _; obtain ⟨g', cap', rfl⟩ := ownsRow_succ hown'; obtain ⟨hv1, hv2, hr2, hk2, hb2⟩ := hv.appended (by decide) hrow hB.size (Nat.le_refl _) hown' hgrow; have hc1 := hv1.cell; have hf1 := hv1.frozen)
    have hkk : KpU w0.heap.size bL W (w1.setCell ⟨w.heap.size, 0, none⟩ (.slice (some ⟨g', 0, none⟩) ((natsI pre).length + 1) cap')) := ⟨hb2.mono hE.size, hb2.block _ hbL⟩
    exact ⟨hk2.from _, hkk, ⟨_, hv2, by unfold natsI at hr2 ⊢; simpa using hr2, trivial⟩, hB.trans hb2⟩
  case done =>
    rintro D ys W hD rfl ⟨⟨v, hv, hrow, -⟩, hB⟩ hK
    have hc := hv.cell
    gi_wp2
    refine ⟨by simp, .inl ⟨_, _, rfl, run_takeDeferred hK, ?_⟩⟩
    exact ⟨_, results_tmp rfl _ _ _, v, rfl, ownsRow_putObj hrow _ hK rfl, hB.trans (belowK_b (w := w) (Nat.le_refl _) W D _ _ (by simp at hD; omega) hK rfl rfl)⟩
  case stop =>
    rintro D c pre W _ _ h _
    exact h.elim
set_option maxHeartbeats 1000000 in
theorem collectUp_any (nd : List Nd) (i : Int) (hO : RightO nd) (hl : nd.length ≤ 1000000) (w0 w : World) (v : Value) (h : ndE.Row w0 nd v) (hE : Ext w0 w) (bL bI : Nat) (hbL : bL < w.heap.size) (hbI : bI < w.heap.size) (hL : w.cell? ⟨bL, 0, none⟩ = some v) (hI : w.cell? ⟨bI, 0, none⟩ = some (.int .i64 i)) :
    Calls Tryd.prog 41 #[.func (.func 68) #[] #[.pointer (some ⟨bL, 0, none⟩), .pointer (some ⟨bI, 0, none⟩)]] w fun e w' =>
      ∃ v', e = .returned v' ∧ OwnN 3 w.heap.size w' v' (natsI (upL nd i)) ∧ Ext w w' := by
  have HA := Lib.hid (appendUp_any nd i hO hl w0 w v h hE bL bI hbL hbI hL hI)
  clear hO h hL hI
  go_enter Tryd.func41, Tryd.ntmps41
  go_wp2_with fail
  refine HA.out.mono ?_
  rintro e w' ⟨v', rfl, hn, hE'⟩
  have HN := Lib.hid hn
  have HE' := Lib.hid hE'
  obtain ⟨A, c, rfl⟩ := ownsRow_sl hn
  clear hn hE'
  go_wp2
  go_ret
  exact ⟨_, rfl, HN.out, HE'.out⟩
set_option maxHeartbeats 1000000 in
theorem chain_any (nd : List Nd) (i : Int) (hO : RightO nd) (hl : nd.length ≤ 1000000) (w : World) (v : Value) (h : ndE.Row w nd v) :
    Calls Tryd.prog 20 #[v, .int .i64 i] w fun e w' => ∃ v', e = .returned v' ∧ OwnN 3 w.heap.size w' v' (natsI (upL nd i)) ∧ Ext w w' := by
  obtain ⟨a, c, rfl, hc1, hc2⟩ := h.slice
  have b2 := BoxL.new w [.slice a nd.length c] 34
  have b3 := BoxL.new (w.alloc (.cells #[.slice a nd.length c] 34)) [.int .i64 i] 3
  have e2 := (Ext.refl w).alloc (.cells #[.slice a nd.length c] 34)
  have e3 := (Ext.refl (w.alloc (.cells #[.slice a nd.length c] 34))).alloc (.cells #[.int .i64 i] 3)
  simp only [World.size_alloc] at b3
  have HA := Lib.hid (collectUp_any nd i hO hl w _ _ h (e2.trans e3) w.heap.size (w.heap.size + 1) (by simp; omega) (by simp) ((b2.ext e3).cell 0 _ rfl) (b3.cell 0 _ rfl))
  have HE := Lib.hid (e2.trans e3)
  clear hO h b2 b3 e2 e3
  go_enter Tryd.func20, Tryd.ntmps20
  go_wp2_with fail
  refine (up_any a _ c i _).mono ?_
  rintro e w' ⟨rfl, rfl⟩
  go_wp2_with fail
  refine HA.out.mono ?_
  rintro e w' ⟨v', rfl, hn, hE'⟩
  have HN := Lib.hid hn
  have HE' := Lib.hid hE'
  obtain ⟨A, c', rfl⟩ := ownsRow_sl hn
  clear hn hE'
  go_wp2
  go_ret
  exact ⟨_, rfl, HN.out.mono (by simp; omega), HE.out.trans HE'.out⟩
set_option maxHeartbeats 1000000 in
theorem owners_any (nd : List Nd) (i : Int) (hO : RightO nd) (hl : nd.length ≤ 1000000) (w : World) (v : Value) (h : ndE.Row w nd v) :
    Calls Tryd.prog 82 #[v, .int .i64 i] w fun e w' => ∃ v', e = .returned v' ∧ OwnN 3 w.heap.size w' v' (natsI (upL nd i) ++ [-1]) ∧ Ext w w' := by
  have hfn : ∀ f, Fence.wide.fn f := fun _ => trivial
  have hdp : Fence.wide.depth.isSome = false := rfl
  obtain ⟨i0, hi, hz0, hz1, hz2⟩ := info_parts info_intE
  obtain ⟨a, c, rfl, hc1, hc2⟩ := h.slice
  have HA := Lib.hid (chain_any nd i hO hl w _ h)
  have HL := Lib.hid (upL_short hO i)
  clear hO h
  refine (callsIn_wide (n := 3)).1 ?_
  refine callsIn_of_wp Tryd.func82 rfl trivial ?_ rfl
  simp only [Tryd.ntmps82, List.size_toArray, List.length_cons, List.length_nil, Nat.reduceAdd, Nat.reduceSub, Array.replicate_succ, Array.replicate_zero, List.push_toArray, List.append_toArray, List.nil_append, List.cons_append]
  gi_wp2_with fail
  refine (callsIn_wide.2 HA.out).mono ?_
  rintro e w' ⟨v', rfl, hn, hE'⟩
  have HN := Lib.hid hn
  have HE' := Lib.hid hE'
  obtain ⟨A, c, rfl⟩ := ownsRow_sl hn
  have hz := hE'.size
  have hln : (natsI (upL nd i)).length + 1 ≤ 1000001 := by have := HL.out; rw [natsI_len]; omega
  clear hE'
  gi_wp2_with (gi_at_builtin; refine wpListIn_append_own _ rfl _ _ 33 rfl w.heap.size 3 i0 (.int .i64 0) 1 8 Tryd.underlying33 hi hz0 hz1 hz2 rfl (by decide) _ _ _ rfl (World.ownsRow.alloc hn _) ⟨w'.heap.size, 0, none⟩ 1 1 [.int .i64 (-1)] rfl rfl (cell_one_new _ _ _) (by simp [Value.oneCell']) (by unfold maxLen; omega) (by omega) (by simp; omega) ?_; intro v' w1 hown' hgrow _; obtain ⟨g', cap', rfl⟩ := ownsRow_succ hown')
  go_ret
  refine ⟨_, rfl, ?_, ?_⟩
  · unfold OwnN; simpa using hown'
  · exact (HE'.out.alloc _).grown hgrow (fun k e => (World.ownsRow.lt hn k e).1)
end Go.Proofs.YtgclfmdpapadnaaDoor

namespace Go.Proofs.YtgclfmdpapadnaaDoor
open Go Go.Proofs Fm Go.RowKit

theorem laidOutK : laidOutB Tryd.prog = true := by kernel_rfl
theorem rowK : (100 : TypeId) < Tryd.prog.types.size := of_decide_eq_true (by kernel_rfl)
set_option maxRecDepth 100000 in
theorem typeK : Tryd.prog.keyTypeAt 2 100 = true := by kernel_rfl
theorem lawK : Maps.Keyed Tryd.prog 100 := Maps.Keyed.of_law (deep_law_laid laidOutK (m := 2) (by omega) rowK typeK (by rw [Tryd.underlying100]))
/-- A key's bytes. -/
def kb (f o : Int) (s : List UInt8) : List UInt8 := keyBytes [.int .i64 f, .int .i64 o, .string s]
def KOk (f o : Int) (s : List UInt8) : Prop := isI64 f ∧ isI64 o ∧ s.length ≤ 9223372036854775807
theorem wf_i64 {f : Int} (h : isI64 f) : (Lit.int .i64 f).wf = true := by
  unfold isI64 at h
  simp [Lit.wf, IntKind.min, IntKind.max, IntKind.signed, IntKind.bits]
  omega
theorem kb_inj {f o f' o' : Int} {s s' : List UInt8} (h : KOk f o s) (h' : KOk f' o' s') (e : kb f o s = kb f' o' s') : f = f' ∧ o = o' ∧ s = s' := by
  have hw : ∀ {f o : Int} {s : List UInt8}, KOk f o s → ∀ a ∈ [Lit.int .i64 f, Lit.int .i64 o, Lit.string s], a.keyWf := by
    intro f o s h a ha
    simp only [List.mem_cons, List.not_mem_nil, or_false] at ha
    rcases ha with rfl | rfl | rfl
    · exact wf_i64 h.1
    · exact wf_i64 h.2.1
    · show s.length ≤ maxLen
      unfold maxLen
      have := h.2.2
      omega
  have ha : Alike [Lit.int .i64 f, Lit.int .i64 o, Lit.string s] [Lit.int .i64 f', Lit.int .i64 o', Lit.string s'] := ⟨rfl, rfl, trivial, trivial⟩
  have := Go.keyBytes_inj ha (hw h) (hw h') e
  simp at this
  exact this
theorem key_kb {f o : Int} {s : List UInt8} (h : KOk f o s) : keyOf Tryd.prog 100 (.agg #[.int .i64 f, .int .i64 o, .string (str s)]) = some (.string (kb f o s)) := by
  have hs : s.length ≤ maxLen := by have := h.2.2; unfold maxLen; omega
  have h1 := wf_i64 h.1
  have h2 := wf_i64 h.2.1
  have e1 : Tryd.prog.keyType 100 = true := by kernel_rfl
  obtain ⟨d, hd⟩ : ∃ d, Tryd.prog.types.size = d + 1 := ⟨_, rfl⟩
  unfold keyOf
  rw [Tryd.underlying100]
  simp only [e1, hd, Bool.true_and]
  have hc : Tryd.prog.cellsOf 100 = 3 := by kernel_rfl
  have hi : Tryd.prog.cellsOf 3 = 1 := by kernel_rfl
  have ht : Tryd.prog.cellsOf 9 = 1 := by kernel_rfl
  have hz : (str s).size ≤ maxLen := by rw [str_size]; exact hs
  have hd2 : (str s).data.toList = s := str_list s
  rw [if_pos (by simp [Value.formed, Tryd.underlying100, hc])]
  simp only [Value.cells, Program.keyLits, Tryd.underlying100]
  rw [if_pos ⟨by rw [hc]; rfl, by simp⟩]
  simp [hi, ht, Tryd.underlying3, Tryd.underlying9, h1, h2, hz, hd2, kb]
theorem zero_intK (w : World) : (zeroValue 3).run Tryd.prog w = .ok (.int .i64 0) w := Tryd.zeroValue3 w
def placeD (i : Nat) : DataW Unit := .lit (.int .i64 (i : Int))
/-- Block b maps keys to places. -/
def KMap (w : World) (b n : Nat) (g : Int → Int → List UInt8 → Option Nat) : Prop :=
  ∃ D : DataW Unit, w.ownsMap Tryd.prog 100 (plainElem Tryd.prog 3) b n D ∧ ∀ f o s, KOk f o s → ∀ zd, D.atKey (.string (kb f o s)) zd = ((g f o s).map placeD).getD zd
def kupd (g : Int → Int → List UInt8 → Option Nat) (f o : Int) (s : List UInt8) (i : Nat) : Int → Int → List UInt8 → Option Nat := fun f' o' s' => if f' = f ∧ o' = o ∧ s' = s then some i else g f' o' s'
theorem KMap.new (w : World) : KMap (w.alloc (.map #[] 0)) w.heap.size 0 (fun _ _ _ => none) :=
  ⟨.map [], World.ownsMap_made w _ _ _, fun _ _ _ _ _ => rfl⟩
theorem KMap.kept {w w' : World} {b n : Nat} {g : Int → Int → List UInt8 → Option Nat} {row : Option Nat} (h : KMap w b n g) (hg : w.grownBy w' row) (hne : row ≠ some b) : KMap w' b n g := by
  obtain ⟨D, h1, h2⟩ := h
  exact ⟨D, h1.kept hg (fun e => hne e.symm), h2⟩
theorem KMap.ext {w w' : World} {b n : Nat} {g : Int → Int → List UInt8 → Option Nat} (h : KMap w b n g) (hE : Ext w w') : KMap w' b n g := h.kept hE.grownBy (by simp)
theorem KMap.lt {w : World} {b n : Nat} {g : Int → Int → List UInt8 → Option Nat} (h : KMap w b n g) : b < w.heap.size := by
  obtain ⟨D, h1, _⟩ := h
  exact h1.lt
theorem KMap.look {w : World} {b n : Nat} {g : Int → Int → List UInt8 → Option Nat} (h : KMap w b n g) {f o : Int} {s : List UInt8} (hk : KOk f o s) :
    (Instr.lookup 96 (.map (some b)) (.agg #[.int .i64 f, .int .i64 o, .string (str s)]) true).run Tryd.prog w = .ok (.tuple #[.int .i64 (((g f o s).getD 0 : Nat) : Int), .bool (g f o s).isSome]) w := by
  obtain ⟨D, ⟨es, clock, hb, F, hs, rfl⟩, h2⟩ := h
  have h3 := h2 f o s hk
  rcases Maps.fit_look true lawK Tryd.underlying96 (zero_intK w) hb F (key_kb hk) with ⟨hrun, _, hat⟩ | ⟨e0, y, _, _, hrun, hRv, hat, _⟩
  · have h4 := fun zd => (hat zd).symm.trans (h3 zd)
    rw [hrun]
    cases hg : g f o s with
    | none => rfl
    | some i =>
      have := h4 .nil
      rw [hg] at this
      cases this
  · have h4 := fun zd => (hat zd).symm.trans (h3 zd)
    rw [hrun]
    obtain ⟨c, hc, hc2, _⟩ := plainElem_int_inv Tryd.underlying3 (show plainElem Tryd.prog 3 e0.val = some (y.1, y.2) from hRv)
    simp only [Prod.mk.injEq] at hc2
    cases hg : g f o s with
    | none =>
      rw [hg] at h4
      have e1 := h4 .nil
      have e2 := h4 (.map [])
      rw [e1] at e2
      cases e2
    | some i =>
      have := h4 .nil
      rw [hg, hc2.1] at this
      simp [placeD] at this
      rw [hc, this]
      rfl
/-- A store into it. -/
theorem wpList_kput {w : World} {ops : Array Oper} {rest : List Oper} {o : Oper} {a : Act} {Q : Exit → Act → World → Prop} (hg : o.guard = none) (m x v : Operand) (hop : o.op = Op.mapUpdate 96 m x v)
    {b n : Nat} {g : Int → Int → List UInt8 → Option Nat} (hm : a.eval m = .map (some b)) (h : KMap w b n g) (hn : n < 9223372036854775807) (f q : Int) (s : List UInt8) (hk : KOk f q s) (hx : a.eval x = .agg #[.int .i64 f, .int .i64 q, .string (str s)]) (i : Nat) (hv : a.eval v = .int .i64 (i : Int)) (hi : i ≤ 9223372036854775807)
    (hK : ∀ w', KMap w' b (n + 1) (kupd g f q s i) → w.grownBy w' (some b) → wpList Tryd.prog ops Q rest (a.put o.dst undef) w') : wpList Tryd.prog ops Q (o :: rest) a w := by
  obtain ⟨D, h1, h2⟩ := h
  have hw : (Lit.int .i64 (i : Int)).wf = true := wf_i64 (by unfold isI64; omega)
  refine wpList_mapUpdate_own w hg m x v _ hop _ _ lawK Tryd.underlying96 _ b n D hm h1 (by unfold maxLen; omega) _ _ (.string (kb f q s)) hx hv (key_kb hk) (.lit (.int .i64 (i : Int))) [] (plainElem_int Tryd.underlying3 hw) (fun w' hown hgrow => hK w' ⟨_, hown, fun f' q' s' hk' zd => ?_⟩ hgrow)
  unfold kupd
  by_cases e : f' = f ∧ q' = q ∧ s' = s
  · obtain ⟨rfl, rfl, rfl⟩ := e
    rw [if_pos ⟨rfl, rfl, rfl⟩, Maps.atKey_put_same h1.isMap (by trivial)]; rfl
  · rw [if_neg e, Maps.atKey_put_other (by intro he; injection he with he; exact e (kb_inj hk' hk he)), h2 f' q' s' hk' zd]
end Go.Proofs.YtgclfmdpapadnaaDoor

open Go.RowKit
namespace Fm
open Go Go.RowKit
/-- 'x := v' of a struct, the cells whatever: the box was made last. -/
theorem wpList_storeBox {P : Program} {ops : Array Oper} {rest : List Oper} {op : Oper} {a : Act} {w : World} {Q : Exit → Act → World → Prop} (hgd : op.guard = none) (ty : TypeId) (x y : Operand) (ho : op.op = .store ty x y)
    (w0 : World) (c : Array Value) (cs : List Value) (b : Nat) (hw : w = w0.alloc (.cells c ty)) (hb : b = w0.heap.size) (hx : a.eval x = .pointer (some ⟨b, 0, none⟩)) (hy : a.eval y = .agg cs.toArray)
    {n : Nat} (hi : (P.info? ty).map (·.size) = some n) (hc : c.size = n) (hn : cs.length = n) (h1 : ∀ u, u ∈ cs → u.oneCell' = true)
    (h : wpList P ops Q rest (a.put op.dst undef) (w0.alloc (.cells cs.toArray ty))) : wpList P ops Q (op :: rest) a w :=
  wpList_plain hgd fun _ hK => by
    subst hw hb hn
    unfold Oper.wp execOp
    simp only [ho, hx, hy, Instr.storeAt, Instr.sureAddr, Sem.run_bind, Sem.run_pure, Result.andThen_ok, run_storeVar_new w0 ty c cs.toArray (by simpa using hi) (by simpa using hc) (all_oneCell_toArray h1)]
    exact hK _ _ h
theorem rangeAt_new (w : World) (cs : List Value) (e : TypeId) : (w.alloc (.cells cs.toArray e)).rangeAt w.heap.size 0 cs := fun j v hv => by
  rw [Nat.zero_add]; exact (BoxL.new w cs e).cell j v hv
end Fm

open Go.RowKit Go.Shelf
namespace Fm
open Go Go.RowKit
/-- A node of a row, whole. -/
theorem nd_rangeC {w wr : World} {l : List Nd} {a : Option Addr} {n cap : Nat} (h : ndE.Row w l (.slice a n cap)) (hE : Ext w wr) (i : Nat) (hi : i < l.length) :
    ∃ (b off : Nat) (Cs : List Value) (aa : Option Addr) (ma ca : Nat) (k0 n0 : Int) (s0 : ByteArray) (a0 : Option Addr) (m0 c0 : Nat), a = some ⟨b, off, none⟩ ∧ b < w.heap.size ∧ Cs = ndCells l[i] (.slice aa ma ca) (.int .u8 k0) (.int .i64 n0) (.string s0) (.slice a0 m0 c0) ∧ wr.rangeAt b (off + i * 16) Cs ∧ NdV w l[i] (.agg Cs.toArray) ∧
      Cs.length = 16 ∧ (∀ u, u ∈ Cs → u.oneCell' = true) := by
  obtain ⟨g, off, rfl, hb, aa, ma, ca, K', N', S', D', ⟨c0, c1, c2, c3, c4, c5, c6, c7, c8, c9, c10, c11, c12, c13, c14, c15⟩, hnv⟩ := nd_at16 h hE i hi
  obtain ⟨k0, n0, s0, a0, m0, d0, rfl, rfl, rfl, rfl⟩ := hnv.four
  refine ⟨g, off, _, aa, ma, ca, k0, n0, s0, a0, m0, d0, rfl, hb, rfl, ?_, hnv, rfl, ?_⟩
  · intro j v hv
    match j, hv with
    | 0, hv => (injection hv with hv; rw [← hv]; exact c0)
    | 1, hv => (injection hv with hv; rw [← hv]; exact c1)
    | 2, hv => (injection hv with hv; rw [← hv]; exact c2)
    | 3, hv => (injection hv with hv; rw [← hv]; exact c3)
    | 4, hv => (injection hv with hv; rw [← hv]; exact c4)
    | 5, hv => (injection hv with hv; rw [← hv]; exact c5)
    | 6, hv => (injection hv with hv; rw [← hv]; exact c6)
    | 7, hv => (injection hv with hv; rw [← hv]; exact c7)
    | 8, hv => (injection hv with hv; rw [← hv]; exact c8)
    | 9, hv => (injection hv with hv; rw [← hv]; exact c9)
    | 10, hv => (injection hv with hv; rw [← hv]; exact c10)
    | 11, hv => (injection hv with hv; rw [← hv]; exact c11)
    | 12, hv => (injection hv with hv; rw [← hv]; exact c12)
    | 13, hv => (injection hv with hv; rw [← hv]; exact c13)
    | 14, hv => (injection hv with hv; rw [← hv]; exact c14)
    | 15, hv => (injection hv with hv; rw [← hv]; exact c15)
    | j + 16, hv => cases hv
  · intro u hu
    simp only [ndCells, List.mem_cons, List.not_mem_nil, or_false] at hu
    rcases hu with rfl | rfl | rfl | rfl | rfl | rfl | rfl | rfl | rfl | rfl | rfl | rfl | rfl | rfl | rfl | rfl <;> rfl
/-- One more node. -/
theorem firstK_step {l : List Nd} {j : Nat} (hj : j < l.length) (f o : Int) (s : List UInt8) :
    firstK (l.take (j + 1)) f o s = (firstK (l.take j) f o s).or (if s ≠ [] ∧ isK f o s l[j] = true then some j else none) := by
  unfold firstK
  by_cases hs : s = []
  · simp [hs]
  · rw [if_neg hs, if_neg hs, List.take_succ_eq_append_getElem hj, List.findIdx?_append]
    congr 1
    have hm : min j l.length = j := by omega
    by_cases hk : isK f o s l[j] = true
    · rw [if_pos ⟨hs, hk⟩]; simp [hk, hm]
    · rw [if_neg (fun h => hk h.2)]; simp [hk]
theorem isK_iff {f o : Int} {s : List UInt8} {x : Nd} : isK f o s x = true ↔ x.flow = f ∧ x.owner = o ∧ x.name = s := by
  unfold isK; simp
theorem firstK_same {l : List Nd} {j : Nat} (hj : j < l.length) (h : l[j].name = [] ∨ (firstK (l.take j) l[j].flow l[j].owner l[j].name).isSome = true) : firstK (l.take (j + 1)) = firstK (l.take j) := by
  funext f o s
  rw [firstK_step hj]
  by_cases hk : s ≠ [] ∧ isK f o s l[j] = true
  · obtain ⟨rfl, rfl, rfl⟩ := isK_iff.1 hk.2
    rcases h with h | h
    · exact absurd h hk.1
    · obtain ⟨q, hq⟩ := Option.isSome_iff_exists.1 h
      rw [hq]; rfl
  · rw [if_neg hk]
    cases firstK (l.take j) f o s <;> rfl
end Fm
namespace Go.Proofs.YtgclfmdpapadnaaDoor
open Go Go.Proofs Fm
attribute [local go_sem] Oper.semAt_some

theorem sizenode_C : (Tryd.prog.info? 50).map (·.size) = some 16 := by kernel_rfl
theorem KMap.mono {w : World} {b n n' : Nat} {g : Int → Int → List UInt8 → Option Nat} (h : KMap w b n g) (hn : n ≤ n') : KMap w b n' g := by
  obtain ⟨D, h1, h2⟩ := h
  exact ⟨D, h1.mono hn, h2⟩
theorem firstK_put {l : List Nd} {j : Nat} (hj : j < l.length) (h0 : l[j].name ≠ []) (h : firstK (l.take j) l[j].flow l[j].owner l[j].name = none) : kupd (firstK (l.take j)) l[j].flow l[j].owner l[j].name j = firstK (l.take (j + 1)) := by
  funext f o s
  rw [firstK_step hj]
  unfold kupd
  by_cases hk : f = l[j].flow ∧ o = l[j].owner ∧ s = l[j].name
  · obtain ⟨rfl, rfl, rfl⟩ := hk
    rw [if_pos ⟨rfl, rfl, rfl⟩, h, if_pos ⟨h0, isK_iff.2 ⟨rfl, rfl, rfl⟩⟩]; rfl
  · rw [if_neg hk, if_neg (fun h => hk (by obtain ⟨a, b, c⟩ := isK_iff.1 h.2; exact ⟨a.symm, b.symm, c.symm⟩))]
    cases firstK (l.take j) f o s <;> rfl
set_option maxRecDepth 100000 in
set_option maxHeartbeats 4000000 in
theorem table_any (l : List Nd) (hl : l.length ≤ 1000000) (w : World) (v : Value) (h : ndE.Row w l v) :
    Calls Tryd.prog 81 #[v] w fun e w' => ∃ (B : Nat) (tw : Bool), e = .returned (.tuple #[.map (some B), .bool tw]) ∧ w.heap.size ≤ B ∧ KMap w' B l.length (firstK l) ∧ Ext w w' := by
  have HR := Lib.hid h
  obtain ⟨a, c, rfl, hc1, hc2⟩ := h.slice
  have HM := Lib.hid (KMap.new w)
  have HE := Lib.hid ((Ext.refl w).alloc (.map #[] 0))
  have hmm := @run_makeMap Tryd.prog
  clear h
  go_enter Tryd.func81, Tryd.ntmps81
  go_wp2_with fail
  generalize hLN : l.length = LN at *
  have HLN := Lib.hid hLN
  clear hLN hmm
  go_loopw [5, 14] (fun tw i wr => ∃ (b : Bool) (j : Nat), tw = .bool b ∧ j ≤ LN ∧ i = .int .i64 j ∧ Hid (Ext w wr) ∧ Hid (KMap wr w.heap.size j (firstK (l.take j)))) (fun _ i _ => LN - (intOf i).toNat)
  case atStart => exact ⟨false, 0, rfl, by omega, rfl, HE, Lib.hid (by have e : firstK (l.take 0) = fun _ _ _ => none := (by funext f o s; unfold firstK; simp); rw [e]; exact HM.out)⟩
  case round =>
    clear HM HE
    obtain ⟨tw, j, rfl, hj, rfl, HE, HM⟩ := hrel
    by_cases hlt : j < LN
    case neg =>
      obtain rfl : j = LN := by omega
      have HM' := Lib.hid (show KMap wr w.heap.size l.length (firstK l) by have := HM.out; rw [← HLN.out, List.take_length] at this; exact this)
      clear HM
      go_wp2
      go_ret2
      exact ⟨_, tw, rfl, Nat.le_refl _, HM'.out, HE.out⟩
    have hi : j < l.length := by have := HLN.out; omega
    obtain ⟨g, off, Cs, aa, ma, ca, k0, n0, s0, a0, m0, c0, rfl, hb, hCs, hrg, hnv, hl16, hone⟩ := nd_rangeC HR.out HE.out j hi
    have hwf := hnv.wf
    have HKo := Lib.hid (show KOk l[j].flow l[j].owner l[j].name from ⟨hwf.2.2.1, hwf.2.2.2.1, hwf.2.1⟩)
    have HRg := Lib.hid hrg
    have HLn : Hid ((Tryd.prog.info? 50).map (·.size) = some Cs.length) := Lib.hid (by rw [hl16]; exact sizenode_C)
    have HL16 := Lib.hid hl16
    have HN1 := Lib.hid hone
    have HCo : Hid (Cs[1]? = some (.string (str l[j].name)) ∧ Cs[3]? = some (.int .i64 l[j].flow) ∧ Cs[4]? = some (.int .i64 l[j].owner)) := Lib.hid (by rw [hCs]; exact ⟨rfl, rfl, rfl⟩)
    clear hrg hnv hCs hl16 hone hwf
    have hj0 : (0 : Int) ≤ (j : Int) := by omega
    have hj1 : (j : Int) < (LN : Int) := by omega
    go_upto_region 6 with (first | (refine wpList_load_mid rfl _ _ rfl _ _ rfl _ _ HRg.out Tryd.underlying50 rfl HLn.out ?_) | (refine wpList_storeBox rfl _ _ _ rfl _ _ _ _ rfl rfl rfl rfl sizenode_C rfl HL16.out HN1.out ?_))
    have hE1 := (Ext.refl wr).alloc (.cells Cs.toArray 50)
    have hB1 := BoxL.new wr Cs 50
    have HM1 := Lib.hid (HM.out.ext hE1)
    have HE1 := Lib.hid (HE.out.trans hE1)
    generalize wr.alloc (.cells Cs.toArray 50) = W1 at *
    generalize wr.heap.size = NB at *
    have q1 := hB1.cell 1 _ HCo.out.1
    have q3 := hB1.cell 3 _ HCo.out.2.1
    have q4 := hB1.cell 4 _ HCo.out.2.2
    have HB1 := Lib.hid hB1
    clear hE1 hB1 HM HE HRg HLn HN1
    obtain ⟨fl, hfl⟩ : ∃ fl, fl = l[j].flow := ⟨_, rfl⟩
    obtain ⟨ow, how⟩ : ∃ ow, ow = l[j].owner := ⟨_, rfl⟩
    obtain ⟨nm, hnm⟩ : ∃ nm, nm = l[j].name := ⟨_, rfl⟩
    rw [← hfl] at q3
    rw [← how] at q4
    rw [← hnm] at q1
    rw [← hfl, ← how, ← hnm] at HKo
    have HFl := Lib.hid hfl
    have HOw := Lib.hid how
    have HNm := Lib.hid hnm
    clear hfl how hnm
    go_upto_region 7 with (fail)
    have hE2 := (Ext.refl W1).alloc (.cells #[.int .i64 fl, .int .i64 ow, .string (str nm)] 100)
    have hB2 := BoxL.new W1 [.int .i64 fl, .int .i64 ow, .string (str nm)] 100
    have HM2 := Lib.hid (HM1.out.ext hE2)
    have HE2 := Lib.hid (HE1.out.trans hE2)
    have HB1 := Lib.hid (HB1.out.ext hE2)
    generalize W1.alloc (.cells #[.int .i64 fl, .int .i64 ow, .string (str nm)] 100) = W2 at *
    generalize W1.heap.size = KB at *
    clear q1 q3 q4 hE2 HM1 HE1
    have q1 : W2.cell? ⟨NB, 1, none⟩ = some (.string (str nm)) := HB1.out.cell 1 _ (by rw [HCo.out.1, HNm.out])
    have k0 := hB2.cell 0 _ rfl
    have k1 := hB2.cell 1 _ rfl
    have k2 := hB2.cell 2 _ rfl
    have hlook := HM2.out.look HKo.out
    have e1 : (str nm).toList = nm := str_toList nm
    have hne : nm.isEmpty = true ∨ nm.isEmpty = false := by cases nm.isEmpty <;> simp
    cases hf : firstK (l.take j) fl ow nm with
    | some q =>
      rw [hf] at hlook
      have HS := Lib.hid (show firstK (l.take (j + 1)) = firstK (l.take j) from firstK_same hi (.inr (by rw [← HFl.out, ← HOw.out, ← HNm.out, hf]; rfl)))
      simp only [Option.getD_some, Option.isSome_some] at hlook
      clear hf hB2
      have HM3 := Lib.hid (show KMap W2 w.heap.size (j + 1) (firstK (l.take (j + 1))) by rw [HS.out]; exact HM2.out.mono (by omega))
      clear HM2 HS
      cases tw <;> rcases hne with hne | hne <;>
      · go_wp2
        go_roundw
        case rel => exact ⟨_, j + 1, rfl, by omega, by go_num, HE2, HM3⟩
        case measure => simp [intOf]; omega
    | none =>
      rw [hf] at hlook
      simp only [Option.getD_none, Option.isSome_none] at hlook
      rcases hne with hne | hne
      · have HS := Lib.hid (show firstK (l.take (j + 1)) = firstK (l.take j) from firstK_same hi (.inl (by rw [← HNm.out]; simpa using hne)))
        have HM3 := Lib.hid (show KMap W2 w.heap.size (j + 1) (firstK (l.take (j + 1))) by rw [HS.out]; exact HM2.out.mono (by omega))
        clear HM2 HS hf hB2
        cases tw <;>
        · go_wp2
          go_roundw
          case rel => exact ⟨_, j + 1, rfl, by omega, by go_num, HE2, HM3⟩
          case measure => simp [intOf]; omega
      · have HS := Lib.hid (show kupd (firstK (l.take j)) fl ow nm j = firstK (l.take (j + 1)) by rw [HFl.out, HOw.out, HNm.out]; exact firstK_put hi (by rw [← HNm.out]; intro h; rw [h] at hne; cases hne) (by rw [← HFl.out, ← HOw.out, ← HNm.out]; exact hf))
        clear hf hB2
        go_wp2_with (refine wpList_kput rfl _ _ _ rfl rfl HM2.out (by omega) fl ow nm HKo.out rfl j rfl (by omega) ?_; intro w3 hm3 hg3)
        have HM3 := Lib.hid (show KMap w3 w.heap.size (j + 1) (firstK (l.take (j + 1))) by rw [← HS.out]; exact hm3)
        have HE3 := Lib.hid (HE2.out.grown hg3 (fun k hk => by injection hk with hk; omega))
        clear hm3 hg3
        go_roundw
        case rel => exact ⟨_, j + 1, rfl, by omega, by go_num, HE3, HM3⟩
        case measure => simp [intOf]; omega
end Go.Proofs.YtgclfmdpapadnaaDoor

open Go.RowKit Go.Shelf
namespace Fm
open Go Go.RowKit
theorem seenF_no {l : List Nd} {i : Int} (h : placeF l i = false) (s : List UInt8) : seenF l i s = none := by unfold seenF; rw [if_neg (by rw [h]; decide)]
theorem seenF_at {l : List Nd} {i : Nat} (h : placeF l (i : Int) = true) (hi : i < l.length) (s : List UInt8) : seenF l i s = (ownersF l i).findSome? (fun o => firstK l l[i].flow o s) := by
  unfold seenF; rw [if_pos h, nthF_at hi]; rfl
theorem find_on {α β : Type} {f : α → Option β} {l : List α} {j : Nat} (hj : j < l.length) (h : f l[j] = none) : (l.drop j).findSome? f = (l.drop (j + 1)).findSome? f := by
  rw [List.drop_eq_getElem_cons hj, List.findSome?_cons, h]
theorem find_hit {α β : Type} {f : α → Option β} {l : List α} {j : Nat} (hj : j < l.length) {b : β} (h : f l[j] = some b) : (l.drop j).findSome? f = some b := by
  rw [List.drop_eq_getElem_cons hj, List.findSome?_cons, h]
theorem find_end {α β : Type} {f : α → Option β} {l : List α} : (l.drop l.length).findSome? f = none := by simp
end Fm
namespace Go.Proofs.YtgclfmdpapadnaaDoor
open Go Go.Proofs Fm
attribute [local go_sem] Oper.semAt_some

theorem owners_is {l : List Nd} {i : Nat} (h : placeF l (i : Int) = true) : natsI (upL l i) ++ [-1] = ownersF l i := by
  unfold natsI upL ownersF; rw [if_pos h]; rfl
theorem owners_i64 {l : List Nd} (hO : RightO l) (hl : l.length ≤ 1000000) {i : Nat} (hi : i < l.length) : ∀ o, o ∈ ownersF l i → isI64 o := by
  intro o ho
  unfold ownersF at ho
  unfold isI64
  rcases List.mem_append.1 ho with h | h
  · obtain ⟨p, hp, rfl⟩ := List.mem_map.1 h
    have := chainO_lt hO i hi p hp
    omega
  · rw [List.mem_singleton] at h
    omega
theorem owners_short {l : List Nd} (hO : RightO l) {i : Nat} (hi : i < l.length) : (ownersF l i).length ≤ l.length := by
  unfold ownersF
  have := chainO_len hO i hi
  simp
  omega
set_option maxHeartbeats 1000000 in
theorem nmplace_any (l : List Nd) (i : Int) (w : World) (v : Value) (h : ndE.Row w l v) :
    Calls Tryd.prog 42 #[v, .int .i64 i] w fun e w' => e = .returned (.bool (placeF l i)) ∧ w = w' := by
  obtain ⟨a, c, rfl, hc1, hc2⟩ := h.slice
  have HX := Lib.hid (show placeF l i = (decide (0 ≤ i) && decide (i < l.length)) from rfl)
  clear h
  by_cases h0 : 0 ≤ i
  · go_enter Tryd.func42, Tryd.ntmps42
    go_wp2
    go_ret
    exact ⟨by rw [HX.out]; simp [h0], rfl⟩
  · go_enter Tryd.func42, Tryd.ntmps42
    go_wp2
    go_ret
    exact ⟨by rw [HX.out]; simp; omega, rfl⟩
set_option maxRecDepth 100000 in
set_option maxHeartbeats 4000000 in
theorem seen_any (l : List Nd) (hO : RightO l) (hl : l.length ≤ 1000000) (i : Int) (s : List UInt8) (hs : s.length ≤ 9223372036854775807) (w : World) (v : Value) (h : ndE.Row w l v) :
    Calls Tryd.prog 65 #[v, .int .i64 i, .string (str s)] w fun e w' => e = .returned (.tuple #[.int .i64 (((seenF l i s).getD 0 : Nat) : Int), .bool (seenF l i s).isSome]) ∧ Ext w w' := by
  have HR := Lib.hid h
  have HO := Lib.hid hO
  have HP := Lib.hid (nmplace_any l i w v h)
  have HT := Lib.hid (table_any l hl w v h)
  have HW := Lib.hid (fun w1 (hE : Ext w w1) => owners_any l i hO hl w1 v (h.ext hE))
  obtain ⟨a, c, rfl, hc1, hc2⟩ := h.slice
  clear h hO
  go_enter Tryd.func65, Tryd.ntmps65
  go_wp2_with fail
  refine HP.out.mono ?_
  rintro e w1 ⟨rfl, rfl⟩
  clear HP
  cases hpl : placeF l i with
  | false =>
    have HS := Lib.hid (seenF_no hpl s)
    clear hpl
    go_wp2
    go_ret2
    exact ⟨by rw [HS.out]; rfl, Ext.refl w⟩
  | true =>
    obtain ⟨hm0, hm1⟩ : 0 ≤ i ∧ i < l.length := by unfold placeF at hpl; simpa using hpl
    obtain ⟨p, rfl⟩ : ∃ p : Nat, i = (p : Int) := ⟨i.toNat, by omega⟩
    have hp : p < l.length := by omega
    have HS := Lib.hid (seenF_at hpl hp s)
    have HOs := Lib.hid (owners_is hpl)
    have HO6 := Lib.hid (owners_i64 HO.out hl hp)
    have hsh := owners_short HO.out hp
    clear hpl
    go_wp2_with fail
    refine HT.out.mono ?_
    rintro e w1 ⟨B, tw, rfl, hB, hM, hE1⟩
    have HM := Lib.hid hM
    have HE1 := Lib.hid hE1
    have hB1 := hM.lt
    clear HT hM hE1
    go_wp2_with fail
    refine (HW.out w1 HE1.out).mono ?_
    rintro e w2 ⟨v2, rfl, hN, hE2⟩
    rw [HOs.out] at hN
    obtain ⟨A2, c2, rfl⟩ := ownsRow_sl hN
    have HI := Lib.hid (hN.row HO6.out)
    have HM2 := Lib.hid (HM.out.ext hE2)
    have HE2 := Lib.hid (HE1.out.trans hE2)
    obtain ⟨a', c', e', hc3, hc4⟩ := HI.out.slice
    injection e' with e1 e2 e3
    subst e3
    clear HW HOs hN hE2 HM HE1 e1 e2
    obtain ⟨OS, hOS⟩ : ∃ OS, OS = ownersF l p := ⟨_, rfl⟩
    rw [← hOS] at HS HO6 hsh HI hc3 ⊢
    clear hOS
    obtain ⟨g, off, rfl, hg, aa, ma, ca, k0, n0, s0, d0, ⟨x0, x1, x2, x3, x4, x5, x6, x7, x8, x9, x10, x11, x12, x13, x14, x15⟩, hnv⟩ := nd_at16 HR.out HE2.out p hp
    have hwf := hnv.wf
    have HKo := Lib.hid (show isI64 l[p].flow from hwf.2.2.1)
    obtain ⟨fl, hfl⟩ : ∃ fl, fl = l[p].flow := ⟨_, rfl⟩
    rw [← hfl] at x3 HS HKo
    clear x0 x1 x2 x4 x5 x6 x7 x8 x9 x10 x11 x12 x13 x14 x15 hnv hwf hfl HR HO
    obtain ⟨LN, hLN⟩ : ∃ LN, LN = l.length := ⟨_, rfl⟩
    rw [← hLN] at hc1 hm1 hsh hl ⊢
    clear hLN
    go_wp2_with fail
    obtain ⟨ON, hON⟩ : ∃ ON, ON = OS.length := ⟨_, rfl⟩
    rw [← hON] at hc3 hsh HI ⊢
    have HON := Lib.hid hON
    clear hON
    have HF0 : Hid (seenF l p s = (OS.drop 0).findSome? (fun o => firstK l fl o s)) := Lib.hid (by rw [List.drop_zero]; exact HS.out)
    go_loop [27] (fun k => ∃ j : Nat, j ≤ ON ∧ k = .int .i64 j ∧ Hid (seenF l p s = (OS.drop j).findSome? (fun o => firstK l fl o s))) (fun k => ON - (intOf k).toNat)
    case atStart => exact ⟨0, by omega, rfl, HF0⟩
    case round =>
      clear HF0 HS
      obtain ⟨j, hj, rfl, HF⟩ := hrel
      by_cases hlt : j < ON
      case neg =>
        have HN := Lib.hid (show seenF l p s = none by rw [HF.out, show j = OS.length by have := HON.out; omega]; exact find_end)
        go_wp2
        go_ret2
        exact ⟨by rw [HN.out]; rfl, HE2.out⟩
      have hjo : j < OS.length := by have := HON.out; omega
      obtain ⟨b, of2, rfl, hb, hcell, hi6⟩ := int_at HI.out (Ext.refl _) j hjo
      obtain ⟨ow, how⟩ : ∃ ow, ow = OS[j] := ⟨_, rfl⟩
      rw [← how] at hcell hi6
      have hlook := HM2.out.look (f := fl) (o := ow) (s := s) ⟨HKo.out, hi6, hs⟩
      have hj0 : (0 : Int) ≤ (j : Int) := by omega
      have hj1 : (j : Int) < (ON : Int) := by omega
      cases hf : firstK l fl ow s with
      | some q =>
        have HN := Lib.hid (show seenF l p s = some q by rw [HF.out]; exact find_hit hjo (by rw [← how]; exact hf))
        rw [hf] at hlook
        simp only [Option.getD_some, Option.isSome_some] at hlook
        clear hf HF how
        go_wp2
        go_ret2
        exact ⟨by rw [HN.out]; rfl, HE2.out⟩
      | none =>
        have HN := Lib.hid (show seenF l p s = (OS.drop (j + 1)).findSome? (fun o => firstK l fl o s) by rw [HF.out]; exact find_on hjo (by rw [← how]; exact hf))
        rw [hf] at hlook
        simp only [Option.getD_none, Option.isSome_none] at hlook
        clear hf HF how
        go_wp2
        go_round
        case rel => exact ⟨j + 1, by omega, by go_num, HN⟩
        case measure => simp [intOf]; omega
end Go.Proofs.YtgclfmdpapadnaaDoor

open Go.RowKit Go.Shelf
namespace Go.Proofs.YtgclfmdpapadnaaDoor
open Go Go.Proofs Fm
attribute [local go_sem] Oper.semAt_some

theorem u8_oneC {k : UInt8} (c : UInt8) : ((k.toNat : Int) == (c.toNat : Int)) = decide (k = c) := by
  rw [Bool.eq_iff_iff]
  simp only [beq_iff_eq, decide_eq_true_eq]
  constructor
  · intro h
    exact UInt8.toNat_inj.1 (by omega)
  · intro h
    rw [h]
set_option maxHeartbeats 1000000 in
theorem crefs1_any (x : It) (s : List UInt8) (w : World) (v : Value) (h : ItV w x v) (b : Nat) (hb : w.cell? ⟨b, 0, none⟩ = some (.string (str s))) (hlt : b < w.heap.size) :
    Calls Tryd.prog 64 #[v, .pointer (some ⟨b, 0, none⟩)] w fun e w' => e = .returned (.bool (decide (x.name = s))) ∧ Ext w w' := by
  obtain ⟨a, m, c, rfl, hr, ln, lo, iw, iq⟩ := h
  have hE := (Ext.refl w).alloc (.cells #[.string (str x.name), .int .u8 (x.kind.toNat : Int), .slice a m c, .string (str x.over), .int .i64 x.width, .int .i64 x.quota] 27)
  have hB := BoxL.new w [.string (str x.name), .int .u8 (x.kind.toNat : Int), .slice a m c, .string (str x.over), .int .i64 x.width, .int .i64 x.quota] 27
  have hb1 := (hE.cell (p := ⟨b, 0, none⟩) hlt).trans hb
  have HE := Lib.hid hE
  clear hr ln lo iw iq hE hb
  go_enter Tryd.func64, Tryd.ntmps64
  go_upto_region 1 with (fail)
  generalize w.alloc (.cells #[.string (str x.name), .int .u8 (x.kind.toNat : Int), .slice a m c, .string (str x.over), .int .i64 x.width, .int .i64 x.quota] 27) = W1 at *
  have c0 := hB.cell 0 _ rfl
  have e1 : (str x.name).toList = x.name := str_toList _
  have e2 : (str s).toList = s := str_toList _
  clear hB
  go_wp2
  go_ret
  refine ⟨?_, HE.out⟩
  simp
  rw [Bool.eq_iff_iff]; simp
set_option maxHeartbeats 1000000 in
theorem cisMap_any (x : It) (w : World) (v : Value) (h : ItV w x v) :
    Calls Tryd.prog 74 #[v] w fun e w' => e = .returned (.bool (isMapI x)) ∧ Ext w w' := by
  obtain ⟨a, m, c, rfl, hr, ln, lo, iw, iq⟩ := h
  have hE := (Ext.refl w).alloc (.cells #[.string (str x.name), .int .u8 (x.kind.toNat : Int), .slice a m c, .string (str x.over), .int .i64 x.width, .int .i64 x.quota] 27)
  have hB := BoxL.new w [.string (str x.name), .int .u8 (x.kind.toNat : Int), .slice a m c, .string (str x.over), .int .i64 x.width, .int .i64 x.quota] 27
  have HE := Lib.hid hE
  clear hr ln lo iw iq hE
  have hk := u8_oneC (k := x.kind) 1
  rw [show (((1 : UInt8).toNat : Nat) : Int) = 1 from rfl] at hk
  have HX := Lib.hid (show isMapI x = decide (x.kind = 1) from rfl)
  go_enter Tryd.func74, Tryd.ntmps74
  go_upto_region 1 with (fail)
  generalize w.alloc (.cells #[.string (str x.name), .int .u8 (x.kind.toNat : Int), .slice a m c, .string (str x.over), .int .i64 x.width, .int .i64 x.quota] 27) = W1 at *
  have c1 := hB.cell 1 _ rfl
  clear hB
  go_wp2
  go_ret
  refine ⟨?_, HE.out⟩
  rw [HX.out]; simp
theorem ref_hit {nd : List Nd} {ow : Int} {items : List It} {s : List UInt8} {i : Nat} (hi : i < items.length) (h1 : items[i].name = s) (h2 : ∀ j (hj : j < i), items[j].name ≠ s) (h0 : s ≠ []) : refsF nd ow items s = ((i : Int), -1) := by
  have : items.findIdx? (fun x => decide (x.name = s)) = some i := by
    rw [List.findIdx?_eq_some_iff_getElem]
    exact ⟨hi, by simpa using h1, fun j hj => by simpa using h2 j hj⟩
  unfold refsF
  rw [this]
  simp only
  rw [if_pos h0]
theorem ref_miss {nd : List Nd} {ow : Int} {items : List It} {s : List UInt8} (h : s = [] ∨ ∀ j (hj : j < items.length), items[j].name ≠ s) : refsF nd ow items s = match (if 0 ≤ ow then seenF nd ow s else none) with
    | some k => (-1, (k : Int))
    | none => (-1, -1) := by
  unfold refsF
  cases hf : items.findIdx? (fun x => decide (x.name = s)) with
  | none => rfl
  | some i =>
    obtain ⟨hi, h1, -⟩ := List.findIdx?_eq_some_iff_getElem.1 hf
    rcases h with h | h
    · simp only
      rw [if_neg (fun e => e h)] <;> (cases (if 0 ≤ ow then seenF nd ow s else none) <;> rfl)
    · exact absurd (by simpa using h1) (h i hi)
/-- What is asked, as it lies. -/
def askV (k0 k1 k2 k3 k4 : Int) (nv : Value) (ow q : Int) (iv : Value) : Array Value := #[.int .i64 k0, .int .i64 k1, .int .i64 k2, .int .i64 k3, .int .i64 k4, nv, .int .i64 ow, .int .i64 q, iv]
set_option maxRecDepth 100000 in
set_option maxHeartbeats 2000000 in
theorem crefs_any (nd : List Nd) (items : List It) (hO : RightO nd) (hl : nd.length ≤ 1000000) (k0 k1 k2 k3 k4 ow q : Int) (s : List UInt8) (hs : s.length ≤ 9223372036854775807) (w : World) (nv iv : Value) (hN : ndE.Row w nd nv) (hI : itE.Row w items iv) :
    Calls Tryd.prog 36 #[.agg (askV k0 k1 k2 k3 k4 nv ow q iv), .string (str s)] w fun e w' =>
      e = .returned (.tuple #[.int .i64 (refsF nd ow items s).1, .int .i64 (refsF nd ow items s).2, .bool (!lostF nd ow items s)]) ∧ Ext w w' := by
  obtain ⟨an, cn, rfl, hn1, hn2⟩ := hN.slice
  obtain ⟨ai, ci, rfl, hi1, hi2⟩ := hI.slice
  have b1 := BoxL.new w [.int .i64 k0, .int .i64 k1, .int .i64 k2, .int .i64 k3, .int .i64 k4, .slice an nd.length cn, .int .i64 ow, .int .i64 q, .slice ai items.length ci] 67
  have e1 := (Ext.refl w).alloc (.cells #[.int .i64 k0, .int .i64 k1, .int .i64 k2, .int .i64 k3, .int .i64 k4, .slice an nd.length cn, .int .i64 ow, .int .i64 q, .slice ai items.length ci] 67)
  have HN := Lib.hid hN
  have HI := Lib.hid hI
  have HO := Lib.hid hO
  clear hN hI hO
  unfold askV
  go_enter Tryd.func36, Tryd.ntmps36
  go_upto_region 1 with (fail)
  have b2 := BoxL.new (w.alloc (.cells #[.int .i64 k0, .int .i64 k1, .int .i64 k2, .int .i64 k3, .int .i64 k4, .slice an nd.length cn, .int .i64 ow, .int .i64 q, .slice ai items.length ci] 67)) [.string (str s)] 9
  have e2 := (Ext.refl (w.alloc (.cells #[.int .i64 k0, .int .i64 k1, .int .i64 k2, .int .i64 k3, .int .i64 k4, .slice an nd.length cn, .int .i64 ow, .int .i64 q, .slice ai items.length ci] 67))).alloc (.cells #[.string (str s)] 9)
  rw [World.size_alloc] at b2
  have hz2 : ((w.alloc (.cells #[.int .i64 k0, .int .i64 k1, .int .i64 k2, .int .i64 k3, .int .i64 k4, .slice an nd.length cn, .int .i64 ow, .int .i64 q, .slice ai items.length ci] 67)).alloc (.cells #[.string (str s)] 9)).heap.size = w.heap.size + 2 := by simp
  have hB1 := b1.ext e2
  have HE2 := Lib.hid (e1.trans e2)
  clear b1 e1 e2
  generalize (w.alloc (.cells #[.int .i64 k0, .int .i64 k1, .int .i64 k2, .int .i64 k3, .int .i64 k4, .slice an nd.length cn, .int .i64 ow, .int .i64 q, .slice ai items.length ci] 67)).alloc (.cells #[.string (str s)] 9) = W2 at *
  have HB1 := Lib.hid hB1
  have HB2 := Lib.hid b2
  have HIdx := Lib.hid (indexI_inv items 64 (enters_of Tryd.func64 (by kernel_rfl) rfl) #[.pointer (some ⟨w.heap.size + 1, 0, none⟩)] (fun i => if hi : i < items.length then decide (items[i].name = s) else false) (fun _ => Ext W2) W2 _ (HI.out.ext HE2.out) (fun _ _ h => h) (Ext.refl _) (fun i hi w' x hE _ hx => by
    simp only [dif_pos hi]
    refine (crefs1_any items[i] s w' x hx (w.heap.size + 1) ((hE.cell (p := ⟨w.heap.size + 1, 0, none⟩) (by show w.heap.size + 1 < W2.heap.size; omega)).trans (b2.cell 0 _ rfl)) (by have := hE.size; omega)).mono ?_
    rintro e w'' ⟨r1, r2⟩
    exact ⟨r1, hE.trans r2⟩))
  have t4 := hB1.cell 8 _ rfl
  clear hB1 b2
  go_wp2_with fail
  refine HIdx.out.mono ?_
  clear HIdx t4
  have e1 : (str s).toList = s := str_toList s
  have hne : s.isEmpty = true ∨ s.isEmpty = false := by cases s.isEmpty <;> simp
  have HSn := Lib.hid (fun X (hE : Ext W2 X) => seen_any nd HO.out hl ow s hs X _ (HN.out.ext (HE2.out.trans hE)))
  rintro e w3 hpost
  obtain ⟨r, rfl, hE3, hcase⟩ : ∃ r : Int, e = .returned (.int .i64 r) ∧ Ext W2 w3 ∧ ((0 ≤ r ∧ s.isEmpty = false ∧ refsF nd ow items s = (r, -1)) ∨ (((0 ≤ r ∧ s.isEmpty = true) ∨ r < 0) ∧ refsF nd ow items s = match (if 0 ≤ ow then seenF nd ow s else none) with
    | some k => (-1, (k : Int))
    | none => (-1, -1))) := by
    rcases hpost with ⟨i, hi, h1, h2, rfl, hE3⟩ | ⟨h1, rfl, hE3⟩
    · simp only [dif_pos hi] at h1
      refine ⟨_, rfl, hE3, ?_⟩
      rcases hne with hne | hne
      · exact .inr ⟨.inl ⟨by omega, hne⟩, ref_miss (.inl (by simpa using hne))⟩
      · exact .inl ⟨by omega, hne, ref_hit hi (by simpa using h1) (fun j hj => by have := h2 j hj; simp only [dif_pos (Nat.lt_trans hj hi)] at this; simpa using this) (by intro h; rw [h] at hne; cases hne)⟩
    · exact ⟨_, rfl, hE3, .inr ⟨.inr (by omega), ref_miss (.inr fun j hj => by have := h1 j hj; simp only [dif_pos hj] at this; simpa using this)⟩⟩
  have HB3 := Lib.hid (HB1.out.ext hE3)
  have s0 := (HB2.out.ext hE3).cell 0 _ rfl
  have HS3 := Lib.hid (HSn.out w3 hE3)
  have HE3 := Lib.hid (HE2.out.trans hE3)
  clear hpost hne HSn HB1 HB2 HE2 hE3 HI
  rcases hcase with ⟨h0, hne, hx⟩ | ⟨h0, hx⟩
  · have HX := Lib.hid hx
    have HL := Lib.hid (show lostF nd ow items s = false by unfold lostF; rw [hx]; simp <;> omega)
    clear hx HS3
    go_wp2
    exact bodyPost_ret (v := .tuple #[.int .i64 r, .int .i64 (-1), .bool true]) (by simp [results, Tryd.results36, go_sem]) rfl ⟨by rw [HX.out, HL.out]; rfl, HE3.out⟩
  · have p2 := HB3.out.cell 6 _ rfl
    have p1 := HB3.out.cell 5 _ rfl
    by_cases how : 0 ≤ ow
    case neg =>
      rw [if_neg how] at hx
      have HX := Lib.hid hx
      have HL := Lib.hid (show lostF nd ow items s = true by unfold lostF; rw [hx]; rfl)
      clear hx HS3
      rcases h0 with ⟨h0, hne⟩ | h0
      all_goals
        go_wp2
        exact bodyPost_ret (v := .tuple #[.int .i64 (-1), .int .i64 (-1), .bool false]) (by simp [results, Tryd.results36, go_sem]) rfl ⟨by rw [HX.out, HL.out]; rfl, HE3.out⟩
    case pos =>
      rw [if_pos how] at hx
      cases hsn : seenF nd ow s with
      | none =>
        rw [hsn] at hx HS3
        have HX := Lib.hid hx
        have HL := Lib.hid (show lostF nd ow items s = true by unfold lostF; rw [hx]; rfl)
        clear hx hsn
        rcases h0 with ⟨h0, hne⟩ | h0
        all_goals
          go_wp2_with fail
          refine HS3.out.mono ?_
          rintro e w4 ⟨rfl, hE4⟩
          have HE4 := Lib.hid (HE3.out.trans hE4)
          clear hE4 HS3
          go_wp2
          exact bodyPost_ret (v := .tuple #[.int .i64 (-1), .int .i64 (-1), .bool false]) (by simp [results, Tryd.results36, go_sem]) rfl ⟨by rw [HX.out, HL.out]; rfl, HE4.out⟩
      | some k =>
        rw [hsn] at hx HS3
        have HX := Lib.hid hx
        have HL := Lib.hid (show lostF nd ow items s = false by unfold lostF; rw [hx]; simp <;> omega)
        clear hx hsn
        rcases h0 with ⟨h0, hne⟩ | h0
        all_goals
          go_wp2_with fail
          refine HS3.out.mono ?_
          rintro e w4 ⟨rfl, hE4⟩
          have HE4 := Lib.hid (HE3.out.trans hE4)
          clear hE4 HS3
          go_wp2
          exact bodyPost_ret (v := .tuple #[.int .i64 (-1), .int .i64 (k : Int), .bool true]) (by simp [results, Tryd.results36, go_sem]) rfl ⟨by rw [HX.out, HL.out]; rfl, HE4.out⟩
end Go.Proofs.YtgclfmdpapadnaaDoor

open Go.RowKit Go.Shelf
namespace Go.Proofs.YtgclfmdpapadnaaDoor
open Go Go.Proofs Fm
attribute [local go_sem] Oper.semAt_some

/-- What is asked, in a box. -/
def askL (k0 k1 k2 k3 k4 : Int) (nv : Value) (ow q : Int) (iv : Value) : List Value := [.int .i64 k0, .int .i64 k1, .int .i64 k2, .int .i64 k3, .int .i64 k4, nv, .int .i64 ow, .int .i64 q, iv]
set_option maxHeartbeats 2000000 in
theorem clost_any (nd : List Nd) (items : List It) (hO : RightO nd) (hl : nd.length ≤ 1000000) (k0 k1 k2 k3 k4 ow q : Int) (s : List UInt8) (hs : s.length ≤ 9223372036854775807) (w : World) (nv iv : Value) (hN : ndE.Row w nd nv) (hI : itE.Row w items iv) :
    Calls Tryd.prog 77 #[.agg (askV k0 k1 k2 k3 k4 nv ow q iv), .string (str s)] w fun e w' => e = .returned (.bool (lostF nd ow items s)) ∧ Ext w w' := by
  have HR := Lib.hid (fun X (hE : Ext w X) => crefs_any nd items hO hl k0 k1 k2 k3 k4 ow q s hs X nv iv (hN.ext hE) (hI.ext hE))
  obtain ⟨an, cn, rfl, hn1, hn2⟩ := hN.slice
  obtain ⟨ai, ci, rfl, hi1, hi2⟩ := hI.slice
  have hE1 := (Ext.refl w).alloc (.cells #[.int .i64 k0, .int .i64 k1, .int .i64 k2, .int .i64 k3, .int .i64 k4, .slice an nd.length cn, .int .i64 ow, .int .i64 q, .slice ai items.length ci] 67)
  have HE1 := Lib.hid hE1
  clear hN hI hO hE1
  unfold askV at *
  go_enter Tryd.func77, Tryd.ntmps77
  go_wp2_with fail
  refine (HR.out _ HE1.out).mono ?_
  rintro e w2 ⟨rfl, hE2⟩
  have HE2 := Lib.hid (HE1.out.trans hE2)
  clear hE2 HR HE1
  go_wp2
  go_ret
  exact ⟨by simp, HE2.out⟩
set_option maxHeartbeats 2000000 in
theorem cRefs_any (nd : List Nd) (items : List It) (hO : RightO nd) (hl : nd.length ≤ 1000000) (ow : Int) (s : List UInt8) (hs : s.length ≤ 9223372036854775807) (w : World) (nv iv : Value) (hN : ndE.Row w nd nv) (hI : itE.Row w items iv) :
    Calls Tryd.prog 16 #[nv, .int .i64 ow, iv, .string (str s)] w fun e w' => e = .returned (.tuple #[.int .i64 (refsF nd ow items s).1, .int .i64 (refsF nd ow items s).2, .bool (!lostF nd ow items s)]) ∧ Ext w w' := by
  have HR := Lib.hid (crefs_any nd items hO hl 0 0 0 0 0 ow 0 s hs w nv iv hN hI)
  obtain ⟨an, cn, rfl, hn1, hn2⟩ := hN.slice
  obtain ⟨ai, ci, rfl, hi1, hi2⟩ := hI.slice
  clear hN hI hO
  unfold askV at *
  go_enter Tryd.func16, Tryd.ntmps16
  go_wp2_with fail
  refine HR.out.mono ?_
  rintro e w2 ⟨rfl, hE2⟩
  have HE2 := Lib.hid hE2
  clear hE2 HR
  go_wp2
  exact bodyPost_ret (v := .tuple #[.int .i64 (refsF nd ow items s).1, .int .i64 (refsF nd ow items s).2, .bool (!lostF nd ow items s)]) (by simp [results, Tryd.results16, go_sem]) rfl ⟨rfl, HE2.out⟩
set_option maxHeartbeats 2000000 in
theorem chas_post (nd : List Nd) (items : List It) (k0 k1 k2 k3 k4 ow q : Int) (w : World) (nv iv fv : Value) (hN : ndE.Row w nd nv) (hI : itE.Row w items iv) (b : Bool) (R : World → Prop) (g : FuncId) (bnd caps : Array Value) (hfv : fv = .func (.func g) bnd caps)
    (hC : ∀ X, Ext w X → Calls Tryd.prog 25 #[iv, fv] X fun e w' => e = .returned (.bool b) ∧ R w') :
    Calls Tryd.prog 72 #[.agg (askV k0 k1 k2 k3 k4 nv ow q iv), fv] w fun e w' => e = .returned (.bool b) ∧ R w' := by
  have HC := Lib.hid hC
  obtain ⟨an, cn, rfl, hn1, hn2⟩ := hN.slice
  obtain ⟨ai, ci, rfl, hi1, hi2⟩ := hI.slice
  have hE1 := (Ext.refl w).alloc (.cells #[.int .i64 k0, .int .i64 k1, .int .i64 k2, .int .i64 k3, .int .i64 k4, .slice an nd.length cn, .int .i64 ow, .int .i64 q, .slice ai items.length ci] 67)
  have HE1 := Lib.hid hE1
  subst hfv
  clear hN hI hE1 hC
  unfold askV at *
  go_enter Tryd.func72, Tryd.ntmps72
  go_wp2_with fail
  refine (HC.out _ HE1.out).mono ?_
  rintro e w2 ⟨rfl, hR⟩
  have HR := Lib.hid hR
  clear hR HC HE1
  go_wp2
  go_ret
  exact ⟨rfl, HR.out⟩
theorem chas_any (nd : List Nd) (items : List It) (k0 k1 k2 k3 k4 ow q : Int) (w : World) (nv iv : Value) (hN : ndE.Row w nd nv) (hI : itE.Row w items iv) (f : FuncId) (eg : ∀ args w, (callFunc f args).run Tryd.prog w = .ok (.enter f args) w) (caps : Array Value) (p : It → Bool)
    (hf : ∀ s w' x, s ∈ items → Ext w w' → ItV w' s x → Calls Tryd.prog f (#[x] ++ caps) w' fun e w'' => e = .returned (.bool (p s)) ∧ Ext w' w'') :
    Calls Tryd.prog 72 #[.agg (askV k0 k1 k2 k3 k4 nv ow q iv), .func (.func f) #[] caps] w fun e w' => e = .returned (.bool (items.any p)) ∧ Ext w w' :=
  chas_post nd items k0 k1 k2 k3 k4 ow q w nv iv _ hN hI (items.any p) (Ext w) f #[] caps rfl (fun X hE => (hasI_any items f eg caps p X iv (hI.ext hE) (fun s w' x hs hE' hx => hf s w' x hs (hE.trans hE') hx)).mono fun _ _ h => ⟨h.1, hE.trans h.2⟩)
end Go.Proofs.YtgclfmdpapadnaaDoor

open Go.RowKit Go.Shelf
namespace Go.Proofs.YtgclfmdpapadnaaDoor
open Go Go.Proofs Fm
attribute [local go_sem] Oper.semAt_some

set_option maxHeartbeats 2000000 in
theorem cwide1_any (k0 k1 k2 k3 k4 ow q : Int) (nv iv : Value) (x : It) (w : World) (v : Value) (h : ItV w x v) (b : Nat) (hb : BoxL w b (askL k0 k1 k2 k3 k4 nv ow q iv)) :
    Calls Tryd.prog 73 #[v, .pointer (some ⟨b, 0, none⟩)] w fun e w' => e = .returned (.bool (isMapI x && decide (k2 < x.width))) ∧ Ext w w' := by
  obtain ⟨a, m, c, rfl, hr, ln, lo, iw, iq⟩ := h
  have hE := (Ext.refl w).alloc (.cells #[.string (str x.name), .int .u8 (x.kind.toNat : Int), .slice a m c, .string (str x.over), .int .i64 x.width, .int .i64 x.quota] 27)
  have hB := BoxL.new w [.string (str x.name), .int .u8 (x.kind.toNat : Int), .slice a m c, .string (str x.over), .int .i64 x.width, .int .i64 x.quota] 27
  have hM := cisMap_any x _ _ ⟨a, m, c, rfl, hr.ext hE, ln, lo, iw, iq⟩
  have hb1 := hb.ext hE
  have HE := Lib.hid hE
  have HM := Lib.hid hM
  have HB := Lib.hid hB
  clear hr ln lo iw iq hE hM hB hb
  go_enter Tryd.func73, Tryd.ntmps73
  go_upto_region 1 with (fail)
  generalize w.alloc (.cells #[.string (str x.name), .int .u8 (x.kind.toNat : Int), .slice a m c, .string (str x.over), .int .i64 x.width, .int .i64 x.quota] 27) = W1 at *
  have ⟨y0, y1, y2, y3, y4, y5⟩ := HB.out.six
  go_wp2_with fail
  refine HM.out.mono ?_
  clear HM y0 y1 y2 y3 y4 y5
  cases hm : isMapI x with
  | false =>
    rintro e w2 ⟨rfl, hE2⟩
    have HE2 := Lib.hid (HE.out.trans hE2)
    have HQ := Lib.hid hm
    clear hE2 hm
    go_wp2
    go_ret
    exact ⟨by rw [HQ.out]; rfl, HE2.out⟩
  | true =>
    rintro e w2 ⟨rfl, hE2⟩
    have y4 := (HB.out.ext hE2).cell 4 _ rfl
    have z2 := (hb1.ext hE2).cell 2 (.int .i64 k2) rfl
    have HE2 := Lib.hid (HE.out.trans hE2)
    have HQ := Lib.hid hm
    clear hE2 hm hb1
    go_wp2
    go_ret
    exact ⟨by rw [HQ.out]; simp, HE2.out⟩
theorem askL_cells (w : World) {b : Nat} {k0 k1 k2 k3 k4 ow q : Int} {nv iv : Value} (h : BoxL w b (askL k0 k1 k2 k3 k4 nv ow q iv)) : w.cell? ⟨b, 0, none⟩ = some (.int .i64 k0) ∧ w.cell? ⟨b, 1, none⟩ = some (.int .i64 k1) ∧ w.cell? ⟨b, 2, none⟩ = some (.int .i64 k2) ∧ w.cell? ⟨b, 3, none⟩ = some (.int .i64 k3) ∧ w.cell? ⟨b, 4, none⟩ = some (.int .i64 k4) ∧ w.cell? ⟨b, 5, none⟩ = some nv ∧ w.cell? ⟨b, 6, none⟩ = some (.int .i64 ow) ∧ w.cell? ⟨b, 7, none⟩ = some (.int .i64 q) ∧ w.cell? ⟨b, 8, none⟩ = some iv :=
  ⟨h.cell 0 _ rfl, h.cell 1 _ rfl, h.cell 2 _ rfl, h.cell 3 _ rfl, h.cell 4 _ rfl, h.cell 5 _ rfl, h.cell 6 _ rfl, h.cell 7 _ rfl, h.cell 8 _ rfl⟩
set_option maxRecDepth 100000 in
set_option maxHeartbeats 2000000 in
theorem cwide_any (nd : List Nd) (items : List It) (k0 k1 k2 k3 k4 ow q : Int) (w : World) (nv iv : Value) (hN : ndE.Row w nd nv) (hI : itE.Row w items iv) :
    Calls Tryd.prog 54 #[.agg (askV k0 k1 k2 k3 k4 nv ow q iv)] w fun e w' => e = .returned (.bool (wideF k2 items)) ∧ Ext w w' := by
  have HX := Lib.hid (show wideF k2 items = (decide (k2 < (items.length : Int)) || items.any (fun x => isMapI x && decide (k2 < x.width))) from rfl)
  have hE1 := (Ext.refl w).alloc (.cells (askL k0 k1 k2 k3 k4 nv ow q iv).toArray 67)
  have hB1 := BoxL.new w (askL k0 k1 k2 k3 k4 nv ow q iv) 67
  have HH := Lib.hid (chas_any nd items k0 k1 k2 k3 k4 ow q _ nv iv (hN.ext hE1) (hI.ext hE1) 73 (enters_of Tryd.func73 (by kernel_rfl) rfl) #[.pointer (some ⟨w.heap.size, 0, none⟩)] (fun x => isMapI x && decide (k2 < x.width)) (fun s w' x _ hE hx => cwide1_any k0 k1 k2 k3 k4 ow q nv iv s w' x hx w.heap.size (hB1.ext hE)))
  obtain ⟨an, cn, rfl, hn1, hn2⟩ := hN.slice
  obtain ⟨ai, ci, rfl, hi1, hi2⟩ := hI.slice
  obtain ⟨z0, z1, z2, z3, z4, z5, z6, z7, z8⟩ := askL_cells _ hB1
  have HE1 := Lib.hid hE1
  clear hN hI hE1 hB1
  unfold askV at *
  simp only [askL] at HE1 HH z0 z1 z2 z3 z4 z5 z6 z7 z8
  go_enter Tryd.func54, Tryd.ntmps54
  go_upto_region 1 with (fail)
  generalize w.alloc (.cells #[.int .i64 k0, .int .i64 k1, .int .i64 k2, .int .i64 k3, .int .i64 k4, .slice an nd.length cn, .int .i64 ow, .int .i64 q, .slice ai items.length ci] 67) = W1 at *
  by_cases hw : k2 < (items.length : Int)
  · have HY := Lib.hid (show wideF k2 items = true by rw [HX.out]; simp [hw])
    clear HH HX
    go_wp2
    go_ret
    exact ⟨by rw [HY.out]; rfl, HE1.out⟩
  · have HY := Lib.hid (show wideF k2 items = items.any (fun x => isMapI x && decide (k2 < x.width)) by rw [HX.out]; simp [hw])
    clear HX
    go_wp2_with fail
    refine HH.out.mono ?_
    rintro e w2 ⟨rfl, hE2⟩
    have HE2 := Lib.hid (HE1.out.trans hE2)
    clear hE2 HH z0 z1 z2 z3 z4 z5 z6 z7 z8
    go_wp2
    go_ret
    exact ⟨by rw [HY.out]; rfl, HE2.out⟩
set_option maxRecDepth 100000 in
set_option maxHeartbeats 4000000 in
theorem cdeep_any (nd : List Nd) (items : List It) (hO : RightO nd) (hl : nd.length ≤ 1000000) (k0 k1 k2 k3 k4 ow q : Int) (w : World) (nv iv : Value) (hN : ndE.Row w nd nv) (hI : itE.Row w items iv) :
    Calls Tryd.prog 56 #[.agg (askV k0 k1 k2 k3 k4 nv ow q iv)] w fun e w' => e = .returned (.bool (deepB k1 nd ow items)) ∧ Ext w w' := by
  have HX := Lib.hid (show deepB k1 nd ow items = ((decide (0 < items.length) && decide (k1 < deepF nd ow + 1)) || (items.any isMapI && decide (k1 ≤ deepF nd ow + 1))) from rfl)
  have hE1 := (Ext.refl w).alloc (.cells (askL k0 k1 k2 k3 k4 nv ow q iv).toArray 67)
  have hB1 := BoxL.new w (askL k0 k1 k2 k3 k4 nv ow q iv) 67
  have HD := Lib.hid (deep_any nd ow hO _ nv (hN.ext hE1))
  have HH := Lib.hid (fun X (hE : Ext w X) => chas_any nd items k0 k1 k2 k3 k4 ow q X nv iv (hN.ext hE) (hI.ext hE) 74 (enters_of Tryd.func74 (by kernel_rfl) rfl) #[] isMapI (fun s w' x _ hE hx => cisMap_any s w' x hx))
  have hdb : 0 ≤ deepF nd ow ∧ deepF nd ow ≤ 1000001 := by
    unfold deepF
    cases hp : placeF nd ow with
    | false => simp
    | true =>
      obtain ⟨h0, h1⟩ : 0 ≤ ow ∧ ow < nd.length := by unfold placeF at hp; simpa using hp
      have := chainO_len hO ow.toNat (by omega)
      rw [if_pos rfl]
      omega
  obtain ⟨an, cn, rfl, hn1, hn2⟩ := hN.slice
  obtain ⟨ai, ci, rfl, hi1, hi2⟩ := hI.slice
  have HB1 := Lib.hid hB1
  obtain ⟨z0, z1, z2, z3, z4, z5, z6, z7, z8⟩ := askL_cells _ hB1
  have HE1 := Lib.hid hE1
  clear hN hI hE1 hB1 hO
  unfold askV at *
  simp only [askL] at HE1 HD HB1 z0 z1 z2 z3 z4 z5 z6 z7 z8
  go_enter Tryd.func56, Tryd.ntmps56
  go_upto_region 1 with (fail)
  generalize w.alloc (.cells #[.int .i64 k0, .int .i64 k1, .int .i64 k2, .int .i64 k3, .int .i64 k4, .slice an nd.length cn, .int .i64 ow, .int .i64 q, .slice ai items.length ci] 67) = W1 at *
  go_wp2_with fail
  refine HD.out.mono ?_
  rintro e w2 ⟨rfl, hE2⟩
  clear HD z0 z1 z2 z3 z4 z5 z6 z7 z8
  obtain ⟨z0, z1, z2, z3, z4, z5, z6, z7, z8⟩ := askL_cells w2 (show BoxL w2 w.heap.size (askL k0 k1 k2 k3 k4 (.slice an nd.length cn) ow q (.slice ai items.length ci)) from HB1.out.ext hE2)
  have HE2 := Lib.hid (HE1.out.trans hE2)
  have HB2 := Lib.hid (HB1.out.ext hE2)
  clear hE2 HB1 HE1
  obtain ⟨DF, hDF⟩ : ∃ DF, DF = deepF nd ow := ⟨_, rfl⟩
  rw [← hDF] at hdb HX ⊢
  have HDF := Lib.hid hDF
  clear hDF
  go_upto_region 2 with (fail)
  by_cases h0 : (0 : Int) < (items.length : Int)
  · have h0' : 0 < items.length := by omega
    by_cases h1 : k1 < DF + 1
    · have HY := Lib.hid (show deepB k1 nd ow items = true by rw [HX.out]; simp [h0', h1])
      clear HH HX
      go_wp2
      go_ret
      exact ⟨by rw [HY.out]; rfl, HE2.out⟩
    · have HY := Lib.hid (show deepB k1 nd ow items = (items.any isMapI && decide (k1 ≤ DF + 1)) by rw [HX.out]; simp [h1])
      clear HX
      go_wp2_with fail
      refine (HH.out w2 HE2.out).mono ?_
      rintro e w3 ⟨rfl, hE3⟩
      have z1 := (HB2.out.ext hE3).cell 1 _ rfl
      have HE3 := Lib.hid (HE2.out.trans hE3)
      clear hE3 HH
      cases hb : items.any isMapI with
      | false =>
        have HY := Lib.hid (show deepB k1 nd ow items = false by rw [HY.out, hb]; rfl)
        clear hb
        go_wp2
        go_ret
        exact ⟨by rw [HY.out]; rfl, HE3.out⟩
      | true =>
        have HY := Lib.hid (show deepB k1 nd ow items = decide (k1 ≤ DF + 1) by rw [HY.out, hb]; rfl)
        clear hb
        go_wp2
        go_ret
        exact ⟨by rw [HY.out]; rfl, HE3.out⟩
  · have hnil : items = [] := List.eq_nil_of_length_eq_zero (by omega)
    have HY := Lib.hid (show deepB k1 nd ow items = false by rw [HX.out, hnil]; rfl)
    have hb : items.any isMapI = false := by rw [hnil]; rfl
    rw [hb] at HH
    clear HX hnil hb
    go_wp2_with fail
    refine (HH.out w2 HE2.out).mono ?_
    rintro e w3 ⟨rfl, hE3⟩
    have HE3 := Lib.hid (HE2.out.trans hE3)
    clear hE3 HH
    go_wp2
    go_ret
    exact ⟨by rw [HY.out]; rfl, HE3.out⟩
end Go.Proofs.YtgclfmdpapadnaaDoor
