/- Walks of package frag: Name, within; the reference's Name. -/
import Derived.Test.YtdienbcjfljjnaaGreatDoorWireB
import Derived.Test.YtdienbcjfljjnaaGreatDoorShelfF
import Derived.Test.YtdienbcjfljjnaaGreatDoorPlA
open Go.RowKit Go.Shelf
namespace Go.Proofs.YtdienbcjfljjnaaGreatDoor
open Go Go.Proofs Fm

theorem trim_let (s : List UInt8) (hs : s.length ≤ 9223372036854775807) (w : World) :
    Calls Tryz.prog 115 #[.string (str s), .string { data := #[97, 98, 99, 100, 101, 102, 103, 104, 105, 106, 107, 108, 109, 110, 111, 112, 113, 114, 115, 116, 117, 118, 119, 120, 121, 122, 48, 49, 50, 51, 52, 53, 54, 55, 56, 57, 95] }] w fun e w' => e = .returned (.string (str (Lib.trimS s letL))) ∧ Ext w w' := by
  have h := Tryz.strings_Trim_any (str s) { data := #[97, 98, 99, 100, 101, 102, 103, 104, 105, 106, 107, 108, 109, 110, 111, 112, 113, 114, 115, 116, 117, 118, 119, 120, 121, 122, 48, 49, 50, 51, 52, 53, 54, 55, 56, 57, 95] } w (by rw [str_size]; exact hs) (by decide) (ascii_of_all (by decide +kernel))
  rw [str_list] at h
  exact h

set_option maxHeartbeats 1000000 in
theorem name_any (s : List UInt8) (hs : s.length ≤ 9223372036854775807) (w : World) :
    Calls Tryz.prog 86 #[.string (str s)] w fun e w' => e = .returned (.bool (nameB s)) ∧ Ext w w' := by
  have hss := str_size s
  by_cases h1 : 1 ≤ s.length
  case neg =>
    have HX := Lib.hid (nameB_short h1)
    have h1' : ¬ (1 : Int) ≤ (s.length : Int) := by omega
    go_enter Tryz.func86, Tryz.ntmps86
    go_wp2
    go_ret
    exact ⟨by rw [HX.out]; rfl, Ext.refl w⟩
  have h1' : (1 : Int) ≤ (s.length : Int) := by omega
  by_cases h2 : s.length ≤ 20
  case neg =>
    have HX := Lib.hid (nameB_long h2)
    have h2' : ¬ (s.length : Int) ≤ 20 := by omega
    go_enter Tryz.func86, Tryz.ntmps86
    go_wp2
    go_ret
    exact ⟨by rw [HX.out]; rfl, Ext.refl w⟩
  have h2' : (s.length : Int) ≤ 20 := by omega
  have HX := Lib.hid (nameB_all h1 h2)
  have HN := Lib.hid (trim_nil s)
  go_enter Tryz.func86, Tryz.ntmps86
  go_wp2_with fail
  refine (trim_let s hs w).mono ?_
  rintro e w1 ⟨rfl, hE⟩
  cases ha : s.all letB with
  | true =>
    rw [HN.out.2 ha]
    have HA := Lib.hid ha
    have e1 : (str []).toList = ([] : List UInt8) := str_toList []
    clear ha
    go_wp2
    go_ret
    exact ⟨by rw [HX.out, HA.out]; simp_all, hE⟩
  | false =>
    obtain ⟨T, hT⟩ : ∃ T, T = Lib.trimS s letL := ⟨_, rfl⟩
    have hT0 : T ≠ [] := by rw [hT]; intro h; rw [HN.out.1 h] at ha; cases ha
    rw [← hT]
    have HA := Lib.hid ha
    have e1 : (str T).toList = T := str_toList T
    have e2 : T.isEmpty = false := by cases T with | nil => exact absurd rfl hT0 | cons _ _ => rfl
    clear ha hT
    go_wp2
    go_ret
    exact ⟨by rw [HX.out, HA.out]; simp_all, hE⟩

set_option maxHeartbeats 2000000 in
theorem rname_any (s : List UInt8) (hs : s.length ≤ 9223372036854775807) (w : World) :
    Calls Tryz.prog 74 #[.string (str s)] w fun e w' => e = .returned (.bool (nameB s)) ∧ w = w' := by
  have hss := str_size s
  go_enter Tryz.func74, Tryz.ntmps74
  go_wp2_with fail
  go_loop [3] (fun i => ∃ j : Nat, j ≤ s.length ∧ i = .int .i64 j ∧ Hid ((s.take j).all letB = true)) (fun i => s.length - (intOf i).toNat)
  case atStart => exact ⟨0, by omega, rfl, Lib.hid (by simp)⟩
  case round =>
    obtain ⟨j, hj, rfl, HA⟩ := hrel
    by_cases hlt : j < s.length
    · obtain ⟨x, hx⟩ : ∃ x, x = s[j]?.getD 0 := ⟨_, rfl⟩
      have hxs : x = s[j] := by rw [hx]; simp [hlt]
      have hix := run_index_str (P := Tryz.prog) Tryz.underlying9 s j hlt
      rw [← hx] at hix
      have HI := Lib.hid hxs
      clear hx hxs
      cases hb : letB x with
      | true =>
        have HB := Lib.hid hb
        unfold letB at hb
        simp only [Bool.or_eq_true, Bool.and_eq_true, decide_eq_true_eq] at hb
        generalize hz : (x.toNat : Int) = z at *
        have hz2 : (97 ≤ z ∧ z ≤ 122) ∨ (48 ≤ z ∧ z ≤ 57) ∨ z = 95 := by omega
        clear hb hz
        rcases hz2 with ⟨z1, z2⟩ | ⟨z1, z2⟩ | hz95
        case' inl => skip
        case' inr.inl =>
          have z3 : ¬ 97 ≤ z := by omega
        case' inr.inr =>
          have z3 : ¬ 97 ≤ z := by omega
          have z4 : 48 ≤ z := by omega
          have z5 : ¬ z ≤ 57 := by omega
          have z6 : (z == 95) = true := by simp [hz95]
          clear hz95
        all_goals
          go_wp2
          go_round
          case rel => exact ⟨j + 1, by omega, by go_num, Lib.hid (all_at hlt HA.out (by rw [← HI.out]; exact HB.out))⟩
          case measure => simp [intOf]; omega
      | false =>
        have HB := Lib.hid (show nameB s = false by
          unfold nameB; rw [all_not hlt (by rw [← HI.out]; exact hb)]; rfl)
        unfold letB at hb
        simp only [Bool.or_eq_false_iff, Bool.and_eq_false_iff, decide_eq_false_iff_not] at hb
        generalize hz : (x.toNat : Int) = z at *
        have hz2 : (z < 97 ∨ 122 < z) ∧ (z < 48 ∨ 57 < z) ∧ (z == 95) = false := by
          refine ⟨by omega, by omega, ?_⟩
          simp; omega
        clear hb hz HA HI
        obtain ⟨ha, hb, hc⟩ := hz2
        by_cases k1 : 97 ≤ z
        case' pos =>
          have k2 : ¬ z ≤ 122 := by omega
          have k3 : 48 ≤ z := by omega
          have k4 : ¬ z ≤ 57 := by omega
        case' neg =>
          by_cases k3 : 48 ≤ z
          case' pos =>
            have k4 : ¬ z ≤ 57 := by omega
        all_goals
          clear ha hb
          go_wp2
          go_ret
          exact ⟨by rw [HB.out]; rfl, rfl⟩
    · have hjl : j = s.length := by omega
      have HA2 := Lib.hid (show s.all letB = true by have := HA.out; rwa [hjl, List.take_length] at this)
      clear HA
      by_cases h1 : 1 ≤ s.length
      case neg =>
        have HX := Lib.hid (nameB_short h1)
        have h1' : ¬ (1 : Int) ≤ (s.length : Int) := by omega
        clear hjl
        go_wp2
        go_ret
        exact ⟨by rw [HX.out]; rfl, rfl⟩
      have h1' : (1 : Int) ≤ (s.length : Int) := by omega
      by_cases h2 : s.length ≤ 20
      case neg =>
        have HX := Lib.hid (nameB_long h2)
        have h2' : ¬ (s.length : Int) ≤ 20 := by omega
        clear hjl
        go_wp2
        go_ret
        exact ⟨by rw [HX.out]; rfl, rfl⟩
      have h2' : (s.length : Int) ≤ 20 := by omega
      have HX := Lib.hid ((nameB_all h1 h2).trans HA2.out)
      clear hjl
      go_wp2
      go_ret
      exact ⟨by rw [HX.out]; rfl, rfl⟩
end Go.Proofs.YtdienbcjfljjnaaGreatDoor

/- Walks: slices.IndexFunc, ContainsFunc at []string and []api.Item. -/
open Go.RowKit Go.Shelf
namespace Go.Proofs.YtdienbcjfljjnaaGreatDoor
open Go Go.Proofs Fm

end Go.Proofs.YtdienbcjfljjnaaGreatDoor

/- Walks of package frag: fits, Right; the reference's item, Right. -/
open Go.RowKit Go.Shelf
namespace Go.Proofs.YtdienbcjfljjnaaGreatDoor
open Go Go.Proofs Fm

end Go.Proofs.YtdienbcjfljjnaaGreatDoor
