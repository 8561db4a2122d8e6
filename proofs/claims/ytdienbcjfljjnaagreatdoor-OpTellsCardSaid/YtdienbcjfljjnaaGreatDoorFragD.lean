/- Walks: the reference's item, Right. -/
import Derived.Test.YtdienbcjfljjnaaGreatDoorFrgA
open Go.RowKit Go.Shelf
namespace Go.Proofs.YtdienbcjfljjnaaGreatDoor
open Go Go.Proofs Fm

theorem alls_take {l : List (List UInt8)} {j : Nat} (hj : j < l.length) (h : (l.take j).all nameB = true) (hx : nameB l[j] = true) : (l.take (j + 1)).all nameB = true := by
  rw [List.take_add_one, List.getElem?_eq_getElem hj, List.all_append, h]; simpa using hx
theorem alls_not {l : List (List UInt8)} {j : Nat} (hj : j < l.length) (hx : nameB l[j] = false) : l.all nameB = false := by
  rw [List.all_eq_false]; exact ⟨l[j], List.getElem_mem hj, by simp [hx]⟩
theorem allI_take {l : List It} {j : Nat} (hj : j < l.length) (h : (l.take j).all itB = true) (hx : itB l[j] = true) : (l.take (j + 1)).all itB = true := by
  rw [List.take_add_one, List.getElem?_eq_getElem hj, List.all_append, h]; simpa using hx
theorem allI_not {l : List It} {j : Nat} (hj : j < l.length) (hx : itB l[j] = false) : l.all itB = false := by
  rw [List.all_eq_false]; exact ⟨l[j], List.getElem_mem hj, by simp [hx]⟩

set_option maxHeartbeats 4000000 in
theorem ritem_any (x : It) (w : World) (v : Value) (h : ItV w x v) :
    Calls Tryz.prog 96 #[v] w fun e w' => e = .returned (.bool (itB x)) ∧ Ext w w' := by
  obtain ⟨a, m, c, rfl, hr, ln, lo, iw, iq⟩ := h
  have hm : m = x.after.length := by
    obtain ⟨_, _, e, _⟩ := hr.slice
    injection e
  have HR := Lib.hid hr
  have HLn := Lib.hid ln
  have HLo := Lib.hid lo
  clear hr ln lo
  have hss := str_size x.over
  have hml : m ≤ 9223372036854775807 := by rw [hm]; exact HR.out.length_le
  have HM := Lib.hid hm
  have HE0 := Lib.hid ((Ext.refl w).alloc (.cells #[.string (str x.name), .int .u8 (x.kind.toNat : Int), .slice a m c, .string (str x.over), .int .i64 x.width, .int .i64 x.quota] 138))
  have HB0 := Lib.hid (BoxL.new w [.string (str x.name), .int .u8 (x.kind.toNat : Int), .slice a m c, .string (str x.over), .int .i64 x.width, .int .i64 x.quota] 138)
  have hE0 := HE0.out
  have hb0 : BoxL (w.alloc (.cells #[.string (str x.name), .int .u8 (x.kind.toNat : Int), .slice a m c, .string (str x.over), .int .i64 x.width, .int .i64 x.quota] 138)) w.heap.size [.string (str x.name), .int .u8 (x.kind.toNat : Int), .slice a m c, .string (str x.over), .int .i64 x.width, .int .i64 x.quota] := HB0.out
  obtain ⟨p0, p1, p2, p3, p4, p5⟩ := hb0.six
  clear HE0 HB0
  cases hn : nameB x.name with
  | false =>
    have HX := Lib.hid (itB_noname hn)
    have HN := Lib.hid hn
    clear hn hm hb0
    go_enter Tryz.func96, Tryz.ntmps96
    go_wp2_with fail
    generalize w.alloc (.cells #[.string (str x.name), .int .u8 (x.kind.toNat : Int), .slice a m c, .string (str x.over), .int .i64 x.width, .int .i64 x.quota] 138) = W0 at *
    refine (rname_any x.name HLn.out W0).mono ?_
    rw [HN.out]
    rintro e w1 ⟨rfl, rfl⟩
    go_wp2
    go_ret
    exact ⟨by rw [HX.out]; rfl, hE0⟩
  | true =>
  by_cases ha : x.after.length ≤ 20
  case neg =>
    have HX := Lib.hid (itB_nolen ha)
    have HN := Lib.hid hn
    have ha' : (20 : Int) < (m : Int) := by omega
    clear hn hm ha hb0
    go_enter Tryz.func96, Tryz.ntmps96
    go_wp2_with fail
    generalize w.alloc (.cells #[.string (str x.name), .int .u8 (x.kind.toNat : Int), .slice a m c, .string (str x.over), .int .i64 x.width, .int .i64 x.quota] 138) = W0 at *
    refine (rname_any x.name HLn.out W0).mono ?_
    rw [HN.out]
    rintro e w1 ⟨rfl, rfl⟩
    go_wp2
    go_ret
    exact ⟨by rw [HX.out]; rfl, hE0⟩
  have ha' : ¬ (20 : Int) < (m : Int) := by omega
  by_cases hq0 : 0 ≤ x.quota
  case neg =>
    have HX := Lib.hid (itB_noquota (fun h => hq0 h.1))
    have HN := Lib.hid hn
    have hq' : x.quota < 0 := by omega
    clear hn hm ha hq0 hb0
    go_enter Tryz.func96, Tryz.ntmps96
    go_wp2_with fail
    generalize w.alloc (.cells #[.string (str x.name), .int .u8 (x.kind.toNat : Int), .slice a m c, .string (str x.over), .int .i64 x.width, .int .i64 x.quota] 138) = W0 at *
    refine (rname_any x.name HLn.out W0).mono ?_
    rw [HN.out]
    rintro e w1 ⟨rfl, rfl⟩
    go_wp2
    go_ret
    exact ⟨by rw [HX.out]; rfl, hE0⟩
  by_cases hq1 : x.quota ≤ 400
  case neg =>
    have HX := Lib.hid (itB_noquota (fun h => hq1 h.2))
    have HN := Lib.hid hn
    have hq' : ¬ x.quota < 0 := by omega
    have hq2 : 400 < x.quota := by omega
    clear hn hm ha hq0 hq1 hb0
    go_enter Tryz.func96, Tryz.ntmps96
    go_wp2_with fail
    generalize w.alloc (.cells #[.string (str x.name), .int .u8 (x.kind.toNat : Int), .slice a m c, .string (str x.over), .int .i64 x.width, .int .i64 x.quota] 138) = W0 at *
    refine (rname_any x.name HLn.out W0).mono ?_
    rw [HN.out]
    rintro e w1 ⟨rfl, rfl⟩
    go_wp2
    go_ret
    exact ⟨by rw [HX.out]; rfl, hE0⟩
  have hq' : ¬ x.quota < 0 := by omega
  have hq2 : ¬ 400 < x.quota := by omega
  have HN := Lib.hid hn
  have HKh := Lib.hid (fun h => itB_rest hn ha ⟨hq0, hq1⟩ h)
  clear hn hm ha hq0 hq1 hb0
  go_enter Tryz.func96, Tryz.ntmps96
  go_wp2_with fail
  generalize w.alloc (.cells #[.string (str x.name), .int .u8 (x.kind.toNat : Int), .slice a m c, .string (str x.over), .int .i64 x.width, .int .i64 x.quota] 138) = W0 at *
  refine (rname_any x.name HLn.out W0).mono ?_
  rw [HN.out]
  rintro e w1 ⟨rfl, rfl⟩

  go_wp2_with fail
  go_loop [3] (fun i => ∃ j : Nat, j ≤ m ∧ i = .int .i64 j ∧ Hid ((x.after.take j).all nameB = true)) (fun i => m - (intOf i).toNat)
  case atStart => exact ⟨0, by omega, rfl, Lib.hid (by simp)⟩
  case round =>
    obtain ⟨j, hj, rfl, HA⟩ := hrel
    by_cases hlt : j < m
    · have hjl : j < x.after.length := by have := HM.out; omega
      obtain ⟨b, off, rfl, hb, hc, hs⟩ := str_at HR.out hE0 j hjl
      have HS := Lib.hid hs
      clear hs
      cases hy : nameB x.after[j] with
      | true =>
        have HY := Lib.hid hy
        have HA1 := Lib.hid (alls_take hjl HA.out hy)
        clear hy
        go_wp2_with fail
        refine (rname_any _ HS.out _).mono ?_
        rw [HY.out]
        rintro e w2 ⟨rfl, rfl⟩
        go_wp2
        go_round
        case rel => exact ⟨j + 1, by omega, by go_num, HA1⟩
        case measure => simp [intOf]; omega
      | false =>
        have HY := Lib.hid hy
        have HX := Lib.hid (itB_noafter (alls_not hjl hy))
        clear hy
        go_wp2_with fail
        refine (rname_any _ HS.out _).mono ?_
        rw [HY.out]
        rintro e w2 ⟨rfl, rfl⟩
        go_wp2
        go_ret
        exact ⟨by rw [HX.out]; rfl, hE0⟩
    · obtain rfl : j = m := by omega
      have HX := Lib.hid (HKh.out (by have := HA.out; rwa [HM.out, List.take_length] at this))
      clear HA HKh
      by_cases hk0 : x.kind = 0
      · have HX0 := Lib.hid (show itB x = ((str x.over).toList.isEmpty && (x.width == 0)) by rw [HX.out.trans (if_pos hk0), str_toList, Bool.eq_iff_iff]; simp)
        have f0 : ((x.kind.toNat : Int) == 0) = true := by rw [hk0]; rfl
        generalize (x.kind.toNat : Int) = K at *
        clear HX hk0
        go_wp2
        all_goals go_ret
        all_goals
          refine ⟨?_, hE0⟩
          have hX := HX0.out
          clear HX0
          rw [hX]
          simp_all
      have HX0 := Lib.hid (HX.out.trans (if_neg hk0))
      have f0 : ((x.kind.toNat : Int) == 0) = false := by rw [show (0 : Int) = ((0 : UInt8).toNat : Int) from rfl, u8_eq]; simpa using hk0
      clear HX
      by_cases hk1 : x.kind = 1
      case neg =>
        have f1 : ((x.kind.toNat : Int) == 1) = false := by rw [show (1 : Int) = ((1 : UInt8).toNat : Int) from rfl, u8_eq]; simpa using hk1
        have HX1 := Lib.hid (show itB x = false by rw [HX0.out]; simp [hk1])
        generalize (x.kind.toNat : Int) = K at *
        clear hk0 hk1 HX0
        go_wp2
        go_ret
        exact ⟨by rw [HX1.out]; rfl, hE0⟩
      have f1 : ((x.kind.toNat : Int) == 1) = true := by rw [hk1]; rfl
      have HX1 := Lib.hid (show itB x = (nameB x.over && (decide (0 ≤ x.width) && decide (x.width ≤ 40))) by rw [HX0.out]; simp [hk1])
      generalize (x.kind.toNat : Int) = K at *
      clear hk0 hk1 HX0
      go_wp2_with fail
      refine (rname_any x.over HLo.out _).mono ?_
      cases hv : nameB x.over with
      | false =>
        rintro e w3 ⟨rfl, rfl⟩
        have HX2 := Lib.hid (show itB x = false by rw [HX1.out, hv]; rfl)
        clear hv
        go_wp2
        go_ret
        exact ⟨by rw [HX2.out]; rfl, hE0⟩
      | true =>
        rintro e w3 ⟨rfl, rfl⟩
        have HX2 := Lib.hid (show itB x = (decide (0 ≤ x.width) && decide (x.width ≤ 40)) by rw [HX1.out, hv]; rfl)
        clear hv
        by_cases hw0 : 0 ≤ x.width
        · go_wp2
          go_ret
          refine ⟨?_, hE0⟩
          have hX := HX2.out
          clear HX2
          rw [hX]
          simp_all
        · go_wp2
          go_ret
          refine ⟨?_, hE0⟩
          have hX := HX2.out
          clear HX2
          rw [hX]
          simp_all
          try omega

set_option maxHeartbeats 1000000 in
theorem rfright_any (l : List It) (w : World) (v : Value) (h : itE.Row w l v) :
    Calls Tryz.prog 53 #[v] w fun e w' => e = .returned (.bool (fragB l)) ∧ Ext w w' := by
  obtain ⟨a, c, rfl, hlc, hcm⟩ := h.slice
  have HR := Lib.hid h
  have hlm : l.length ≤ 9223372036854775807 := by omega
  clear h
  go_enter Tryz.func53, Tryz.ntmps53
  go_wp2_with fail
  go_loopw [3] (fun i wr => ∃ j : Nat, j ≤ l.length ∧ i = .int .i64 j ∧ Hid ((l.take j).all itB = true) ∧ Ext w wr) (fun i _ => l.length - (intOf i).toNat)
  case atStart => exact ⟨0, by omega, rfl, Lib.hid (by simp), Ext.refl w⟩
  case round =>
    obtain ⟨j, hj, rfl, HA, hE⟩ := hrel
    by_cases hlt : j < l.length
    · obtain ⟨b, off, rfl, hb, aa, m, cc, c0, c1, c2, c3, c4, c5, hs⟩ := it_at HR.out hE j hlt
      have HS := Lib.hid (hs.ext hE)
      clear hs
      cases hy : itB l[j] with
      | true =>
        have HY := Lib.hid hy
        have HA1 := Lib.hid (allI_take hlt HA.out hy)
        clear hy
        go_wp2_with fail
        refine (ritem_any l[j] wr _ HS.out).mono ?_
        rw [HY.out]
        rintro e w1 ⟨rfl, hE1⟩
        have hE2 := hE.trans hE1
        clear hE1 c0 c1 c2 c3 c4 c5
        go_wp2
        go_roundw
        case rel => exact ⟨j + 1, by omega, by go_num, HA1, hE2⟩
        case measure => simp [intOf]; omega
      | false =>
        have HX := Lib.hid (show fragB l = false by unfold fragB; rw [allI_not hlt hy]; rfl)
        have HY := Lib.hid hy
        clear hy
        go_wp2_with fail
        refine (ritem_any l[j] wr _ HS.out).mono ?_
        rw [HY.out]
        rintro e w1 ⟨rfl, hE1⟩
        have hE2 := hE.trans hE1
        clear hE1 c0 c1 c2 c3 c4 c5
        go_wp2
        go_ret
        exact ⟨by rw [HX.out]; rfl, hE2⟩
    · obtain rfl : j = l.length := by omega
      have HX := Lib.hid (show fragB l = decide ((l.length : Int) ≤ 40) by
        have := HA.out; rw [List.take_length] at this
        unfold fragB; rw [this, Bool.true_and, decide_eq_decide]; omega)
      clear HA
      go_wp2
      go_ret
      exact ⟨by rw [HX.out]; rfl, hE⟩
end Go.Proofs.YtdienbcjfljjnaaGreatDoor
