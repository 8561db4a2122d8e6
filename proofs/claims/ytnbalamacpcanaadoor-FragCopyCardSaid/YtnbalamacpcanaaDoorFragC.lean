/- Walks of package frag: fits, Right; the reference's item, Right. -/
import Derived.Test.YtnbalamacpcanaaDoorFragB
import Derived.Test.YtnbalamacpcanaaDoorBoxL
open Go.RowKit Go.Shelf
namespace Go.Proofs.YtnbalamacpcanaaDoor
open Go Go.Proofs Fm

theorem ffits1_any (s : List UInt8) (hs : s.length ≤ 9223372036854775807) (w : World) :
    Calls Tryd.prog 124 #[.string (str s)] w fun e w' => e = .returned (.bool (!nameB s)) ∧ Ext w w' := by
  cases hb : nameB s with
  | true =>
    go_enter Tryd.func124, Tryd.ntmps124
    go_wp2_with fail
    refine (name_any s hs w).mono ?_
    rw [hb]
    rintro e w1 ⟨rfl, hE⟩
    clear hb
    go_wp2
    go_ret
    exact ⟨rfl, hE⟩
  | false =>
    go_enter Tryd.func124, Tryd.ntmps124
    go_wp2_with fail
    refine (name_any s hs w).mono ?_
    rw [hb]
    rintro e w1 ⟨rfl, hE⟩
    clear hb
    go_wp2
    go_ret
    exact ⟨rfl, hE⟩

theorem any_not_all (l : List (List UInt8)) : l.any (fun s => !nameB s) = !l.all nameB := by
  induction l with
  | nil => rfl
  | cons s l ih => rw [List.any_cons, List.all_cons, ih]; cases nameB s <;> rfl
theorem anyI_not_all (l : List It) : l.any (fun s => !itB s) = !l.all itB := by
  induction l with
  | nil => rfl
  | cons s l ih => rw [List.any_cons, List.all_cons, ih]; cases itB s <;> rfl
theorem itB_noname {x : It} (h : nameB x.name = false) : itB x = false := by unfold itB; rw [h]; rfl
theorem itB_nolen {x : It} (h : ¬ x.after.length ≤ 20) : itB x = false := by
  cases e : itB x with
  | false => rfl
  | true => exact absurd (itB_iff.1 e).2.1 h
theorem itB_noquota {x : It} (h : ¬ (0 ≤ x.quota ∧ x.quota ≤ 400)) : itB x = false := by
  cases e : itB x with
  | false => rfl
  | true => exact absurd ⟨(itB_iff.1 e).2.2.1, (itB_iff.1 e).2.2.2.1⟩ h
theorem itB_noafter {x : It} (h : x.after.all nameB = false) : itB x = false := by
  cases e : itB x with
  | false => rfl
  | true => rw [(itB_iff.1 e).2.2.2.2.1] at h; cases h
theorem itB_rest {x : It} (h1 : nameB x.name = true) (h2 : x.after.length ≤ 20) (h3 : 0 ≤ x.quota ∧ x.quota ≤ 400) (h4 : x.after.all nameB = true) :
    itB x = (if x.kind = 0 then decide (x.over = []) && decide (x.width = 0) else decide (x.kind = 1) && nameB x.over && (decide (0 ≤ x.width) && decide (x.width ≤ 40))) := by
  unfold itB; rw [h1, h4]; simp [h2, h3.1, h3.2]

set_option maxHeartbeats 4000000 in
theorem ffits_any (x : It) (w : World) (v : Value) (h : ItV w x v) :
    Calls Tryd.prog 80 #[v] w fun e w' => e = .returned (.bool (itB x)) ∧ Ext w w' := by
  obtain ⟨a, m, c, rfl, hr, ln, lo, iw, iq⟩ := h
  have hm : m = x.after.length := by
    obtain ⟨_, _, e, _⟩ := hr.slice
    injection e
  have HR := Lib.hid hr
  have HLn := Lib.hid ln
  have HLo := Lib.hid lo
  clear hr ln lo
  have hss := str_size x.over
  have hml : m ≤ 9223372036854775807 := by rw [hm]; exact HR.out.length_le
  have HE0 := Lib.hid ((Ext.refl w).alloc (.cells #[.string (str x.name), .int .u8 (x.kind.toNat : Int), .slice a m c, .string (str x.over), .int .i64 x.width, .int .i64 x.quota] 47))
  have HB0 := Lib.hid (BoxL.new w [.string (str x.name), .int .u8 (x.kind.toNat : Int), .slice a m c, .string (str x.over), .int .i64 x.width, .int .i64 x.quota] 47)
  have hE0 := HE0.out
  have hb0 : BoxL (w.alloc (.cells #[.string (str x.name), .int .u8 (x.kind.toNat : Int), .slice a m c, .string (str x.over), .int .i64 x.width, .int .i64 x.quota] 47)) w.heap.size [.string (str x.name), .int .u8 (x.kind.toNat : Int), .slice a m c, .string (str x.over), .int .i64 x.width, .int .i64 x.quota] := HB0.out
  clear HE0 HB0
  cases hn : nameB x.name with
  | false =>
    have HX := Lib.hid (itB_noname hn)
    have HN := Lib.hid hn
    clear hn hm
    go_enter Tryd.func80, Tryd.ntmps80
    go_wp2_with fail
    generalize w.alloc (.cells #[.string (str x.name), .int .u8 (x.kind.toNat : Int), .slice a m c, .string (str x.over), .int .i64 x.width, .int .i64 x.quota] 47) = W0 at *
    refine (name_any x.name HLn.out W0).mono ?_
    rw [HN.out]
    rintro e w1 ⟨rfl, hE1⟩
    have HE1 := Lib.hid (hE0.trans hE1)
    clear hE1 hb0 hE0
    go_wp2
    go_ret
    exact ⟨by rw [HX.out]; rfl, HE1.out⟩
  | true =>
  by_cases ha : x.after.length ≤ 20
  case neg =>
    have HX := Lib.hid (itB_nolen ha)
    have HN := Lib.hid hn
    have ha' : (20 : Int) < (m : Int) := by omega
    clear hn hm ha
    go_enter Tryd.func80, Tryd.ntmps80
    go_wp2_with fail
    generalize w.alloc (.cells #[.string (str x.name), .int .u8 (x.kind.toNat : Int), .slice a m c, .string (str x.over), .int .i64 x.width, .int .i64 x.quota] 47) = W0 at *
    refine (name_any x.name HLn.out W0).mono ?_
    rw [HN.out]
    rintro e w1 ⟨rfl, hE1⟩
    have HE1 := Lib.hid (hE0.trans hE1)
    obtain ⟨p0, p1, p2, p3, p4, p5⟩ := (hb0.ext hE1).six
    clear hE1 hb0 hE0
    go_wp2
    go_ret
    exact ⟨by rw [HX.out]; rfl, HE1.out⟩
  have ha' : ¬ (20 : Int) < (m : Int) := by omega
  by_cases hq : 0 ≤ x.quota ∧ x.quota ≤ 400
  case neg =>
    have HX := Lib.hid (itB_noquota hq)
    have HN := Lib.hid hn
    have HQ := Lib.hid (show (decide (0 ≤ x.quota) && decide (x.quota ≤ 400)) = false by simp; omega)
    clear hn hm ha hq
    go_enter Tryd.func80, Tryd.ntmps80
    go_wp2_with fail
    generalize w.alloc (.cells #[.string (str x.name), .int .u8 (x.kind.toNat : Int), .slice a m c, .string (str x.over), .int .i64 x.width, .int .i64 x.quota] 47) = W0 at *
    refine (name_any x.name HLn.out W0).mono ?_
    rw [HN.out]
    rintro e w1 ⟨rfl, hE1⟩
    have HE1 := Lib.hid (hE0.trans hE1)
    obtain ⟨p0, p1, p2, p3, p4, p5⟩ := (hb0.ext hE1).six
    clear hE1 hb0 hE0
    go_wp2_with fail
    refine (within_any x.quota 400 w1).mono ?_
    rw [HQ.out]
    rintro e w2 ⟨rfl, rfl⟩
    go_wp2
    go_ret
    exact ⟨by rw [HX.out]; rfl, HE1.out⟩
  have HQ := Lib.hid (show (decide (0 ≤ x.quota) && decide (x.quota ≤ 400)) = true by simp; omega)
  have HN := Lib.hid hn
  have HK := fun h => itB_rest hn ha hq h
  have HKh := Lib.hid HK
  clear HK
  have HA := Lib.hid (any_not_all x.after)
  clear hn hm ha hq
  go_enter Tryd.func80, Tryd.ntmps80
  go_wp2_with fail
  generalize w.alloc (.cells #[.string (str x.name), .int .u8 (x.kind.toNat : Int), .slice a m c, .string (str x.over), .int .i64 x.width, .int .i64 x.quota] 47) = W0 at *
  refine (name_any x.name HLn.out W0).mono ?_
  rw [HN.out]
  rintro e w1 ⟨rfl, hE1⟩
  have HE1 := Lib.hid (hE0.trans hE1)
  have HB1 := Lib.hid (hb0.ext hE1)
  obtain ⟨p0, p1, p2, p3, p4, p5⟩ := HB1.out.six
  clear hE1 hb0 hE0
  go_wp2_with fail
  refine (within_any x.quota 400 w1).mono ?_
  rw [HQ.out]
  rintro e w2 ⟨rfl, rfl⟩
  go_wp2_with fail
  refine (hasS_any x.after 124 Tryd.call124 #[] (fun s => !nameB s) w1 _ (HR.out.ext HE1.out) (fun s w' _ _ hs => ffits1_any s hs w')).mono ?_
  rw [HA.out]
  rintro e w2 ⟨rfl, hE2⟩
  have HE2 := Lib.hid (HE1.out.trans hE2)
  have HB2 := Lib.hid (HB1.out.ext hE2)
  clear hE2 p0 p1 p2 p3 p4 p5 HE1 HB1
  obtain ⟨p0, p1, p2, p3, p4, p5⟩ := HB2.out.six
  cases hall : x.after.all nameB with
  | false =>
    have HX := Lib.hid (itB_noafter hall)
    clear hall
    go_wp2
    go_ret
    exact ⟨by rw [HX.out]; rfl, HE2.out⟩
  | true =>
  have HX := Lib.hid (HKh.out hall)
  clear hall HKh
  by_cases hk0 : x.kind = 0
  · have HX0 := Lib.hid (show itB x = ((str x.over).toList.isEmpty && (x.width == 0)) by rw [HX.out.trans (if_pos hk0), str_toList, Bool.eq_iff_iff]; simp)
    have f0 : ((x.kind.toNat : Int) == 0) = true := by rw [hk0]; rfl
    generalize (x.kind.toNat : Int) = K at *
    clear HX hk0
    go_wp2
    all_goals go_ret
    all_goals
      refine ⟨?_, HE2.out⟩
      have hX := HX0.out
      clear HX0
      rw [hX]
      simp_all
  have HX0 := Lib.hid (HX.out.trans (if_neg hk0))
  have f0 : ((x.kind.toNat : Int) == 0) = false := by rw [show (0 : Int) = ((0 : UInt8).toNat : Int) from rfl, u8_eq]; simpa using hk0
  clear HX
  by_cases hk1 : x.kind = 1
  case neg =>
    have f1 : ((x.kind.toNat : Int) == 1) = false := by rw [show (1 : Int) = ((1 : UInt8).toNat : Int) from rfl, u8_eq]; simpa using hk1
    have HX1 := Lib.hid (show itB x = false by rw [HX0.out]; simp [hk1])
    generalize (x.kind.toNat : Int) = K at *
    clear hk0 hk1 HX0
    go_wp2
    go_ret
    exact ⟨by rw [HX1.out]; rfl, HE2.out⟩
  have f1 : ((x.kind.toNat : Int) == 1) = true := by rw [hk1]; rfl
  have HX1 := Lib.hid (show itB x = (nameB x.over && (decide (0 ≤ x.width) && decide (x.width ≤ 40))) by rw [HX0.out]; simp [hk1])
  generalize (x.kind.toNat : Int) = K at *
  clear hk0 hk1 HX0
  go_wp2_with fail
  refine (name_any x.over HLo.out w2).mono ?_
  cases hv : nameB x.over with
  | false =>
    rintro e w3 ⟨rfl, hE3⟩
    have HE3 := Lib.hid (HE2.out.trans hE3)
    have HX2 := Lib.hid (show itB x = false by rw [HX1.out, hv]; rfl)
    clear hE3 hv
    go_wp2
    go_ret
    exact ⟨by rw [HX2.out]; rfl, HE3.out⟩
  | true =>
    rintro e w3 ⟨rfl, hE3⟩
    have HE3 := Lib.hid (HE2.out.trans hE3)
    have HB3 := Lib.hid (HB2.out.ext hE3)
    have HX2 := Lib.hid (show itB x = (decide (0 ≤ x.width) && decide (x.width ≤ 40)) by rw [HX1.out, hv]; rfl)
    clear hE3 hv p0 p1 p2 p3 p4 p5
    obtain ⟨p0, p1, p2, p3, p4, p5⟩ := HB3.out.six
    go_wp2_with fail
    refine (within_any x.width 40 w3).mono ?_
    rw [← HX2.out]
    rintro e w4 ⟨rfl, rfl⟩
    go_wp2
    go_ret
    exact ⟨rfl, HE3.out⟩

theorem right1_any (x : It) (w : World) (v : Value) (h : ItV w x v) :
    Calls Tryd.prog 79 #[v] w fun e w' => e = .returned (.bool (!itB x)) ∧ Ext w w' := by
  have HI := Lib.hid h
  obtain ⟨a, m, c, rfl, -⟩ := h
  have hE0 := (Ext.refl w).alloc (.cells #[.string (str x.name), .int .u8 (x.kind.toNat : Int), .slice a m c, .string (str x.over), .int .i64 x.width, .int .i64 x.quota] 47)
  cases hb : itB x with
  | true =>
    have HB := Lib.hid hb
    clear hb
    go_enter Tryd.func79, Tryd.ntmps79
    go_wp2_with fail
    refine (ffits_any x _ _ (HI.out.ext hE0)).mono ?_
    rw [HB.out]
    rintro e w1 ⟨rfl, hE⟩
    have hE1 := hE0.trans hE
    go_wp2
    go_ret
    exact ⟨rfl, hE1⟩
  | false =>
    have HB := Lib.hid hb
    clear hb
    go_enter Tryd.func79, Tryd.ntmps79
    go_wp2_with fail
    refine (ffits_any x _ _ (HI.out.ext hE0)).mono ?_
    rw [HB.out]
    rintro e w1 ⟨rfl, hE⟩
    have hE1 := hE0.trans hE
    go_wp2
    go_ret
    exact ⟨rfl, hE1⟩

set_option maxHeartbeats 1000000 in
theorem fright_any (l : List It) (w : World) (v : Value) (h : itE.Row w l v) :
    Calls Tryd.prog 31 #[v] w fun e w' => e = .returned (.bool (fragB l)) ∧ Ext w w' := by
  obtain ⟨a, c, rfl, hlc, hcm⟩ := h.slice
  have HR := Lib.hid h
  clear h
  by_cases hl : l.length ≤ 40
  case neg =>
    have HX := Lib.hid (show fragB l = false by unfold fragB; simp [hl])
    have hl' : ¬ (l.length : Int) ≤ 40 := by omega
    clear hl
    go_enter Tryd.func31, Tryd.ntmps31
    go_wp2
    go_ret
    exact ⟨by rw [HX.out]; rfl, Ext.refl w⟩
  have HX := Lib.hid (show fragB l = l.all itB by unfold fragB; simp [hl])
  have hl' : (l.length : Int) ≤ 40 := by omega
  have HA := Lib.hid (anyI_not_all l)
  clear hl
  go_enter Tryd.func31, Tryd.ntmps31
  go_wp2_with fail
  refine (hasI_any l 79 Tryd.call79 #[] (fun s => !itB s) w _ HR.out (fun s w' x _ _ hs => right1_any s w' x hs)).mono ?_
  rw [HA.out]
  rintro e w2 ⟨rfl, hE2⟩
  cases hb : l.all itB with
  | true =>
    have HX2 := Lib.hid (HX.out.trans hb)
    clear hb
    go_wp2
    go_ret
    exact ⟨by rw [HX2.out]; rfl, hE2⟩
  | false =>
    have HX2 := Lib.hid (HX.out.trans hb)
    clear hb
    go_wp2
    go_ret
    exact ⟨by rw [HX2.out]; rfl, hE2⟩
end Go.Proofs.YtnbalamacpcanaaDoor
