/- The reference of states: in, node. -/
import Derived.Test.YtdienbcjfljjnaaGreatDoorFrgM
import Derived.Test.YtdienbcjfljjnaaGreatDoorSnC
import Derived.Test.YtdienbcjfljjnaaGreatDoorBoxS
open Go.RowKit Go.Shelf
namespace Go.Proofs.YtdienbcjfljjnaaGreatDoor
open Go Go.Proofs Fm

theorem rin_any (x lo hi : Int) (w : World) : Calls Tryz.prog 29 #[.int .i64 x, .int .i64 lo, .int .i64 hi] w fun e w' => e = .returned (.bool (inB lo hi x)) ∧ w = w' := by
  by_cases h1 : lo ≤ x
  · by_cases h2 : x ≤ hi
    · have HX := Lib.hid (show inB lo hi x = true from inB_iff.2 ⟨h1, h2⟩)
      go_enter Tryz.func29, Tryz.ntmps29
      go_wp2
      go_ret
      exact ⟨by rw [HX.out]; rfl, rfl⟩
    · have HX := Lib.hid (show inB lo hi x = false by cases h : inB lo hi x with | false => rfl | true => exact absurd (inB_iff.1 h).2 h2)
      have h3 : hi < x := by omega
      go_enter Tryz.func29, Tryz.ntmps29
      go_wp2
      go_ret
      exact ⟨by rw [HX.out]; rfl, rfl⟩
  · have HX := Lib.hid (show inB lo hi x = false by cases h : inB lo hi x with | false => rfl | true => exact absurd (inB_iff.1 h).1 h1)
    have h3 : x < lo := by omega
    go_enter Tryz.func29, Tryz.ntmps29
    go_wp2
    go_ret
    exact ⟨by rw [HX.out]; rfl, rfl⟩

theorem ndB_ref (n : Nd) : ndB n = (idB n.id && (decide (n.name.length = 0) || nameB n.name) && decide ((n.kind.toNat : Int) ≤ 2) && decide ((n.stand.toNat : Int) ≤ 6) && n.after.all (inB 0 4799) &&
    inB 0 12 n.flow && inB (-1) 4799 n.owner && inB (-1) 999999 n.place && decide (n.after.length ≤ 21) && inB 0 40 n.width && inB 0 400 n.quota && inB 0 10 n.fails && decide (0 ≤ n.tok) && rightT n.val) := by
  have h1 : inB 0 2 (n.kind.toNat : Int) = decide ((n.kind.toNat : Int) ≤ 2) := by unfold inB; rw [decide_eq_true (show (0 : Int) ≤ (n.kind.toNat : Int) by omega), Bool.true_and]
  have h2 : inB 0 6 (n.stand.toNat : Int) = decide ((n.stand.toNat : Int) ≤ 6) := by unfold inB; rw [decide_eq_true (show (0 : Int) ≤ (n.stand.toNat : Int) by omega), Bool.true_and]
  unfold ndB
  simp only [fF, fL, nF, nL, fitB, Bool.and_true, h1, h2]
  generalize idB n.id = x1; generalize (decide (n.name.length = 0) || nameB n.name) = x2; generalize decide ((n.kind.toNat : Int) ≤ 2) = x3; generalize decide ((n.stand.toNat : Int) ≤ 6) = x4; generalize n.after.all (inB 0 4799) = x5
  generalize inB 0 12 n.flow = x6; generalize inB (-1) 4799 n.owner = x7; generalize inB (-1) 999999 n.place = x8; generalize decide (n.after.length ≤ 21) = x9; generalize inB 0 40 n.width = x10; generalize inB 0 400 n.quota = x11; generalize inB 0 10 n.fails = x12; generalize decide (0 ≤ n.tok) = x13; generalize rightT n.val = x14
  ac_rfl

set_option maxRecDepth 100000 in
set_option maxHeartbeats 8000000 in
theorem rnode_any (n : Nd) (hp : partsT n.val ≤ 1000000) (hd : deepT n.val ≤ 1000000) (w : World) (v : Value) (h : NdV w n v) :
    Calls Tryz.prog 30 #[v] w fun e w' => e = .returned (.bool (ndB n)) ∧ Ext w w' := by
  obtain ⟨a, m, c, k, N, s, l, rfl, hr, hl, hid, hnm, i1, i2, i3, i4, i5, i6, i7⟩ := h
  have hm : m = n.after.length := by obtain ⟨_, _, e, _⟩ := hr.slice; injection e
  have hml : m ≤ 9223372036854775807 := by rw [hm]; exact hr.length_le
  have HXX := Lib.hid (ndB_ref n)
  simp only [ndCells]
  obtain ⟨K, hK⟩ : ∃ K : Int, K = (n.kind.toNat : Int) := ⟨_, rfl⟩
  obtain ⟨S, hS⟩ : ∃ S : Int, S = (n.stand.toNat : Int) := ⟨_, rfl⟩
  rw [← hK, ← hS] at HXX
  rw [← hK, ← hS]
  have b1 := BoxL.new w [.string (str n.id), .string (str n.name), .int .u8 K, .int .i64 n.flow, .int .i64 n.owner, .int .i64 n.place, .slice a m c, .int .i64 n.width, .int .i64 n.quota, .int .u8 S, .int .i64 n.fails, .int .i64 n.tok, k, N, s, l] 59
  have e1 := (Ext.refl w).alloc (.cells #[.string (str n.id), .string (str n.name), .int .u8 K, .int .i64 n.flow, .int .i64 n.owner, .int .i64 n.place, .slice a m c, .int .i64 n.width, .int .i64 n.quota, .int .u8 S, .int .i64 n.fails, .int .i64 n.tok, k, N, s, l] 59)
  have HR := Lib.hid (hr.ext e1)
  have HL := Lib.hid (hl.ext e1)
  have HB := Lib.hid b1
  have HW := Lib.hid e1
  have HM := Lib.hid hm
  have HI := Lib.hid hid
  have HN := Lib.hid hnm
  have hss := str_size n.name
  clear hr hl b1 e1 hm hK hS i1 i2 i3 i4 i5 i6 i7 hid hnm
  go_enter Tryz.func30, Tryz.ntmps30
  go_wp2_with fail
  generalize w.alloc _ = W1 at *
  have ⟨p0, p1, p2, p3, p4, p5, p6, p7, p8, p9, p10, p11, p12, p13, p14, p15⟩ := HB.out.n16
  refine (rid_any n.id HI.out W1).mono ?_
  rintro e wq ⟨rfl, rfl⟩
  cases hq : idB n.id with
  | false =>
    have HX := Lib.hid (show ndB n = false by rw [HXX.out, hq]; simp)
    go_wp2
    go_ret
    exact ⟨by rw [HX.out]; rfl, HW.out⟩
  | true =>
  have Q1 := Lib.hid hq
  clear hq
  by_cases hn0 : n.name = []
  case' pos =>
    have Q2 : Hid ((decide (n.name.length = 0) || nameB n.name) = true) := Lib.hid (by rw [hn0]; rfl)
    have e1 : (str n.name).toList = n.name := str_toList n.name
    have e2 : n.name.isEmpty = true := by rw [hn0]; rfl
    clear hn0
  case' neg =>
    have e1 : (str n.name).toList = n.name := str_toList n.name
    have e2 : n.name.isEmpty = false := by cases hc : n.name with | nil => exact absurd hc hn0 | cons _ _ => rfl
    go_wp2_with fail
    refine (rname_any n.name HN.out W1).mono ?_
    rintro e wq ⟨rfl, rfl⟩
    cases hq : nameB n.name
    case false =>
      have HX := Lib.hid (show ndB n = false by rw [HXX.out, hq, Bool.or_false, decide_eq_false (fun h => hn0 (List.eq_nil_of_length_eq_zero h))]; simp)
      clear hn0
      go_wp2
      go_ret
      exact ⟨by rw [HX.out]; rfl, HW.out⟩
    have Q2 : Hid ((decide (n.name.length = 0) || nameB n.name) = true) := Lib.hid (by rw [hq, Bool.or_true])
    clear hq hn0
  all_goals
    by_cases hk : K ≤ 2
    case neg =>
      have hz : decide (K ≤ 2) = false := decide_eq_false hk
      have hk2 : 2 < K := by omega
      have HZ := Lib.hid hz
      clear hz
      have HX := Lib.hid (show ndB n = false by rw [HXX.out, HZ.out]; simp)
      go_wp2
      go_ret
      exact ⟨by rw [HX.out]; rfl, HW.out⟩
    have Q3 := Lib.hid (decide_eq_true hk)
    have hk2 : ¬ 2 < K := by omega
    by_cases hs : S ≤ 6
    case neg =>
      have hz : decide (S ≤ 6) = false := decide_eq_false hs
      have hs2 : 6 < S := by omega
      have HZ := Lib.hid hz
      clear hz
      have HX := Lib.hid (show ndB n = false by rw [HXX.out, HZ.out]; simp)
      go_wp2
      go_ret
      exact ⟨by rw [HX.out]; rfl, HW.out⟩
    have Q4 := Lib.hid (decide_eq_true hs)
    have hs2 : ¬ 6 < S := by omega
    go_wp2_with fail
    clear e1 e2 hk hs hk2 hs2
    go_loop [3] (fun i => ∃ j : Nat, j ≤ m ∧ i = .int .i64 j ∧ Hid ((n.after.take j).all (inB 0 4799) = true)) (fun i => m - (intOf i).toNat)
    case atStart => exact ⟨0, by omega, rfl, Lib.hid (by simp)⟩
    case round =>
    obtain ⟨j, hj, rfl, HA⟩ := hrel
    by_cases hlt : j < m
    case pos =>
      have hjn : j < n.after.length := by have := HM.out; omega
      obtain ⟨b, off, rfl, hb, c0, hi0⟩ := int_at HR.out (Ext.refl _) j hjn
      obtain ⟨X, hX⟩ : ∃ X, X = n.after[j] := ⟨_, rfl⟩
      rw [← hX] at c0 hi0
      have HX := Lib.hid hX
      have hj0 : (0 : Int) ≤ (j : Int) := by omega
      have hj1 : (j : Int) < (m : Int) := by omega
      clear hX hi0
      go_wp2_with fail
      refine (rin_any _ _ _ W1).mono ?_
      rintro e wq ⟨rfl, rfl⟩
      cases hq : inB 0 4799 X with
      | false =>
        have hz : n.after.all (inB 0 4799) = false := by
          cases h : n.after.all (inB 0 4799) with
          | false => rfl
          | true =>
            have := List.all_eq_true.1 h n.after[j] (List.getElem_mem hjn)
            rw [← HX.out, hq] at this
            cases this
        have HZ := Lib.hid hz
        clear hz
        have HX := Lib.hid (show ndB n = false by rw [HXX.out, HZ.out]; simp)
        go_wp2
        go_ret
        exact ⟨by rw [HX.out]; rfl, HW.out⟩
      | true =>
        have HA2 : Hid ((n.after.take (j + 1)).all (inB 0 4799) = true) := Lib.hid (by
          rw [List.take_add_one, List.getElem?_eq_getElem hjn, List.all_append, HA.out, ← HX.out]
          simp [hq])
        clear HA HX hq
        go_wp2
        go_round
        case rel => exact ⟨j + 1, by omega, by go_num, HA2⟩
        case measure => simp [intOf]; omega
    have Q5 : Hid (n.after.all (inB 0 4799) = true) := Lib.hid (by
      have := HA.out
      have hjm : j = n.after.length := by have := HM.out; omega
      rwa [hjm, List.take_length] at this)
    have hj2 : ¬ (j : Int) < (m : Int) := by omega
    clear HA
    go_wp2_with fail
    refine (rin_any _ _ _ W1).mono ?_
    rintro e wq ⟨rfl, rfl⟩
    cases hq0 : inB 0 12 n.flow with
    | false =>
      have HX := Lib.hid (show ndB n = false by rw [HXX.out, hq0]; simp)
      go_wp2
      go_ret
      exact ⟨by rw [HX.out]; rfl, HW.out⟩
    | true =>
    have T0 := Lib.hid hq0
    clear hq0
    go_wp2_with fail
    refine (rin_any _ _ _ W1).mono ?_
    rintro e wq ⟨rfl, rfl⟩
    cases hq1 : inB (-1) 4799 n.owner with
    | false =>
      have HX := Lib.hid (show ndB n = false by rw [HXX.out, hq1]; simp)
      go_wp2
      go_ret
      exact ⟨by rw [HX.out]; rfl, HW.out⟩
    | true =>
    have T1 := Lib.hid hq1
    clear hq1
    go_wp2_with fail
    refine (rin_any _ _ _ W1).mono ?_
    rintro e wq ⟨rfl, rfl⟩
    cases hq2 : inB (-1) 999999 n.place with
    | false =>
      have HX := Lib.hid (show ndB n = false by rw [HXX.out, hq2]; simp)
      go_wp2
      go_ret
      exact ⟨by rw [HX.out]; rfl, HW.out⟩
    | true =>
    have T2 := Lib.hid hq2
    clear hq2
    by_cases hq3 : n.after.length ≤ 21
    case neg =>
      have hz : decide (n.after.length ≤ 21) = false := decide_eq_false hq3
      have hz2 : ¬ (m : Int) ≤ 21 := by have := HM.out; omega
      have HZ := Lib.hid hz
      clear hz hq3
      have HX := Lib.hid (show ndB n = false by rw [HXX.out, HZ.out]; simp)
      go_wp2
      go_ret
      exact ⟨by rw [HX.out]; rfl, HW.out⟩
    have T3 := Lib.hid (decide_eq_true hq3)
    have hz2 : (m : Int) ≤ 21 := by have := HM.out; omega
    clear hq3
    go_wp2_with fail
    refine (rin_any _ _ _ W1).mono ?_
    rintro e wq ⟨rfl, rfl⟩
    cases hq4 : inB 0 40 n.width with
    | false =>
      have HX := Lib.hid (show ndB n = false by rw [HXX.out, hq4]; simp)
      go_wp2
      go_ret
      exact ⟨by rw [HX.out]; rfl, HW.out⟩
    | true =>
    have T4 := Lib.hid hq4
    clear hq4
    go_wp2_with fail
    refine (rin_any _ _ _ W1).mono ?_
    rintro e wq ⟨rfl, rfl⟩
    cases hq5 : inB 0 400 n.quota with
    | false =>
      have HX := Lib.hid (show ndB n = false by rw [HXX.out, hq5]; simp)
      go_wp2
      go_ret
      exact ⟨by rw [HX.out]; rfl, HW.out⟩
    | true =>
    have T5 := Lib.hid hq5
    clear hq5
    go_wp2_with fail
    refine (rin_any _ _ _ W1).mono ?_
    rintro e wq ⟨rfl, rfl⟩
    cases hq6 : inB 0 10 n.fails with
    | false =>
      have HX := Lib.hid (show ndB n = false by rw [HXX.out, hq6]; simp)
      go_wp2
      go_ret
      exact ⟨by rw [HX.out]; rfl, HW.out⟩
    | true =>
    have T6 := Lib.hid hq6
    clear hq6
    by_cases hq7 : 0 ≤ n.tok
    case neg =>
      have hz : decide (0 ≤ n.tok) = false := decide_eq_false hq7
      have HZ := Lib.hid hz
      have hz3 : n.tok < 0 := by omega
      clear hz
      have HX := Lib.hid (show ndB n = false by rw [HXX.out, HZ.out]; simp)
      go_wp2
      go_ret
      exact ⟨by rw [HX.out]; rfl, HW.out⟩
    have T7 := Lib.hid (decide_eq_true hq7)
    go_wp2_with fail
    refine (rright_any n.val W1 _ HL.out hp hd).mono ?_
    rintro e wz ⟨rfl, hEz⟩
    have HEz := Lib.hid (HW.out.trans hEz)
    have HX : Hid (ndB n = rightT n.val) := Lib.hid (by rw [HXX.out, Q1.out, Q2.out, Q3.out, Q4.out, Q5.out, T0.out, T1.out, T2.out, T3.out, T4.out, T5.out, T6.out, T7.out]; simp)
    clear hEz
    go_wp2
    go_ret
    exact ⟨by rw [HX.out]; rfl, HEz.out⟩

/-- The numbers' part. -/
def okS (s : Sn) : Bool := inB 0 400 s.cq && inB 0 12 s.cd && inB 0 40 s.cw && inB 0 9 s.cr && inB 0 12 s.cf && inB 0 12 s.flows && decide (0 ≤ s.tok) && decide (s.nodes.length ≤ 4800)
theorem snB_ref (s : Sn) : snB s = (okS s && s.nodes.all ndB) := by
  unfold snB okS
  simp only [fH, nH, fitB, Bool.and_true]
  ac_rfl
theorem info_ndY2 : (Tryz.prog.info? 59).map (·.size) = some 16 := by kernel_rfl

set_option maxRecDepth 100000 in
set_option maxHeartbeats 8000000 in
theorem rsRight_any (s : Sn) (hp : ∀ n, n ∈ s.nodes → partsT n.val ≤ 1000000 ∧ deepT n.val ≤ 1000000) (w : World) (v : Value) (h : SnV w s v) :
    Calls Tryz.prog 7 #[v] w fun e w' => e = .returned (.bool (snB s)) ∧ Ext w w' := by
  have HP := Lib.hid hp
  obtain ⟨a, m, c, rfl, hr, -⟩ := h
  obtain rfl : m = s.nodes.length := by obtain ⟨_, _, e, _⟩ := hr.slice; injection e
  have hml : s.nodes.length ≤ 9223372036854775807 := hr.length_le
  have HR := Lib.hid hr
  clear hr hp
  have h1 := (BoxL.new w [.int .i64 s.cq, .int .i64 s.cd, .int .i64 s.cw, .int .i64 s.cr, .int .i64 s.cf, .int .i64 s.flows, .slice a s.nodes.length c, .int .i64 s.tok] 26).ext ((Ext.refl _).alloc (.cells #[.int .i64 s.cq, .int .i64 s.cd, .int .i64 s.cw, .int .i64 s.cr, .int .i64 s.cf] 23))
  have h2 := BoxL.new (w.alloc (.cells #[.int .i64 s.cq, .int .i64 s.cd, .int .i64 s.cw, .int .i64 s.cr, .int .i64 s.cf, .int .i64 s.flows, .slice a s.nodes.length c, .int .i64 s.tok] 26)) [.int .i64 s.cq, .int .i64 s.cd, .int .i64 s.cw, .int .i64 s.cr, .int .i64 s.cf] 23
  have hz : (w.alloc (.cells #[.int .i64 s.cq, .int .i64 s.cd, .int .i64 s.cw, .int .i64 s.cr, .int .i64 s.cf, .int .i64 s.flows, .slice a s.nodes.length c, .int .i64 s.tok] 26)).heap.size = w.heap.size + 1 := by simp
  rw [hz] at h2
  have hE := ((Ext.refl w).alloc (.cells #[.int .i64 s.cq, .int .i64 s.cd, .int .i64 s.cw, .int .i64 s.cr, .int .i64 s.cf, .int .i64 s.flows, .slice a s.nodes.length c, .int .i64 s.tok] 26)).alloc (.cells #[.int .i64 s.cq, .int .i64 s.cd, .int .i64 s.cw, .int .i64 s.cr, .int .i64 s.cf] 23)
  clear hz
  go_enter Tryz.func7, Tryz.ntmps7
  go_upto_region 2 with (fail)
  have H1 := Lib.hid h1
  have HE := Lib.hid hE
  have r0 := h2.cell 0 _ rfl
  have r1 := h2.cell 1 _ rfl
  have r2 := h2.cell 2 _ rfl
  have r3 := h2.cell 3 _ rfl
  have r4 := h2.cell 4 _ rfl
  have p5 := h1.cell 5 _ rfl
  have p6 := h1.cell 6 _ rfl
  have p7 := h1.cell 7 _ rfl
  clear h1 h2 hE
  generalize (w.alloc _).alloc _ = W1 at *
  go_cut [4] (fun p w' => p = .bool (okS s) ∧ w' = W1)
  case first =>
    go_wp2_with fail
    refine (rin_any _ _ _ W1).mono ?_
    rintro e wq ⟨rfl, rfl⟩
    cases hq0 : inB 0 400 s.cq with
    | false =>
      have HX : Hid (okS s = false) := Lib.hid (by unfold okS; rw [hq0]; simp)
      go_wp2
      go_meet
      case rel => exact ⟨by first | (rw [HX.out]; done) | (rw [HX.out]; exact congrArg Value.bool (decide_eq_false (by omega))) | (rw [HX.out]; exact congrArg Value.bool (decide_eq_true (by omega))), rfl⟩
    | true =>
    have T0 := Lib.hid hq0
    clear hq0
    go_wp2_with fail
    refine (rin_any _ _ _ W1).mono ?_
    rintro e wq ⟨rfl, rfl⟩
    cases hq1 : inB 0 12 s.cd with
    | false =>
      have HX : Hid (okS s = false) := Lib.hid (by unfold okS; rw [hq1]; simp)
      go_wp2
      go_meet
      case rel => exact ⟨by first | (rw [HX.out]; done) | (rw [HX.out]; exact congrArg Value.bool (decide_eq_false (by omega))) | (rw [HX.out]; exact congrArg Value.bool (decide_eq_true (by omega))), rfl⟩
    | true =>
    have T1 := Lib.hid hq1
    clear hq1
    go_wp2_with fail
    refine (rin_any _ _ _ W1).mono ?_
    rintro e wq ⟨rfl, rfl⟩
    cases hq2 : inB 0 40 s.cw with
    | false =>
      have HX : Hid (okS s = false) := Lib.hid (by unfold okS; rw [hq2]; simp)
      go_wp2
      go_meet
      case rel => exact ⟨by first | (rw [HX.out]; done) | (rw [HX.out]; exact congrArg Value.bool (decide_eq_false (by omega))) | (rw [HX.out]; exact congrArg Value.bool (decide_eq_true (by omega))), rfl⟩
    | true =>
    have T2 := Lib.hid hq2
    clear hq2
    go_wp2_with fail
    refine (rin_any _ _ _ W1).mono ?_
    rintro e wq ⟨rfl, rfl⟩
    cases hq3 : inB 0 9 s.cr with
    | false =>
      have HX : Hid (okS s = false) := Lib.hid (by unfold okS; rw [hq3]; simp)
      go_wp2
      go_meet
      case rel => exact ⟨by first | (rw [HX.out]; done) | (rw [HX.out]; exact congrArg Value.bool (decide_eq_false (by omega))) | (rw [HX.out]; exact congrArg Value.bool (decide_eq_true (by omega))), rfl⟩
    | true =>
    have T3 := Lib.hid hq3
    clear hq3
    go_wp2_with fail
    refine (rin_any _ _ _ W1).mono ?_
    rintro e wq ⟨rfl, rfl⟩
    cases hq4 : inB 0 12 s.cf with
    | false =>
      have HX : Hid (okS s = false) := Lib.hid (by unfold okS; rw [hq4]; simp)
      go_wp2
      go_meet
      case rel => exact ⟨by first | (rw [HX.out]; done) | (rw [HX.out]; exact congrArg Value.bool (decide_eq_false (by omega))) | (rw [HX.out]; exact congrArg Value.bool (decide_eq_true (by omega))), rfl⟩
    | true =>
    have T4 := Lib.hid hq4
    clear hq4
    go_wp2_with fail
    refine (rin_any _ _ _ W1).mono ?_
    rintro e wq ⟨rfl, rfl⟩
    cases hq5 : inB 0 12 s.flows with
    | false =>
      have HX : Hid (okS s = false) := Lib.hid (by unfold okS; rw [hq5]; simp)
      go_wp2
      go_meet
      case rel => exact ⟨by first | (rw [HX.out]; done) | (rw [HX.out]; exact congrArg Value.bool (decide_eq_false (by omega))) | (rw [HX.out]; exact congrArg Value.bool (decide_eq_true (by omega))), rfl⟩
    | true =>
    have T5 := Lib.hid hq5
    clear hq5
    by_cases hq6 : 0 ≤ s.tok
    case neg =>
      have HZ := Lib.hid (decide_eq_false hq6)
      have hz3 : s.tok < 0 := by omega
      have HX : Hid (okS s = false) := Lib.hid (by unfold okS; rw [HZ.out]; simp)
      go_wp2
      go_meet
      case rel => exact ⟨by first | (rw [HX.out]; done) | (rw [HX.out]; exact congrArg Value.bool (decide_eq_false (by omega))) | (rw [HX.out]; exact congrArg Value.bool (decide_eq_true (by omega))), rfl⟩
    have T6 := Lib.hid (decide_eq_true hq6)
    by_cases hq7 : s.nodes.length ≤ 4800
    case neg =>
      have HZ := Lib.hid (decide_eq_false hq7)
      have hz3 : ¬ (s.nodes.length : Int) ≤ 4800 := by omega
      have HX : Hid (okS s = false) := Lib.hid (by unfold okS; rw [HZ.out]; simp)
      go_wp2
      go_meet
      case rel => exact ⟨by first | (rw [HX.out]; done) | (rw [HX.out]; exact congrArg Value.bool (decide_eq_false (by omega))) | (rw [HX.out]; exact congrArg Value.bool (decide_eq_true (by omega))), rfl⟩
    have T7 := Lib.hid (decide_eq_true hq7)
    have hz3 : (s.nodes.length : Int) ≤ 4800 := by omega
    have HX : Hid (okS s = true) := Lib.hid (by unfold okS; rw [T0.out, T1.out, T2.out, T3.out, T4.out, T5.out, T6.out, T7.out]; rfl)
    go_wp2
    go_meet
    case rel => exact ⟨by first | (rw [HX.out]; done) | (rw [HX.out]; exact congrArg Value.bool (decide_eq_false (by omega))) | (rw [HX.out]; exact congrArg Value.bool (decide_eq_true (by omega))), rfl⟩
  case rest =>
  obtain ⟨rfl, rfl⟩ := hcut
  clear r0 r1 r2 r3 r4 p5 p6 p7
  obtain ⟨ok, hok⟩ : ∃ ok, ok = okS s := ⟨_, rfl⟩
  rw [← hok]
  have HOk := Lib.hid hok
  clear hok
  go_wp2_with fail
  go_loopw [4, 5] (fun ev i wr => ∃ (k : Nat) (eb : Bool), k ≤ s.nodes.length ∧ ev = .bool eb ∧ i = .int .i64 k ∧ Hid (eb = (ok && (s.nodes.take k).all ndB)) ∧ Hid (Ext wc wr)) (fun _ i _ => s.nodes.length - (intOf i).toNat)
  case atStart => exact ⟨0, _, by omega, rfl, rfl, Lib.hid (by simp), Lib.hid (Ext.refl _)⟩
  case round =>
  obtain ⟨k, eb, hk, rfl, rfl, HB, HEr⟩ := hrel
  have p6 : wr.cell? ⟨w.heap.size, 6, none⟩ = some (.slice a s.nodes.length c) := (H1.out.ext HEr.out).cell 6 _ rfl
  by_cases hlk : k < s.nodes.length
  case neg =>
    have hk2 : ¬ (k : Int) < (s.nodes.length : Int) := by omega
    have HX : Hid (snB s = eb) := Lib.hid (by
      have hks : k = s.nodes.length := by omega
      rw [HB.out, HOk.out, hks, List.take_length, snB_ref])
    clear HB hlk
    go_wp2
    go_ret
    exact ⟨by rw [HX.out]; rfl, HE.out.trans HEr.out⟩
  have hk0 : (0 : Int) ≤ (k : Int) := by omega
  have hk1 : (k : Int) < (s.nodes.length : Int) := by omega
  cases eb with
  | false =>
    have HX : Hid (snB s = false) := Lib.hid (by
      have e : s.nodes.all ndB = ((s.nodes.take k).all ndB && (s.nodes.drop k).all ndB) := by rw [← List.all_append, List.take_append_drop]
      rw [snB_ref, e, ← Bool.and_assoc, ← HOk.out, ← HB.out]; rfl)
    clear HB
    go_wp2
    go_ret
    exact ⟨by rw [HX.out]; rfl, HE.out.trans HEr.out⟩
  | true =>
    obtain ⟨b, off, rfl, hb, C, hC, hC1, hRg, hs⟩ := nd_op HR.out (HE.out.trans HEr.out) k hlk
    have HC : Hid (wr.rangeAt b (off + k * 16) C) := Lib.hid hRg
    have HCi : Hid ((Tryz.prog.info? 59).map (·.size) = some C.length) := Lib.hid (by rw [hC]; exact info_ndY2)
    have HNd := Lib.hid (hs.ext (HE.out.trans HEr.out))
    have HPk := Lib.hid (HP.out _ (List.getElem_mem hlk))
    have HB2 : Hid (ndB s.nodes[k] = (ok && (s.nodes.take (k + 1)).all ndB)) := Lib.hid (by
      rw [List.take_add_one, List.getElem?_eq_getElem hlk, List.all_append, ← Bool.and_assoc, ← HB.out]
      simp)
    clear hC hC1 hRg hs hb HB
    generalize s.nodes[k] = nk at *
    go_wp2_with (refine wpList_load_mid rfl _ _ rfl _ _ rfl C _ HC.out Tryz.underlying59 rfl HCi.out ?_)
    refine (rnode_any nk HPk.out.1 HPk.out.2 wr _ HNd.out).mono ?_
    rintro e w3 ⟨rfl, hE3⟩
    have HE4 := Lib.hid (HEr.out.trans hE3)
    clear hE3 HC HNd HPk HEr p6
    generalize ndB nk = lb at *
    go_wp2
    go_roundw
    case rel => exact ⟨k + 1, lb, by omega, rfl, by go_num, HB2, HE4⟩
    case measure => simp [intOf]; omega
end Go.Proofs.YtdienbcjfljjnaaGreatDoor
