/- Walks of package snap: fits, Right. -/
import Derived.Test.YtdienbcjfljjnaaGreatDoorSnA
open Go.RowKit Go.Shelf
namespace Go.Proofs.YtdienbcjfljjnaaGreatDoor
open Go Go.Proofs Fm

theorem hasPlace_any (l : List Int) (w : World) (v : Value) (h : intE.Row w l v) :
    Calls Tryz.prog 87 #[v, .func (.func 85) #[] #[]] w fun e w' => e = .returned (.bool (!l.all (inB 0 4799))) ∧ Ext w w' := by
  refine (hasN_any l 85 Tryz.call85 #[] (fun i => if h : i < l.length then !inB 0 4799 l[i] else false) w v h (fun i hi w' hE _ => ?_)).mono ?_
  · simp only [dif_pos hi]
    exact place1_any l[i] w'
  · rintro e w' ⟨b, rfl, hb, hE⟩
    refine ⟨?_, hE⟩
    congr 2
    rw [Bool.eq_iff_iff, hb, Bool.not_eq_true', ← Bool.not_eq_true, List.all_eq_true]
    constructor
    · rintro ⟨i, hi, hq⟩ h
      simp only [dif_pos hi] at hq
      rw [h _ (List.getElem_mem hi)] at hq
      cases hq
    · intro h
      rw [Classical.not_forall] at h
      obtain ⟨x, h⟩ := h
      rw [Classical.not_imp] at h
      obtain ⟨i, hi, rfl⟩ := List.getElem_of_mem h.1
      refine ⟨i, hi, ?_⟩
      simp only [dif_pos hi]
      simpa using h.2

set_option maxRecDepth 100000 in
set_option maxHeartbeats 8000000 in
theorem nfits_any (n : Nd) (w : World) (v : Value) (h : NdV w n v) :
    Calls Tryz.prog 39 #[v] w fun e w' => e = .returned (.bool (ndB n)) ∧ Ext w w' := by
  obtain ⟨a, m, c, k, N, s, l, rfl, hr, hl, hid, hnm, i1, i2, i3, i4, i5, i6, i7⟩ := h
  have hm : m = n.after.length := by obtain ⟨_, _, e, _⟩ := hr.slice; injection e
  have hml : m ≤ 9223372036854775807 := by rw [hm]; exact hr.length_le
  simp only [ndCells]
  obtain ⟨K, hK⟩ : ∃ K : Int, K = (n.kind.toNat : Int) := ⟨_, rfl⟩
  obtain ⟨S, hS⟩ : ∃ S : Int, S = (n.stand.toNat : Int) := ⟨_, rfl⟩
  have hK0 : 0 ≤ K := by omega
  have hK1 : K ≤ 255 := by have := n.kind.toNat_lt; omega
  have hS0 : 0 ≤ S := by omega
  have hS1 : S ≤ 255 := by have := n.stand.toNat_lt; omega
  rw [← hK, ← hS]
  have b1 := BoxL.new w [.string (str n.id), .string (str n.name), .int .u8 K, .int .i64 n.flow, .int .i64 n.owner, .int .i64 n.place, .slice a m c, .int .i64 n.width, .int .i64 n.quota, .int .u8 S, .int .i64 n.fails, .int .i64 n.tok, k, N, s, l] 59
  have e1 := (Ext.refl w).alloc (.cells #[.string (str n.id), .string (str n.name), .int .u8 K, .int .i64 n.flow, .int .i64 n.owner, .int .i64 n.place, .slice a m c, .int .i64 n.width, .int .i64 n.quota, .int .u8 S, .int .i64 n.fails, .int .i64 n.tok, k, N, s, l] 59)
  have z1 : (w.alloc (.cells #[.string (str n.id), .string (str n.name), .int .u8 K, .int .i64 n.flow, .int .i64 n.owner, .int .i64 n.place, .slice a m c, .int .i64 n.width, .int .i64 n.quota, .int .u8 S, .int .i64 n.fails, .int .i64 n.tok, k, N, s, l] 59)).heap.size = w.heap.size + 1 := by simp
  have b2 := BoxL.new (w.alloc (.cells #[.string (str n.id), .string (str n.name), .int .u8 K, .int .i64 n.flow, .int .i64 n.owner, .int .i64 n.place, .slice a m c, .int .i64 n.width, .int .i64 n.quota, .int .u8 S, .int .i64 n.fails, .int .i64 n.tok, k, N, s, l] 59)) [.int .i64 K, .int .i64 S] 116
  have e2 := e1.alloc (.cells #[.int .i64 K, .int .i64 S] 116)
  have b1 := b1.ext ((Ext.refl _).alloc (.cells #[.int .i64 K, .int .i64 S] 116))
  have z2 : ((w.alloc (.cells #[.string (str n.id), .string (str n.name), .int .u8 K, .int .i64 n.flow, .int .i64 n.owner, .int .i64 n.place, .slice a m c, .int .i64 n.width, .int .i64 n.quota, .int .u8 S, .int .i64 n.fails, .int .i64 n.tok, k, N, s, l] 59)).alloc (.cells #[.int .i64 K, .int .i64 S] 116)).heap.size = w.heap.size + 1 + 1 := by simp
  rw [z1] at b2
  have kI : isI64 K := by unfold isI64; omega
  have sI : isI64 S := by unfold isI64; omega
  have hp1 : Pts ((w.alloc (.cells #[.string (str n.id), .string (str n.name), .int .u8 K, .int .i64 n.flow, .int .i64 n.owner, .int .i64 n.place, .slice a m c, .int .i64 n.width, .int .i64 n.quota, .int .u8 S, .int .i64 n.fails, .int .i64 n.tok, k, N, s, l] 59)).alloc (.cells #[.int .i64 K, .int .i64 S] 116)) (firstF w.heap.size (w.heap.size + 1)) (nF n) := by
    unfold firstF nF; rw [← hK]
    exact .cons (b2.cell 0 _ rfl) b2.lt kI (.cons (b1.cell 3 _ rfl) b1.lt i1 (.cons (b1.cell 4 _ rfl) b1.lt i2 (.cons (b1.cell 5 _ rfl) b1.lt i3 (.nil _))))
  have hp2 : Pts ((w.alloc (.cells #[.string (str n.id), .string (str n.name), .int .u8 K, .int .i64 n.flow, .int .i64 n.owner, .int .i64 n.place, .slice a m c, .int .i64 n.width, .int .i64 n.quota, .int .u8 S, .int .i64 n.fails, .int .i64 n.tok, k, N, s, l] 59)).alloc (.cells #[.int .i64 K, .int .i64 S] 116)) (lastF w.heap.size (w.heap.size + 1)) (nL n) := by
    unfold lastF nL; rw [← hS]
    exact .cons (b1.cell 7 _ rfl) b1.lt i4 (.cons (b1.cell 8 _ rfl) b1.lt i5 (.cons (b2.cell 1 _ rfl) b2.lt sI (.cons (b1.cell 10 _ rfl) b1.lt i6 (.nil _))))
  have HR := Lib.hid (hr.ext e2)
  have HL := Lib.hid (hl.ext e2)
  have HP1 := Lib.hid hp1
  have HP2 := Lib.hid hp2
  have HB := Lib.hid b1
  have HW := Lib.hid e2
  have HM := Lib.hid hm
  have HI := Lib.hid hid
  have HN := Lib.hid hnm
  have hss := str_size n.name
  clear hr hl hp1 hp2 b1 b2 e1 e2 hm hK hS z1 z2 kI sI i1 i2 i3 i4 i5 i6 i7 hid hnm
  go_enter Tryz.func39, Tryz.ntmps39
  go_wp2_with fail
  generalize (w.alloc (.cells #[.string (str n.id), .string (str n.name), .int .u8 K, .int .i64 n.flow, .int .i64 n.owner, .int .i64 n.place, .slice a m c, .int .i64 n.width, .int .i64 n.quota, .int .u8 S, .int .i64 n.fails, .int .i64 n.tok, k, N, s, l] 59)).alloc (.cells #[.int .i64 K, .int .i64 S] 116) = W2 at *
  refine (opID_any n.id HI.out W2).mono ?_
  rintro e w1 ⟨rfl, hE1⟩
  have HE1 := Lib.hid hE1
  clear hE1
  cases hq : idB n.id with
  | false =>
    have HX := Lib.hid (show ndB n = false by simp [ndB, hq])
    clear hq
    go_wp2
    go_ret
    exact ⟨by rw [HX.out]; rfl, (HW.out.trans HE1.out)⟩
  | true =>
  have Q1 := Lib.hid hq
  clear hq
  have ⟨p0, p1, p2, p3, p4, p5, p6, p7, p8, p9, p10, p11, p12, p13, p14, p15⟩ := (HB.out.ext HE1.out).n16
  by_cases hn0 : n.name = []
  case' pos =>
    have Q2 : Hid ((decide (n.name.length = 0) || nameB n.name) = true) := Lib.hid (by rw [hn0]; rfl)
    have e1 : (str n.name).toList = n.name := str_toList n.name
    have e2 : n.name.isEmpty = true := by rw [hn0]; rfl
    clear hn0
    go_wp2_with fail
    obtain ⟨w2, hw2⟩ : ∃ w2, w2 = w1 := ⟨_, rfl⟩
    have HE2 : Hid (Ext W2 w2) := Lib.hid (by rw [hw2]; exact HE1.out)
    rw [← hw2]
    clear hw2 e1 e2 HE1
  case' neg =>
    have e1 : (str n.name).toList = n.name := str_toList n.name
    have e2 : n.name.isEmpty = false := by cases hc : n.name with | nil => exact absurd hc hn0 | cons _ _ => rfl
    go_wp2_with fail
    refine (name_any n.name HN.out w1).mono ?_
    rintro e w2 ⟨rfl, hE2⟩
    have HE2 := Lib.hid (HE1.out.trans hE2)
    clear hE2 HE1
    cases hq : nameB n.name
    case false =>
      have HX := Lib.hid (show ndB n = false by simp [ndB, hq, hn0])
      clear hq hn0
      go_wp2
      go_ret
      exact ⟨by rw [HX.out]; rfl, (HW.out.trans HE2.out)⟩
    have Q2 : Hid ((decide (n.name.length = 0) || nameB n.name) = true) := Lib.hid (by rw [hq, Bool.or_true])
    clear hq hn0
    go_wp2_with fail
    clear e1 e2
  all_goals
   (clear p0 p1 p2 p3 p4 p5 p6 p7 p8 p9 p10 p11 p12 p13 p14 p15
    refine (first_any w.heap.size (w.heap.size + 1) w2).mono ?_
    rintro e w3 ⟨v3, rfl, hR3, hE3⟩
    have HE3 := Lib.hid (HE2.out.trans hE3)
    have HR3 := Lib.hid hR3
    clear hE3 hR3 HE2
    go_wp2_with fail
    refine (fit_any _ _ w3 v3 HR3.out (HP1.out.ext HE3.out)).mono ?_
    rw [firstF_bnd]
    rintro e w4 ⟨rfl, hE4⟩
    have HE4 := Lib.hid (HE3.out.trans hE4)
    clear hE4 HE3 HR3
    cases hq : fitB fF (nF n) with
    | false =>
      have HX := Lib.hid (show ndB n = false by simp [ndB, hq])
      clear hq
      go_wp2
      go_ret
      exact ⟨by rw [HX.out]; rfl, (HW.out.trans HE4.out)⟩
    | true =>
    have Q3 := Lib.hid hq
    clear hq
    go_wp2_with fail
    refine (last_any w.heap.size (w.heap.size + 1) w4).mono ?_
    rintro e w5 ⟨v5, rfl, hR5, hE5⟩
    have HE5 := Lib.hid (HE4.out.trans hE5)
    have HR5 := Lib.hid hR5
    clear hE5 hR5 HE4
    go_wp2_with fail
    refine (fit_any _ _ w5 v5 HR5.out (HP2.out.ext HE5.out)).mono ?_
    rw [lastF_bnd]
    rintro e w6 ⟨rfl, hE6⟩
    have HE6 := Lib.hid (HE5.out.trans hE6)
    clear hE6 HE5 HR5
    cases hq : fitB fL (nL n) with
    | false =>
      have HX := Lib.hid (show ndB n = false by simp [ndB, hq])
      clear hq
      go_wp2
      go_ret
      exact ⟨by rw [HX.out]; rfl, (HW.out.trans HE6.out)⟩
    | true =>
    have Q4 := Lib.hid hq
    clear hq
    have ⟨p0, p1, p2, p3, p4, p5, p6, p7, p8, p9, p10, p11, p12, p13, p14, p15⟩ := (HB.out.ext HE6.out).n16
    by_cases h21 : m ≤ 21
    case neg =>
      have hq : decide (n.after.length ≤ 21) = false := by simp; have := HM.out; omega
      have h21' : ¬ (m : Int) ≤ 21 := by omega
      clear h21
      have HX := Lib.hid (show ndB n = false by simp [ndB, hq])
      clear hq
      go_wp2
      go_ret
      exact ⟨by rw [HX.out]; rfl, (HW.out.trans HE6.out)⟩
    have Q5 : Hid (decide (n.after.length ≤ 21) = true) := Lib.hid (by simp; have := HM.out; omega)
    have h21' : (m : Int) ≤ 21 := by omega
    clear h21
    go_wp2_with fail
    refine (hasPlace_any n.after w6 _ (HR.out.ext HE6.out)).mono ?_
    rintro e w7 ⟨rfl, hE7⟩
    have HE7 := Lib.hid (HE6.out.trans hE7)
    clear hE7 HE6 p0 p1 p2 p3 p4 p5 p6 p7 p8 p9 p10 p11 p12 p13 p14 p15
    have ⟨p0, p1, p2, p3, p4, p5, p6, p7, p8, p9, p10, p11, p12, p13, p14, p15⟩ := (HB.out.ext HE7.out).n16
    cases hq : n.after.all (inB 0 4799) with
    | false =>
      have HX := Lib.hid (show ndB n = false by simp [ndB, hq])
      clear hq
      go_wp2
      go_ret
      exact ⟨by rw [HX.out]; rfl, (HW.out.trans HE7.out)⟩
    | true =>
    have Q6 := Lib.hid hq
    clear hq
    by_cases ht : 0 ≤ n.tok
    case neg =>
      have hq : decide (0 ≤ n.tok) = false := by simpa using ht
      have HX := Lib.hid (show ndB n = false by simp [ndB, hq])
      clear hq
      go_wp2
      go_ret
      exact ⟨by rw [HX.out]; rfl, (HW.out.trans HE7.out)⟩
    have Q7 : Hid (decide (0 ≤ n.tok) = true) := Lib.hid (by simpa using ht)
    go_wp2_with fail
    refine (vright_any n.val w7 _ (HL.out.ext HE7.out)).mono ?_
    have HX := Lib.hid (show ndB n = rightT n.val by unfold ndB; rw [Q1.out, Q2.out, Q3.out, Q4.out, Q5.out, Q6.out, Q7.out]; rfl)
    rw [← HX.out]
    rintro e w8 ⟨rfl, hE8⟩
    have HE8 := Lib.hid (HE7.out.trans hE8)
    go_wp2
    go_ret
    exact ⟨rfl, HW.out.trans HE8.out⟩)

theorem right1S_any (n : Nd) (w : World) (v : Value) (h : NdV w n v) :
    Calls Tryz.prog 38 #[v] w fun e w' => e = .returned (.bool (!ndB n)) ∧ Ext w w' := by
  have HI := Lib.hid h
  obtain ⟨a, m, c, k, N, s, l, rfl, -⟩ := h
  simp only [ndCells] at HI ⊢
  generalize (n.kind.toNat : Int) = K at *
  generalize (n.stand.toNat : Int) = S at *
  have HE0 := Lib.hid ((Ext.refl w).alloc (.cells #[.string (str n.id), .string (str n.name), .int .u8 K, .int .i64 n.flow, .int .i64 n.owner, .int .i64 n.place, .slice a m c, .int .i64 n.width, .int .i64 n.quota, .int .u8 S, .int .i64 n.fails, .int .i64 n.tok, k, N, s, l] 59))
  go_enter Tryz.func38, Tryz.ntmps38
  go_wp2_with fail
  refine (nfits_any n _ _ (HI.out.ext HE0.out)).mono ?_
  rintro e w1 ⟨rfl, hE⟩
  have HE1 := Lib.hid (HE0.out.trans hE)
  clear hE HE0
  go_wp2
  go_ret
  exact ⟨rfl, HE1.out⟩
theorem hasNot_any (l : List Nd) (w : World) (v : Value) (h : ndE.Row w l v) :
    Calls Tryz.prog 37 #[v, .func (.func 38) #[] #[]] w fun e w' => e = .returned (.bool (!l.all ndB)) ∧ Ext w w' := by
  refine (hasNd_any l 38 Tryz.call38 #[] (fun i => if h : i < l.length then !ndB l[i] else false) w v h (fun i hi w' x hE hx => ?_)).mono ?_
  · simp only [dif_pos hi]
    exact right1S_any l[i] w' x hx
  · rintro e w' ⟨b, rfl, hb, hE⟩
    refine ⟨?_, hE⟩
    congr 2
    rw [Bool.eq_iff_iff, hb, Bool.not_eq_true', ← Bool.not_eq_true, List.all_eq_true]
    constructor
    · rintro ⟨i, hi, hq⟩ h
      simp only [dif_pos hi] at hq
      rw [h _ (List.getElem_mem hi)] at hq
      cases hq
    · intro h
      rw [Classical.not_forall] at h
      obtain ⟨x, h⟩ := h
      rw [Classical.not_imp] at h
      obtain ⟨i, hi, rfl⟩ := List.getElem_of_mem h.1
      refine ⟨i, hi, ?_⟩
      simp only [dif_pos hi]
      simpa using h.2

set_option maxRecDepth 100000 in
set_option maxHeartbeats 4000000 in
theorem sright_any (s : Sn) (w : World) (v : Value) (h : SnV w s v) :
    Calls Tryz.prog 9 #[v] w fun e w' => e = .returned (.bool (snB s)) ∧ Ext w w' := by
  obtain ⟨a, m, c, rfl, hr, i1, i2, i3, i4, i5, i6, i7⟩ := h
  have hm : m = s.nodes.length := by obtain ⟨_, _, e, _⟩ := hr.slice; injection e
  have hml : m ≤ 9223372036854775807 := by rw [hm]; exact hr.length_le
  have b1 := BoxL.new w [.int .i64 s.cq, .int .i64 s.cd, .int .i64 s.cw, .int .i64 s.cr, .int .i64 s.cf, .int .i64 s.flows, .slice a m c, .int .i64 s.tok] 26
  have e1 := (Ext.refl w).alloc (.cells #[.int .i64 s.cq, .int .i64 s.cd, .int .i64 s.cw, .int .i64 s.cr, .int .i64 s.cf, .int .i64 s.flows, .slice a m c, .int .i64 s.tok] 26)
  have HR := Lib.hid (hr.ext e1)
  have HP : Hid (Pts (w.alloc (.cells #[.int .i64 s.cq, .int .i64 s.cd, .int .i64 s.cw, .int .i64 s.cr, .int .i64 s.cf, .int .i64 s.flows, .slice a m c, .int .i64 s.tok] 26)) (headF w.heap.size) (nH s)) := Lib.hid (by
    unfold headF nH
    exact .cons (b1.cell 0 _ rfl) b1.lt i1 (.cons (b1.cell 1 _ rfl) b1.lt i2 (.cons (b1.cell 2 _ rfl) b1.lt i3 (.cons (b1.cell 3 _ rfl) b1.lt i4 (.cons (b1.cell 4 _ rfl) b1.lt i5 (.cons (b1.cell 5 _ rfl) b1.lt i6 (.nil _)))))))
  have HB := Lib.hid b1
  have HW := Lib.hid e1
  have HM := Lib.hid hm
  clear hr b1 e1 hm i1 i2 i3 i4 i5 i6 i7
  go_enter Tryz.func9, Tryz.ntmps9
  go_wp2_with fail
  generalize w.alloc (.cells #[.int .i64 s.cq, .int .i64 s.cd, .int .i64 s.cw, .int .i64 s.cr, .int .i64 s.cf, .int .i64 s.flows, .slice a m c, .int .i64 s.tok] 26) = W1 at *
  refine (head_any w.heap.size W1).mono ?_
  rintro e w3 ⟨v3, rfl, hR3, hE3⟩
  have HE3 := Lib.hid hE3
  have HR3 := Lib.hid hR3
  clear hE3 hR3
  go_wp2_with fail
  refine (fit_any _ _ w3 v3 HR3.out (HP.out.ext HE3.out)).mono ?_
  rw [headF_bnd]
  rintro e w4 ⟨rfl, hE4⟩
  have HE4 := Lib.hid (HE3.out.trans hE4)
  clear hE4 HE3 HR3
  cases hq : fitB fH (nH s) with
  | false =>
    have HX := Lib.hid (show snB s = false by simp [snB, hq])
    clear hq
    go_wp2
    go_ret
    exact ⟨by rw [HX.out]; rfl, (HW.out.trans HE4.out)⟩
  | true =>
  have Q3 := Lib.hid hq
  clear hq
  have ⟨p0, p1, p2, p3, p4, p5, p6, p7⟩ := (HB.out.ext HE4.out).n8
  by_cases ht : 0 ≤ s.tok
  case neg =>
    have hq : decide (0 ≤ s.tok) = false := by simpa using ht
    have HX := Lib.hid (show snB s = false by simp [snB, hq])
    clear hq
    go_wp2
    go_ret
    exact ⟨by rw [HX.out]; rfl, (HW.out.trans HE4.out)⟩
  have Q7 : Hid (decide (0 ≤ s.tok) = true) := Lib.hid (by simpa using ht)
  by_cases h21 : m ≤ 4800
  case neg =>
    have hq : decide (s.nodes.length ≤ 4800) = false := by simp; have := HM.out; omega
    have h21' : ¬ (m : Int) ≤ 4800 := by omega
    clear h21
    have HX := Lib.hid (show snB s = false by simp [snB, hq])
    clear hq
    go_wp2
    go_ret
    exact ⟨by rw [HX.out]; rfl, (HW.out.trans HE4.out)⟩
  have Q5 : Hid (decide (s.nodes.length ≤ 4800) = true) := Lib.hid (by simp; have := HM.out; omega)
  have h21' : (m : Int) ≤ 4800 := by omega
  clear h21
  go_wp2_with fail
  refine (hasNot_any s.nodes w4 _ (HR.out.ext HE4.out)).mono ?_
  have HX := Lib.hid (show snB s = s.nodes.all ndB by unfold snB; rw [Q3.out, Q5.out, Q7.out]; rfl)
  rw [← HX.out]
  rintro e w5 ⟨rfl, hE5⟩
  have HE5 := Lib.hid (HW.out.trans (HE4.out.trans hE5))
  clear hE5 HE4
  go_wp2
  go_ret
  exact ⟨by simp, HE5.out⟩
end Go.Proofs.YtdienbcjfljjnaaGreatDoor
