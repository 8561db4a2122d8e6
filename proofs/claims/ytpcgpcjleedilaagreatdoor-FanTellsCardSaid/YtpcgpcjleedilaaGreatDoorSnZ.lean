/- The reference of states: SameNode. -/
import Derived.Test.YtpcgpcjleedilaaGreatDoorSnY
open Go.RowKit Go.Shelf
namespace Go.Proofs.YtpcgpcjleedilaaGreatDoor
open Go Go.Proofs Fm

set_option maxRecDepth 100000 in
set_option maxHeartbeats 16000000 in
theorem rSameNode_any (o p : Nd) (w : World) (v x : Value) (hv : NdV w o v) (hx : NdV w p x) :
    Calls Tryz.prog 67 #[v, x] w fun e w' => e = .returned (.bool (eqNd o p)) ∧ Ext w w' := by
  obtain ⟨a, m, c, k, N, s, l, rfl, hr, hl, -⟩ := hv
  obtain ⟨a', m', c', k', N', s', l', rfl, hr', hl', -⟩ := hx
  simp only [ndCells]
  obtain ⟨I, hI⟩ : ∃ z, z = str o.id := ⟨_, rfl⟩
  obtain ⟨I', hI'⟩ : ∃ z, z = str p.id := ⟨_, rfl⟩
  obtain ⟨M, hM⟩ : ∃ z, z = str o.name := ⟨_, rfl⟩
  obtain ⟨M', hM'⟩ : ∃ z, z = str p.name := ⟨_, rfl⟩
  obtain ⟨K, hK⟩ : ∃ z, z = (o.kind.toNat : Int) := ⟨_, rfl⟩
  obtain ⟨K', hK'⟩ : ∃ z, z = (p.kind.toNat : Int) := ⟨_, rfl⟩
  obtain ⟨F, hF⟩ : ∃ z, z = o.flow := ⟨_, rfl⟩
  obtain ⟨F', hF'⟩ : ∃ z, z = p.flow := ⟨_, rfl⟩
  obtain ⟨O, hO⟩ : ∃ z, z = o.owner := ⟨_, rfl⟩
  obtain ⟨O', hO'⟩ : ∃ z, z = p.owner := ⟨_, rfl⟩
  obtain ⟨A, hA⟩ : ∃ z, z = o.place := ⟨_, rfl⟩
  obtain ⟨A', hA'⟩ : ∃ z, z = p.place := ⟨_, rfl⟩
  obtain ⟨W, hW⟩ : ∃ z, z = o.width := ⟨_, rfl⟩
  obtain ⟨W', hW'⟩ : ∃ z, z = p.width := ⟨_, rfl⟩
  obtain ⟨Q, hQ⟩ : ∃ z, z = o.quota := ⟨_, rfl⟩
  obtain ⟨Q', hQ'⟩ : ∃ z, z = p.quota := ⟨_, rfl⟩
  obtain ⟨S, hS⟩ : ∃ z, z = (o.stand.toNat : Int) := ⟨_, rfl⟩
  obtain ⟨S', hS'⟩ : ∃ z, z = (p.stand.toNat : Int) := ⟨_, rfl⟩
  obtain ⟨L, hL⟩ : ∃ z, z = o.fails := ⟨_, rfl⟩
  obtain ⟨L', hL'⟩ : ∃ z, z = p.fails := ⟨_, rfl⟩
  obtain ⟨T, hT⟩ : ∃ z, z = o.tok := ⟨_, rfl⟩
  obtain ⟨T', hT'⟩ : ∃ z, z = p.tok := ⟨_, rfl⟩
  have hX : eqNd o p = (decide (o.after = p.after) && ((I.toList == I'.toList) && ((M.toList == M'.toList) && ((K == K') && ((F == F') && ((O == O') && ((A == A') && ((W == W') && ((Q == Q') && ((S == S') && ((L == L') && ((T == T') && (eqT o.val p.val))))))))))))) := by
    rw [eqNd_all, hI, hI', hM, hM', hK, hK', hS, hS', u8_eq, u8_eq, str_beq, str_beq, hF, hF', hO, hO', hA, hA', hW, hW', hQ, hQ', hL, hL', hT, hT', int_beq, int_beq, int_beq, int_beq, int_beq, int_beq, int_beq]
    ac_rfl
  have hm : m = o.after.length := by obtain ⟨_, _, e, _⟩ := hr.slice; injection e
  have hm' : m' = p.after.length := by obtain ⟨_, _, e, _⟩ := hr'.slice; injection e
  have hml : m ≤ 9223372036854775807 := by rw [hm]; exact hr.length_le
  have HM := Lib.hid hm
  have HM' := Lib.hid hm'
  clear hm hm'
  rw [← hI, ← hI', ← hM, ← hM', ← hK, ← hK', ← hF, ← hF', ← hO, ← hO', ← hA, ← hA', ← hW, ← hW', ← hQ, ← hQ', ← hS, ← hS', ← hL, ← hL', ← hT, ← hT']
  have HR := Lib.hid hr
  have HR' := Lib.hid hr'
  have HL := Lib.hid hl
  have HL' := Lib.hid hl'
  have HX := Lib.hid hX
  clear hX hr hr' hl hl' hI hI' hM hM' hK hK' hF hF' hO hO' hA hA' hW hW' hQ hQ' hS hS' hL hL' hT hT'
  have h1 := (BoxL.new w [.string I, .string M, .int .u8 K, .int .i64 F, .int .i64 O, .int .i64 A, .slice a m c, .int .i64 W, .int .i64 Q, .int .u8 S, .int .i64 L, .int .i64 T, k, N, s, l] 46).ext ((Ext.refl _).alloc (.cells #[.string I', .string M', .int .u8 K', .int .i64 F', .int .i64 O', .int .i64 A', .slice a' m' c', .int .i64 W', .int .i64 Q', .int .u8 S', .int .i64 L', .int .i64 T', k', N', s', l'] 46))
  have h2 := BoxL.new (w.alloc (.cells #[.string I, .string M, .int .u8 K, .int .i64 F, .int .i64 O, .int .i64 A, .slice a m c, .int .i64 W, .int .i64 Q, .int .u8 S, .int .i64 L, .int .i64 T, k, N, s, l] 46)) [.string I', .string M', .int .u8 K', .int .i64 F', .int .i64 O', .int .i64 A', .slice a' m' c', .int .i64 W', .int .i64 Q', .int .u8 S', .int .i64 L', .int .i64 T', k', N', s', l'] 46
  have hz : (w.alloc (.cells #[.string I, .string M, .int .u8 K, .int .i64 F, .int .i64 O, .int .i64 A, .slice a m c, .int .i64 W, .int .i64 Q, .int .u8 S, .int .i64 L, .int .i64 T, k, N, s, l] 46)).heap.size = w.heap.size + 1 := by simp
  rw [hz] at h2
  have hE := ((Ext.refl w).alloc (.cells #[.string I, .string M, .int .u8 K, .int .i64 F, .int .i64 O, .int .i64 A, .slice a m c, .int .i64 W, .int .i64 Q, .int .u8 S, .int .i64 L, .int .i64 T, k, N, s, l] 46)).alloc (.cells #[.string I', .string M', .int .u8 K', .int .i64 F', .int .i64 O', .int .i64 A', .slice a' m' c', .int .i64 W', .int .i64 Q', .int .u8 S', .int .i64 L', .int .i64 T', k', N', s', l'] 46)
  clear hz
  go_enter Tryz.func67, Tryz.ntmps67
  go_upto_region 1 with (fail)
  have H1 := Lib.hid h1
  have H2 := Lib.hid h2
  have HE := Lib.hid hE
  clear h1 h2 hE
  generalize (w.alloc _).alloc _ = W1 at *
  have ⟨p0, p1, p2, p3, p4, p5, p6, p7, p8, p9, p10, p11, p12, p13, p14, p15⟩ := H1.out.n16
  have ⟨q0, q1, q2, q3, q4, q5, q6, q7, q8, q9, q10, q11, q12, q13, q14, q15⟩ := H2.out.n16
  by_cases hlen : m = m'
  case neg =>
    have f3 : ((m : Int) != (m' : Int)) = true := by rw [bne, Bool.not_eq_true']; simp; omega
    have HB : Hid (eqNd o p = false) := Lib.hid (by rw [HX.out, decide_eq_false (fun e => hlen (by rw [HM.out, HM'.out, e]))]; rfl)
    go_wp2
    go_ret
    exact ⟨by rw [HB.out]; rfl, HE.out⟩
  subst hlen
  have f3 : ((m : Int) != (m : Int)) = false := by simp
  go_wp2_with fail
  clear f3 p0 p1 p2 p3 p4 p5 p6 p7 p8 p9 p10 p11 p12 p13 p14 p15 q0 q1 q2 q3 q4 q5 q6 q7 q8 q9 q10 q11 q12 q13 q14 q15
  go_loopw [5] (fun i wr => ∃ j : Nat, j ≤ m ∧ i = .int .i64 j ∧ Hid (o.after.take j = p.after.take j) ∧ Hid (Ext W1 wr)) (fun i _ => m - (intOf i).toNat)
  case atStart => exact ⟨0, by omega, rfl, Lib.hid (by simp), Lib.hid (Ext.refl _)⟩
  case round =>
  obtain ⟨j, hj, rfl, HA, HEr⟩ := hrel
  by_cases hlt : j < m
  case pos =>
    have hlo : j < o.after.length := by have := HM.out; omega
    have hlp : j < p.after.length := by have := HM'.out; omega
    have p6 := (H1.out.ext HEr.out).cell 6 _ rfl
    have q6 := (H2.out.ext HEr.out).cell 6 _ rfl
    obtain ⟨b, off, rfl, hb, c0, hi0⟩ := int_at HR.out (HE.out.trans HEr.out) j hlo
    obtain ⟨b', off', rfl, hb', d0, hi1⟩ := int_at HR'.out (HE.out.trans HEr.out) j hlp
    obtain ⟨X, hX⟩ : ∃ X, X = o.after[j] := ⟨_, rfl⟩
    obtain ⟨Y, hY⟩ : ∃ Y, Y = p.after[j] := ⟨_, rfl⟩
    rw [← hX] at c0 hi0
    rw [← hY] at d0 hi1
    have HXx := Lib.hid hX
    have HYy := Lib.hid hY
    have hj0 : (0 : Int) ≤ (j : Int) := by omega
    have hj1 : (j : Int) < (m : Int) := by omega
    clear hX hY hi0 hi1
    cases hkx : (X != Y) with
    | false =>
      have HA2 := Lib.hid (take_more hlo hlp HA.out (by rw [← HXx.out, ← HYy.out]; simpa using hkx))
      clear HA HXx HYy
      go_wp2_with fail
      go_quiet (fail)
      go_wp2
      go_roundw
      case rel => exact ⟨j + 1, by omega, by go_num, HA2, Lib.hid (by first | exact HEr.out | exact HEr.out.drew | exact HEr.out.drewN _)⟩
      case measure => simp [intOf]; omega
    | true =>
      have HA2 := Lib.hid (show eqNd o p = false by
        rw [HX.out, decide_eq_false (fun e => by
          have e2 : o.after[j]? = p.after[j]? := by rw [e]
          rw [List.getElem?_eq_getElem hlo, List.getElem?_eq_getElem hlp, ← HXx.out, ← HYy.out] at e2
          injection e2 with e2
          rw [e2] at hkx
          simp at hkx)]; rfl)
      clear HA HXx HYy
      go_wp2_with fail
      go_quiet (fail)
      go_wp2
      go_ret
      exact ⟨by rw [HA2.out]; rfl, by first | exact HE.out.trans HEr.out | exact HE.out.trans HEr.out.drew | exact HE.out.trans (HEr.out.drewN _)⟩
  have hj2 : ¬ (j : Int) < (m : Int) := by omega
  have HAl : Hid (decide (o.after = p.after) = true) := Lib.hid (decide_eq_true (by
    have h := HA.out
    have e1 : j = o.after.length := by have := HM.out; omega
    have e2 : j = p.after.length := by have := HM'.out; omega
    rw [e1, List.take_length, ← e1, e2, List.take_length] at h
    exact h))
  have HX := Lib.hid (by rw [HX.out, HAl.out, Bool.true_and] : eqNd o p = ((I.toList == I'.toList) && ((M.toList == M'.toList) && ((K == K') && ((F == F') && ((O == O') && ((A == A') && ((W == W') && ((Q == Q') && ((S == S') && ((L == L') && ((T == T') && (eqT o.val p.val)))))))))))))
  have ⟨p0, p1, p2, p3, p4, p5, p6, p7, p8, p9, p10, p11, p12, p13, p14, p15⟩ := (H1.out.ext HEr.out).n16
  have ⟨q0, q1, q2, q3, q4, q5, q6, q7, q8, q9, q10, q11, q12, q13, q14, q15⟩ := (H2.out.ext HEr.out).n16
  clear HA HAl
  have HLr := Lib.hid (HL.out.ext (HE.out.trans HEr.out))
  have HLr' := Lib.hid (HL'.out.ext (HE.out.trans HEr.out))
  go_upto_region 8 with (fail)
  clear hlt hj hj2 hml HM HM' HR HR' HL HL' H1 H2
  cases b0 : (I.toList == I'.toList) with
  | false =>
    have HB := Lib.hid (by rw [HX.out, b0]; simp : eqNd o p = false)
    go_wp2
    go_ret
    exact ⟨by rw [HB.out]; rfl, HE.out.trans HEr.out⟩
  | true =>
  have HX := Lib.hid (by rw [HX.out, b0, Bool.true_and] : eqNd o p = ((M.toList == M'.toList) && ((K == K') && ((F == F') && ((O == O') && ((A == A') && ((W == W') && ((Q == Q') && ((S == S') && ((L == L') && ((T == T') && (eqT o.val p.val))))))))))))
  cases b1 : (M.toList == M'.toList) with
  | false =>
    have HB := Lib.hid (by rw [HX.out, b1]; simp : eqNd o p = false)
    go_wp2
    go_ret
    exact ⟨by rw [HB.out]; rfl, HE.out.trans HEr.out⟩
  | true =>
  have HX := Lib.hid (by rw [HX.out, b1, Bool.true_and] : eqNd o p = ((K == K') && ((F == F') && ((O == O') && ((A == A') && ((W == W') && ((Q == Q') && ((S == S') && ((L == L') && ((T == T') && (eqT o.val p.val)))))))))))
  cases b2 : (K == K') with
  | false =>
    have HB := Lib.hid (by rw [HX.out, b2]; simp : eqNd o p = false)
    go_wp2
    go_ret
    exact ⟨by rw [HB.out]; rfl, HE.out.trans HEr.out⟩
  | true =>
  have HX := Lib.hid (by rw [HX.out, b2, Bool.true_and] : eqNd o p = ((F == F') && ((O == O') && ((A == A') && ((W == W') && ((Q == Q') && ((S == S') && ((L == L') && ((T == T') && (eqT o.val p.val))))))))))
  cases b3 : (F == F') with
  | false =>
    have HB := Lib.hid (by rw [HX.out, b3]; simp : eqNd o p = false)
    go_wp2
    go_ret
    exact ⟨by rw [HB.out]; rfl, HE.out.trans HEr.out⟩
  | true =>
  have HX := Lib.hid (by rw [HX.out, b3, Bool.true_and] : eqNd o p = ((O == O') && ((A == A') && ((W == W') && ((Q == Q') && ((S == S') && ((L == L') && ((T == T') && (eqT o.val p.val)))))))))
  cases b4 : (O == O') with
  | false =>
    have HB := Lib.hid (by rw [HX.out, b4]; simp : eqNd o p = false)
    go_wp2
    go_ret
    exact ⟨by rw [HB.out]; rfl, HE.out.trans HEr.out⟩
  | true =>
  have HX := Lib.hid (by rw [HX.out, b4, Bool.true_and] : eqNd o p = ((A == A') && ((W == W') && ((Q == Q') && ((S == S') && ((L == L') && ((T == T') && (eqT o.val p.val))))))))
  cases b5 : (A == A') with
  | false =>
    have HB := Lib.hid (by rw [HX.out, b5]; simp : eqNd o p = false)
    go_wp2
    go_ret
    exact ⟨by rw [HB.out]; rfl, HE.out.trans HEr.out⟩
  | true =>
  have HX := Lib.hid (by rw [HX.out, b5, Bool.true_and] : eqNd o p = ((W == W') && ((Q == Q') && ((S == S') && ((L == L') && ((T == T') && (eqT o.val p.val)))))))
  cases b6 : (W == W') with
  | false =>
    have HB := Lib.hid (by rw [HX.out, b6]; simp : eqNd o p = false)
    go_wp2
    go_ret
    exact ⟨by rw [HB.out]; rfl, HE.out.trans HEr.out⟩
  | true =>
  have HX := Lib.hid (by rw [HX.out, b6, Bool.true_and] : eqNd o p = ((Q == Q') && ((S == S') && ((L == L') && ((T == T') && (eqT o.val p.val))))))
  cases b7 : (Q == Q') with
  | false =>
    have HB := Lib.hid (by rw [HX.out, b7]; simp : eqNd o p = false)
    go_wp2
    go_ret
    exact ⟨by rw [HB.out]; rfl, HE.out.trans HEr.out⟩
  | true =>
  have HX := Lib.hid (by rw [HX.out, b7, Bool.true_and] : eqNd o p = ((S == S') && ((L == L') && ((T == T') && (eqT o.val p.val)))))
  cases b8 : (S == S') with
  | false =>
    have HB := Lib.hid (by rw [HX.out, b8]; simp : eqNd o p = false)
    go_wp2
    go_ret
    exact ⟨by rw [HB.out]; rfl, HE.out.trans HEr.out⟩
  | true =>
  have HX := Lib.hid (by rw [HX.out, b8, Bool.true_and] : eqNd o p = ((L == L') && ((T == T') && (eqT o.val p.val))))
  cases b9 : (L == L') with
  | false =>
    have HB := Lib.hid (by rw [HX.out, b9]; simp : eqNd o p = false)
    go_wp2
    go_ret
    exact ⟨by rw [HB.out]; rfl, HE.out.trans HEr.out⟩
  | true =>
  have HX := Lib.hid (by rw [HX.out, b9, Bool.true_and] : eqNd o p = ((T == T') && (eqT o.val p.val)))
  cases b10 : (T == T') with
  | false =>
    have HB := Lib.hid (by rw [HX.out, b10]; simp : eqNd o p = false)
    go_wp2
    go_ret
    exact ⟨by rw [HB.out]; rfl, HE.out.trans HEr.out⟩
  | true =>
  have HX := Lib.hid (by rw [HX.out, b10, Bool.true_and] : eqNd o p = (eqT o.val p.val))
  go_wp2_with fail
  refine (rsame_any o.val p.val wr _ _ HLr.out HLr'.out).mono ?_
  rintro e wz ⟨rfl, hEz⟩
  have HEz := Lib.hid (HE.out.trans (HEr.out.trans hEz))
  clear hEz
  go_wp2
  go_ret
  exact ⟨by rw [HX.out]; rfl, HEz.out⟩
end Go.Proofs.YtpcgpcjleedilaaGreatDoor
