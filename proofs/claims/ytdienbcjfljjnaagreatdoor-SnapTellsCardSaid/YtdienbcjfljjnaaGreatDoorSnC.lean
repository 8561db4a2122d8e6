/- Walks: slices.Equal at []int, snap.same, slices.EqualFunc at []api.Node, snap.Same. -/
import Derived.Test.YtdienbcjfljjnaaGreatDoorBoxS
import Derived.Test.YtdienbcjfljjnaaGreatDoorFrgA
import Derived.Test.YtdienbcjfljjnaaGreatDoorShelfF
import Derived.BigQuiet
open Go.RowKit Go.Shelf
namespace Go.Proofs.YtdienbcjfljjnaaGreatDoor
open Go Go.Proofs Fm

theorem take_more {α : Type} {l m : List α} {i : Nat} (hi : i < l.length) (hm : i < m.length) (h : l.take i = m.take i) (hx : l[i] = m[i]) : l.take (i + 1) = m.take (i + 1) := by
  rw [List.take_add_one, List.take_add_one, h, List.getElem?_eq_getElem hi, List.getElem?_eq_getElem hm, hx]
set_option maxRecDepth 100000 in
set_option maxHeartbeats 4000000 in
theorem equalN_any (l l' : List Int) (w : World) (v x : Value) (hv : intE.Row w l v) (hx : intE.Row w l' x) :
    Calls Tryz.prog 88 #[v, x] w fun e w' => e = .returned (.bool (decide (l = l'))) ∧ Ext w w' := by
  obtain ⟨a, cap, rfl, h1, h2⟩ := hv.slice
  obtain ⟨a', cap', rfl, h1', h2'⟩ := hx.slice
  have HR := Lib.hid hv
  have HR' := Lib.hid hx
  have hll : l.length ≤ 9223372036854775807 := by omega
  have hll' : l'.length ≤ 9223372036854775807 := by omega
  clear hv hx h1 h2 h1' h2'
  by_cases hl : l.length = l'.length
  · have f3 : ((l.length : Int) != (l'.length : Int)) = false := by rw [hl]; simp
    have HL := Lib.hid hl
    clear hl
    go_enter Tryz.func88, Tryz.ntmps88
    go_wp2_with fail
    clear f3
    go_loopw [13] (fun i wr => ∃ j : Nat, j ≤ l.length ∧ i = .int .i64 j ∧ Hid (l.take j = l'.take j) ∧ Ext w wr) (fun i _ => l.length - (intOf i).toNat)
    case atStart => exact ⟨0, by omega, rfl, by simp [Hid], Ext.refl _⟩
    case round =>
      obtain ⟨j, hj, rfl, HA, hE⟩ := hrel
      by_cases hlt : j < l.length
      · have hlt' : j < l'.length := by have := HL.out; omega
        obtain ⟨b, off, rfl, hb, c0, hi0⟩ := int_at HR.out hE j hlt
        obtain ⟨b', off', rfl, hb', d0, hi1⟩ := int_at HR'.out hE j hlt'
        obtain ⟨X, hX⟩ : ∃ X, X = l[j] := ⟨_, rfl⟩
        obtain ⟨Y, hY⟩ : ∃ Y, Y = l'[j] := ⟨_, rfl⟩
        rw [← hX] at c0 hi0
        rw [← hY] at d0 hi1
        have HX := Lib.hid hX
        have HY := Lib.hid hY
        have hj0 : (0 : Int) ≤ (j : Int) := by omega
        clear hX hY hi0 hi1
        cases hkx : (X != Y) with
        | false =>
          have HA2 := Lib.hid (take_more hlt hlt' HA.out (by rw [← HX.out, ← HY.out]; simpa using hkx))
          clear HA HX HY
          go_wp2_with fail
          go_quiet (fail)
          go_wp2
          go_roundw
          case rel => exact ⟨j + 1, by omega, by go_num, HA2, by first | exact hE | exact hE.drew | exact hE.drewN _⟩
          case measure => simp [intOf]; omega
        | true =>
          have HA2 := Lib.hid (show decide (l = l') = false from decide_eq_false (fun e => by subst e; rw [HX.out, HY.out] at hkx; simp at hkx))
          clear HA HX HY
          go_wp2_with fail
          go_quiet (fail)
          go_wp2
          go_ret
          exact ⟨by rw [HA2.out]; rfl, by first | exact hE | exact hE.drew | exact hE.drewN _⟩
      · have hj' : j = l.length := by omega
        have HA2 : Hid (decide (l = l') = true) := Lib.hid (decide_eq_true (by have := HA.out; rw [hj', List.take_length, HL.out, List.take_length] at this; exact this))
        clear hj'
        go_wp2
        go_ret
        exact ⟨by rw [HA2.out]; rfl, hE⟩
  · have f3 : ((l.length : Int) != (l'.length : Int)) = true := by rw [bne, Bool.not_eq_true']; simp; omega
    have HX := Lib.hid (show decide (l = l') = false from decide_eq_false (fun e => hl (by rw [e])))
    clear hl
    go_enter Tryz.func88, Tryz.ntmps88
    go_wp2
    go_ret
    exact ⟨by rw [HX.out]; rfl, Ext.refl w⟩

set_option maxRecDepth 100000 in
set_option maxHeartbeats 16000000 in
theorem nsame_any (o p : Nd) (w : World) (v x : Value) (hv : NdV w o v) (hx : NdV w p x) :
    Calls Tryz.prog 41 #[v, x] w fun e w' => e = .returned (.bool (eqNd o p)) ∧ Ext w w' := by
  obtain ⟨a, m, c, k, N, s, l, rfl, hr, hl, -⟩ := hv
  obtain ⟨a', m', c', k', N', s', l', rfl, hr', hl', -⟩ := hx
  simp only [ndCells]
  obtain ⟨I, hI⟩ : ∃ z, z = str o.id := ⟨_, rfl⟩
  obtain ⟨I', hI'⟩ : ∃ z, z = str p.id := ⟨_, rfl⟩
  obtain ⟨M, hM⟩ : ∃ z, z = str o.name := ⟨_, rfl⟩
  obtain ⟨M', hM'⟩ : ∃ z, z = str p.name := ⟨_, rfl⟩
  obtain ⟨K, hK⟩ : ∃ z, z = (o.kind.toNat : Int) := ⟨_, rfl⟩
  obtain ⟨K', hK'⟩ : ∃ z, z = (p.kind.toNat : Int) := ⟨_, rfl⟩
  obtain ⟨F, hF⟩ : ∃ z, z = o.flow := ⟨_, rfl⟩
  obtain ⟨F', hF'⟩ : ∃ z, z = p.flow := ⟨_, rfl⟩
  obtain ⟨O, hO⟩ : ∃ z, z = o.owner := ⟨_, rfl⟩
  obtain ⟨O', hO'⟩ : ∃ z, z = p.owner := ⟨_, rfl⟩
  obtain ⟨A, hA⟩ : ∃ z, z = o.place := ⟨_, rfl⟩
  obtain ⟨A', hA'⟩ : ∃ z, z = p.place := ⟨_, rfl⟩
  obtain ⟨W, hW⟩ : ∃ z, z = o.width := ⟨_, rfl⟩
  obtain ⟨W', hW'⟩ : ∃ z, z = p.width := ⟨_, rfl⟩
  obtain ⟨Q, hQ⟩ : ∃ z, z = o.quota := ⟨_, rfl⟩
  obtain ⟨Q', hQ'⟩ : ∃ z, z = p.quota := ⟨_, rfl⟩
  obtain ⟨S, hS⟩ : ∃ z, z = (o.stand.toNat : Int) := ⟨_, rfl⟩
  obtain ⟨S', hS'⟩ : ∃ z, z = (p.stand.toNat : Int) := ⟨_, rfl⟩
  obtain ⟨L, hL⟩ : ∃ z, z = o.fails := ⟨_, rfl⟩
  obtain ⟨L', hL'⟩ : ∃ z, z = p.fails := ⟨_, rfl⟩
  obtain ⟨T, hT⟩ : ∃ z, z = o.tok := ⟨_, rfl⟩
  obtain ⟨T', hT'⟩ : ∃ z, z = p.tok := ⟨_, rfl⟩
  have hX : eqNd o p = ((I.toList == I'.toList) && ((M.toList == M'.toList) && ((K == K') && ((F == F') && ((O == O') && ((A == A') && (decide (o.after = p.after) && ((W == W') && ((Q == Q') && ((S == S') && ((L == L') && ((T == T') && eqT o.val p.val)))))))))))) := by
    rw [eqNd_all, hI, hI', hM, hM', hK, hK', hS, hS', u8_eq, u8_eq, str_beq, str_beq, hF, hF', hO, hO', hA, hA', hW, hW', hQ, hQ', hL, hL', hT, hT', int_beq, int_beq, int_beq, int_beq, int_beq, int_beq, int_beq]
  rw [← hI, ← hI', ← hM, ← hM', ← hK, ← hK', ← hF, ← hF', ← hO, ← hO', ← hA, ← hA', ← hW, ← hW', ← hQ, ← hQ', ← hS, ← hS', ← hL, ← hL', ← hT, ← hT']
  have HR := Lib.hid hr
  have HR' := Lib.hid hr'
  have HL := Lib.hid hl
  have HL' := Lib.hid hl'
  have HX := Lib.hid hX
  clear hX hr hr' hl hl' hI hI' hM hM' hK hK' hF hF' hO hO' hA hA' hW hW' hQ hQ' hS hS' hL hL' hT hT'
  have h1 := (BoxL.new w [.string I, .string M, .int .u8 K, .int .i64 F, .int .i64 O, .int .i64 A, .slice a m c, .int .i64 W, .int .i64 Q, .int .u8 S, .int .i64 L, .int .i64 T, k, N, s, l] 59).ext ((Ext.refl _).alloc (.cells #[.string I', .string M', .int .u8 K', .int .i64 F', .int .i64 O', .int .i64 A', .slice a' m' c', .int .i64 W', .int .i64 Q', .int .u8 S', .int .i64 L', .int .i64 T', k', N', s', l'] 59))
  have h2 := BoxL.new (w.alloc (.cells #[.string I, .string M, .int .u8 K, .int .i64 F, .int .i64 O, .int .i64 A, .slice a m c, .int .i64 W, .int .i64 Q, .int .u8 S, .int .i64 L, .int .i64 T, k, N, s, l] 59)) [.string I', .string M', .int .u8 K', .int .i64 F', .int .i64 O', .int .i64 A', .slice a' m' c', .int .i64 W', .int .i64 Q', .int .u8 S', .int .i64 L', .int .i64 T', k', N', s', l'] 59
  have hz : (w.alloc (.cells #[.string I, .string M, .int .u8 K, .int .i64 F, .int .i64 O, .int .i64 A, .slice a m c, .int .i64 W, .int .i64 Q, .int .u8 S, .int .i64 L, .int .i64 T, k, N, s, l] 59)).heap.size = w.heap.size + 1 := by simp
  rw [hz] at h2
  have hE := ((Ext.refl w).alloc (.cells #[.string I, .string M, .int .u8 K, .int .i64 F, .int .i64 O, .int .i64 A, .slice a m c, .int .i64 W, .int .i64 Q, .int .u8 S, .int .i64 L, .int .i64 T, k, N, s, l] 59)).alloc (.cells #[.string I', .string M', .int .u8 K', .int .i64 F', .int .i64 O', .int .i64 A', .slice a' m' c', .int .i64 W', .int .i64 Q', .int .u8 S', .int .i64 L', .int .i64 T', k', N', s', l'] 59)
  clear hz
  go_enter Tryz.func41, Tryz.ntmps41
  go_upto_region 1 with (fail)
  have H1 := Lib.hid h1
  have H2 := Lib.hid h2
  have HE := Lib.hid hE
  clear h1 h2 hE
  generalize (w.alloc _).alloc _ = W1 at *
  have ⟨p0, p1, p2, p3, p4, p5, p6, p7, p8, p9, p10, p11, p12, p13, p14, p15⟩ := H1.out.n16
  have ⟨q0, q1, q2, q3, q4, q5, q6, q7, q8, q9, q10, q11, q12, q13, q14, q15⟩ := H2.out.n16
  cases b0 : (I.toList == I'.toList) with
  | false =>
    have HB := Lib.hid (by rw [HX.out, b0]; simp : eqNd o p = false)
    go_wp2
    go_ret
    exact ⟨by rw [HB.out]; rfl, HE.out⟩
  | true =>
  have HX := Lib.hid (by rw [HX.out, b0, Bool.true_and] : eqNd o p = ((M.toList == M'.toList) && ((K == K') && ((F == F') && ((O == O') && ((A == A') && (decide (o.after = p.after) && ((W == W') && ((Q == Q') && ((S == S') && ((L == L') && ((T == T') && eqT o.val p.val))))))))))))
  cases b1 : (M.toList == M'.toList) with
  | false =>
    have HB := Lib.hid (by rw [HX.out, b1]; simp : eqNd o p = false)
    go_wp2
    go_ret
    exact ⟨by rw [HB.out]; rfl, HE.out⟩
  | true =>
  have HX := Lib.hid (by rw [HX.out, b1, Bool.true_and] : eqNd o p = ((K == K') && ((F == F') && ((O == O') && ((A == A') && (decide (o.after = p.after) && ((W == W') && ((Q == Q') && ((S == S') && ((L == L') && ((T == T') && eqT o.val p.val)))))))))))
  cases b2 : (K == K') with
  | false =>
    have HB := Lib.hid (by rw [HX.out, b2]; simp : eqNd o p = false)
    go_wp2
    go_ret
    exact ⟨by rw [HB.out]; rfl, HE.out⟩
  | true =>
  have HX := Lib.hid (by rw [HX.out, b2, Bool.true_and] : eqNd o p = ((F == F') && ((O == O') && ((A == A') && (decide (o.after = p.after) && ((W == W') && ((Q == Q') && ((S == S') && ((L == L') && ((T == T') && eqT o.val p.val))))))))))
  cases b3 : (F == F') with
  | false =>
    have HB := Lib.hid (by rw [HX.out, b3]; simp : eqNd o p = false)
    go_wp2
    go_ret
    exact ⟨by rw [HB.out]; rfl, HE.out⟩
  | true =>
  have HX := Lib.hid (by rw [HX.out, b3, Bool.true_and] : eqNd o p = ((O == O') && ((A == A') && (decide (o.after = p.after) && ((W == W') && ((Q == Q') && ((S == S') && ((L == L') && ((T == T') && eqT o.val p.val)))))))))
  cases b4 : (O == O') with
  | false =>
    have HB := Lib.hid (by rw [HX.out, b4]; simp : eqNd o p = false)
    go_wp2
    go_ret
    exact ⟨by rw [HB.out]; rfl, HE.out⟩
  | true =>
  have HX := Lib.hid (by rw [HX.out, b4, Bool.true_and] : eqNd o p = ((A == A') && (decide (o.after = p.after) && ((W == W') && ((Q == Q') && ((S == S') && ((L == L') && ((T == T') && eqT o.val p.val))))))))
  cases b5 : (A == A') with
  | false =>
    have HB := Lib.hid (by rw [HX.out, b5]; simp : eqNd o p = false)
    go_wp2
    go_ret
    exact ⟨by rw [HB.out]; rfl, HE.out⟩
  | true =>
  have HX := Lib.hid (by rw [HX.out, b5, Bool.true_and] : eqNd o p = (decide (o.after = p.after) && ((W == W') && ((Q == Q') && ((S == S') && ((L == L') && ((T == T') && eqT o.val p.val)))))))
  go_wp2_with fail
  refine (equalN_any o.after p.after W1 _ _ (HR.out.ext HE.out) (HR'.out.ext HE.out)).mono ?_
  rintro e w2 ⟨rfl, hE2⟩
  have H12 := Lib.hid (H1.out.ext hE2)
  have H22 := Lib.hid (H2.out.ext hE2)
  have HE2 := Lib.hid (HE.out.trans hE2)
  clear hE2 H1 H2 HE p0 p1 p2 p3 p4 p5 p6 p7 p8 p9 p10 p11 p12 p13 p14 p15 q0 q1 q2 q3 q4 q5 q6 q7 q8 q9 q10 q11 q12 q13 q14 q15
  have ⟨p0, p1, p2, p3, p4, p5, p6, p7, p8, p9, p10, p11, p12, p13, p14, p15⟩ := H12.out.n16
  have ⟨q0, q1, q2, q3, q4, q5, q6, q7, q8, q9, q10, q11, q12, q13, q14, q15⟩ := H22.out.n16
  cases b6 : decide (o.after = p.after) with
  | false =>
    have HB := Lib.hid (by rw [HX.out, b6]; simp : eqNd o p = false)
    go_wp2
    go_ret
    exact ⟨by rw [HB.out]; rfl, HE2.out⟩
  | true =>
  have HX := Lib.hid (by rw [HX.out, b6, Bool.true_and] : eqNd o p = ((W == W') && ((Q == Q') && ((S == S') && ((L == L') && ((T == T') && eqT o.val p.val))))))
  clear b6
  cases b7 : (W == W') with
  | false =>
    have HB := Lib.hid (by rw [HX.out, b7]; simp : eqNd o p = false)
    go_wp2
    go_ret
    exact ⟨by rw [HB.out]; rfl, HE2.out⟩
  | true =>
  have HX := Lib.hid (by rw [HX.out, b7, Bool.true_and] : eqNd o p = ((Q == Q') && ((S == S') && ((L == L') && ((T == T') && eqT o.val p.val)))))
  cases b8 : (Q == Q') with
  | false =>
    have HB := Lib.hid (by rw [HX.out, b8]; simp : eqNd o p = false)
    go_wp2
    go_ret
    exact ⟨by rw [HB.out]; rfl, HE2.out⟩
  | true =>
  have HX := Lib.hid (by rw [HX.out, b8, Bool.true_and] : eqNd o p = ((S == S') && ((L == L') && ((T == T') && eqT o.val p.val))))
  cases b9 : (S == S') with
  | false =>
    have HB := Lib.hid (by rw [HX.out, b9]; simp : eqNd o p = false)
    go_wp2
    go_ret
    exact ⟨by rw [HB.out]; rfl, HE2.out⟩
  | true =>
  have HX := Lib.hid (by rw [HX.out, b9, Bool.true_and] : eqNd o p = ((L == L') && ((T == T') && eqT o.val p.val)))
  cases b10 : (L == L') with
  | false =>
    have HB := Lib.hid (by rw [HX.out, b10]; simp : eqNd o p = false)
    go_wp2
    go_ret
    exact ⟨by rw [HB.out]; rfl, HE2.out⟩
  | true =>
  have HX := Lib.hid (by rw [HX.out, b10, Bool.true_and] : eqNd o p = ((T == T') && eqT o.val p.val))
  cases b11 : (T == T') with
  | false =>
    have HB := Lib.hid (by rw [HX.out, b11]; simp : eqNd o p = false)
    go_wp2
    go_ret
    exact ⟨by rw [HB.out]; rfl, HE2.out⟩
  | true =>
  have HX := Lib.hid (by rw [HX.out, b11, Bool.true_and] : eqNd o p = eqT o.val p.val)
  go_wp2_with fail
  refine (vsame_any o.val p.val w2 _ _ (HL.out.ext HE2.out) (HL'.out.ext HE2.out)).mono ?_
  rw [← HX.out]
  rintro e w3 ⟨rfl, hE3⟩
  have HE3 := Lib.hid (HE2.out.trans hE3)
  clear hE3
  go_wp2
  go_ret
  exact ⟨rfl, HE3.out⟩

theorem info_node : (Tryz.prog.info? 59).map (·.size) = some 16 := by kernel_rfl
set_option maxRecDepth 100000 in
set_option maxHeartbeats 8000000 in
theorem equalNd_any (l l' : List Nd) (w : World) (v x : Value) (hv : ndE.Row w l v) (hx : ndE.Row w l' x) :
    Calls Tryz.prog 40 #[v, x, .func (.func 41) #[] #[]] w fun e w' => e = .returned (.bool (eqNds l l')) ∧ Ext w w' := by
  obtain ⟨a, cap, rfl, h1, h2⟩ := hv.slice
  obtain ⟨a', cap', rfl, h1', h2'⟩ := hx.slice
  have HR := Lib.hid hv
  have HR' := Lib.hid hx
  have hll : l.length ≤ 9223372036854775807 := by omega
  have hll' : l'.length ≤ 9223372036854775807 := by omega
  clear hv hx h1 h2 h1' h2'
  by_cases hl : l.length = l'.length
  · have f3 : ((l.length : Int) != (l'.length : Int)) = false := by rw [hl]; simp
    have HL := Lib.hid hl
    clear hl
    go_enter Tryz.func40, Tryz.ntmps40
    go_wp2_with fail
    clear f3
    go_loopw [17] (fun i wr => ∃ j : Nat, j ≤ l.length ∧ i = .int .i64 j ∧ Hid (l.take j = l'.take j) ∧ Ext w wr) (fun i _ => l.length - (intOf i).toNat)
    case atStart => exact ⟨0, by omega, rfl, by simp [Hid], Ext.refl _⟩
    case round =>
      obtain ⟨j, hj, rfl, HA, hE⟩ := hrel
      by_cases hlt : j < l.length
      · have hlt' : j < l'.length := by have := HL.out; omega
        obtain ⟨b, off, rfl, hb, C, hC, hC1, hR, hs⟩ := nd_op HR.out hE j hlt
        obtain ⟨b', off', rfl, hb', D, hD, hD1, hR', hs'⟩ := nd_op HR'.out hE j hlt'
        have hz := Nat.lt_of_lt_of_le hb hE.size
        have hz' := Nat.lt_of_lt_of_le hb' hE.size
        have HC := Lib.hid (show wr.rangeAt b (off + j * 16) C from hR)
        have HD := Lib.hid (show wr.rangeAt b' (off' + j * 16) D from hR')
        have HC0 := Lib.hid hC
        have HD0 := Lib.hid hD
        have HC1 := Lib.hid hC1
        have HD1 := Lib.hid hD1
        have HS := Lib.hid (hs.ext hE)
        have HS' := Lib.hid (hs'.ext hE)
        have HCi : Hid ((Tryz.prog.info? 59).map (·.size) = some C.length) := Lib.hid (by rw [hC]; exact info_node)
        have HDi : Hid ((Tryz.prog.info? 59).map (·.size) = some D.length) := Lib.hid (by rw [hD]; exact info_node)
        clear hs hs' hC hD hC1 hD1 hR hR'
        go_upto_region 6 with (first | (refine wpList_load_mid rfl _ _ rfl _ _ rfl _ _ HC.out Tryz.underlying59 rfl HCi.out ?_) | (refine wpList_storeBox rfl _ _ _ rfl _ _ _ _ rfl rfl rfl rfl info_node rfl HC0.out HC1.out ?_))
        have hE1 := (Ext.refl wr).alloc (.cells C.toArray 59)
        have hX := rangeAt_new wr C 59
        have hz1 : (wr.alloc (.cells C.toArray 59)).heap.size = wr.heap.size + 1 := by simp
        generalize wr.alloc (.cells C.toArray 59) = W1 at *
        have HE1 := Lib.hid hE1
        have HX := Lib.hid hX
        have HDa := Lib.hid (rangeAt_ext HD.out hE1 hz')
        have HZ := Lib.hid hz1
        have hzz : wr.heap.size < W1.heap.size := by omega
        clear hE1 hX hz1
        go_upto_region 7 with (first | (refine wpList_load_mid rfl _ _ rfl _ _ rfl _ _ HDa.out Tryz.underlying59 rfl HDi.out ?_) | (refine wpList_storeBox rfl _ _ _ rfl _ _ _ _ rfl rfl rfl rfl info_node rfl HD0.out HD1.out ?_))
        have hE2 := (Ext.refl W1).alloc (.cells D.toArray 59)
        have hY := rangeAt_new W1 D 59
        generalize W1.alloc (.cells D.toArray 59) = W2 at *
        have HE2 := Lib.hid (HE1.out.trans hE2)
        have HY := Lib.hid hY
        have HXa := Lib.hid (rangeAt_ext HX.out hE2 hzz)
        clear hE2 hY
        go_wp2_with (first | (refine wpList_load_mid rfl _ _ rfl _ _ rfl _ _ HXa.out Tryz.underlying59 rfl HCi.out ?_) | (refine wpList_load_mid rfl _ _ rfl _ _ rfl _ _ HY.out Tryz.underlying59 rfl HDi.out ?_))
        refine (nsame_any _ _ _ _ _ (HS.out.ext HE2.out) (HS'.out.ext HE2.out)).mono ?_
        rintro e w1 ⟨rfl, hE1⟩
        have hE3 := (hE.trans HE2.out).trans hE1
        cases hkx : eqNd l[j] l'[j] with
        | true =>
          have HA2 := Lib.hid (take_more hlt hlt' HA.out (eqNd_iff.1 hkx))
          clear hE1 HA hkx HS HS'
          go_wp2
          go_roundw
          case rel => exact ⟨j + 1, by omega, by go_num, HA2, hE3⟩
          case measure => simp [intOf]; omega
        | false =>
          have HA2 := Lib.hid (eqNds_ne (l := l) (m := l') (fun e => by subst e; rw [eqNd_refl] at hkx; cases hkx))
          clear hE1 HA hkx HS HS'
          go_wp2
          go_ret
          exact ⟨by rw [HA2.out]; rfl, hE3⟩
      · have hj' : j = l.length := by omega
        have HA2 : Hid (eqNds l l' = true) := Lib.hid (eqNds_iff.2 (by have := HA.out; rw [hj', List.take_length, HL.out, List.take_length] at this; exact this))
        clear hj'
        go_wp2
        go_ret
        exact ⟨by rw [HA2.out]; rfl, hE⟩
  · have f3 : ((l.length : Int) != (l'.length : Int)) = true := by rw [bne, Bool.not_eq_true']; simp; omega
    have HX := Lib.hid (eqNds_ne (l := l) (m := l') (fun e => hl (by rw [e])))
    clear hl
    go_enter Tryz.func40, Tryz.ntmps40
    go_wp2
    go_ret
    exact ⟨by rw [HX.out]; rfl, Ext.refl w⟩

set_option maxRecDepth 100000 in
set_option maxHeartbeats 8000000 in
theorem sSame_any (o p : Sn) (w : World) (v x : Value) (hv : SnV w o v) (hx : SnV w p x) :
    Calls Tryz.prog 10 #[v, x] w fun e w' => e = .returned (.bool (eqSn o p)) ∧ Ext w w' := by
  obtain ⟨a, m, c, rfl, hr, -⟩ := hv
  obtain ⟨a', m', c', rfl, hr', -⟩ := hx
  obtain ⟨C, hC⟩ : ∃ z, z = o.cq := ⟨_, rfl⟩
  obtain ⟨C', hC'⟩ : ∃ z, z = p.cq := ⟨_, rfl⟩
  obtain ⟨D, hD⟩ : ∃ z, z = o.cd := ⟨_, rfl⟩
  obtain ⟨D', hD'⟩ : ∃ z, z = p.cd := ⟨_, rfl⟩
  obtain ⟨W, hW⟩ : ∃ z, z = o.cw := ⟨_, rfl⟩
  obtain ⟨W', hW'⟩ : ∃ z, z = p.cw := ⟨_, rfl⟩
  obtain ⟨R, hR⟩ : ∃ z, z = o.cr := ⟨_, rfl⟩
  obtain ⟨R', hR'⟩ : ∃ z, z = p.cr := ⟨_, rfl⟩
  obtain ⟨G, hG⟩ : ∃ z, z = o.cf := ⟨_, rfl⟩
  obtain ⟨G', hG'⟩ : ∃ z, z = p.cf := ⟨_, rfl⟩
  obtain ⟨F, hF⟩ : ∃ z, z = o.flows := ⟨_, rfl⟩
  obtain ⟨F', hF'⟩ : ∃ z, z = p.flows := ⟨_, rfl⟩
  obtain ⟨T, hT⟩ : ∃ z, z = o.tok := ⟨_, rfl⟩
  obtain ⟨T', hT'⟩ : ∃ z, z = p.tok := ⟨_, rfl⟩
  have hX : eqSn o p = ((C == C') && ((D == D') && ((W == W') && ((R == R') && ((G == G') && ((F == F') && ((T == T') && eqNds o.nodes p.nodes))))))) := by
    rw [eqSn_all, hC, hC', hD, hD', hW, hW', hR, hR', hG, hG', hF, hF', hT, hT', int_beq, int_beq, int_beq, int_beq, int_beq, int_beq, int_beq]
  rw [← hC, ← hC', ← hD, ← hD', ← hW, ← hW', ← hR, ← hR', ← hG, ← hG', ← hF, ← hF', ← hT, ← hT']
  have HR := Lib.hid hr
  have HR' := Lib.hid hr'
  have HX := Lib.hid hX
  clear hX hr hr' hC hC' hD hD' hW hW' hR hR' hG hG' hF hF' hT hT'
  have h1 := (BoxL.new w [.int .i64 C, .int .i64 D, .int .i64 W, .int .i64 R, .int .i64 G, .int .i64 F, .slice a m c, .int .i64 T] 26).ext ((Ext.refl _).alloc (.cells #[.int .i64 C', .int .i64 D', .int .i64 W', .int .i64 R', .int .i64 G', .int .i64 F', .slice a' m' c', .int .i64 T'] 26))
  have h2 := BoxL.new (w.alloc (.cells #[.int .i64 C, .int .i64 D, .int .i64 W, .int .i64 R, .int .i64 G, .int .i64 F, .slice a m c, .int .i64 T] 26)) [.int .i64 C', .int .i64 D', .int .i64 W', .int .i64 R', .int .i64 G', .int .i64 F', .slice a' m' c', .int .i64 T'] 26
  have hz : (w.alloc (.cells #[.int .i64 C, .int .i64 D, .int .i64 W, .int .i64 R, .int .i64 G, .int .i64 F, .slice a m c, .int .i64 T] 26)).heap.size = w.heap.size + 1 := by simp
  rw [hz] at h2
  have hE := ((Ext.refl w).alloc (.cells #[.int .i64 C, .int .i64 D, .int .i64 W, .int .i64 R, .int .i64 G, .int .i64 F, .slice a m c, .int .i64 T] 26)).alloc (.cells #[.int .i64 C', .int .i64 D', .int .i64 W', .int .i64 R', .int .i64 G', .int .i64 F', .slice a' m' c', .int .i64 T'] 26)
  clear hz
  go_enter Tryz.func10, Tryz.ntmps10
  go_upto_region 1 with (fail)
  have H1 := Lib.hid h1
  have H2 := Lib.hid h2
  have HE := Lib.hid hE
  clear h1 h2 hE
  generalize (w.alloc _).alloc _ = W1 at *
  have ⟨p0, p1, p2, p3, p4, p5, p6, p7⟩ := H1.out.n8
  have ⟨q0, q1, q2, q3, q4, q5, q6, q7⟩ := H2.out.n8
  cases b0 : (C == C') with
  | false =>
    have HB := Lib.hid (by rw [HX.out, b0]; simp : eqSn o p = false)
    go_wp2
    go_ret
    exact ⟨by rw [HB.out]; rfl, HE.out⟩
  | true =>
  have HX := Lib.hid (by rw [HX.out, b0, Bool.true_and] : eqSn o p = ((D == D') && ((W == W') && ((R == R') && ((G == G') && ((F == F') && ((T == T') && eqNds o.nodes p.nodes)))))))
  cases b1 : (D == D') with
  | false =>
    have HB := Lib.hid (by rw [HX.out, b1]; simp : eqSn o p = false)
    go_wp2
    go_ret
    exact ⟨by rw [HB.out]; rfl, HE.out⟩
  | true =>
  have HX := Lib.hid (by rw [HX.out, b1, Bool.true_and] : eqSn o p = ((W == W') && ((R == R') && ((G == G') && ((F == F') && ((T == T') && eqNds o.nodes p.nodes))))))
  cases b2 : (W == W') with
  | false =>
    have HB := Lib.hid (by rw [HX.out, b2]; simp : eqSn o p = false)
    go_wp2
    go_ret
    exact ⟨by rw [HB.out]; rfl, HE.out⟩
  | true =>
  have HX := Lib.hid (by rw [HX.out, b2, Bool.true_and] : eqSn o p = ((R == R') && ((G == G') && ((F == F') && ((T == T') && eqNds o.nodes p.nodes)))))
  cases b3 : (R == R') with
  | false =>
    have HB := Lib.hid (by rw [HX.out, b3]; simp : eqSn o p = false)
    go_wp2
    go_ret
    exact ⟨by rw [HB.out]; rfl, HE.out⟩
  | true =>
  have HX := Lib.hid (by rw [HX.out, b3, Bool.true_and] : eqSn o p = ((G == G') && ((F == F') && ((T == T') && eqNds o.nodes p.nodes))))
  cases b4 : (G == G') with
  | false =>
    have HB := Lib.hid (by rw [HX.out, b4]; simp : eqSn o p = false)
    go_wp2
    go_ret
    exact ⟨by rw [HB.out]; rfl, HE.out⟩
  | true =>
  have HX := Lib.hid (by rw [HX.out, b4, Bool.true_and] : eqSn o p = ((F == F') && ((T == T') && eqNds o.nodes p.nodes)))
  cases b5 : (F == F') with
  | false =>
    have HB := Lib.hid (by rw [HX.out, b5]; simp : eqSn o p = false)
    go_wp2
    go_ret
    exact ⟨by rw [HB.out]; rfl, HE.out⟩
  | true =>
  have HX := Lib.hid (by rw [HX.out, b5, Bool.true_and] : eqSn o p = ((T == T') && eqNds o.nodes p.nodes))
  cases b6 : (T == T') with
  | false =>
    have HB := Lib.hid (by rw [HX.out, b6]; simp : eqSn o p = false)
    go_wp2
    go_ret
    exact ⟨by rw [HB.out]; rfl, HE.out⟩
  | true =>
  have HX := Lib.hid (by rw [HX.out, b6, Bool.true_and] : eqSn o p = eqNds o.nodes p.nodes)
  go_wp2_with fail
  refine (equalNd_any o.nodes p.nodes W1 _ _ (HR.out.ext HE.out) (HR'.out.ext HE.out)).mono ?_
  rw [← HX.out]
  rintro e w3 ⟨rfl, hE3⟩
  have HE3 := Lib.hid (HE.out.trans hE3)
  clear hE3
  go_wp2
  go_ret
  exact ⟨rfl, HE3.out⟩
end Go.Proofs.YtdienbcjfljjnaaGreatDoor
