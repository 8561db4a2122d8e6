/- WireTells answers true at every input: the walk. -/
import Derived.Test.YtoclheffkhdbhaaLawFar
open Go.RowKit Go.Shelf
namespace Go.Proofs.Ytoclheffkhdbhaa
open Go Go.Proofs Fm

theorem slice_bf {w : World} {v : Value} {xs : List UInt8} (h : Bytes w v xs) (k : Int) (h0 : 0 ≤ k) (h1 : k ≤ xs.length) (w' : World) :
    (Instr.slice 22 v (some (.int .i64 k)) none none).run Try.prog w' = .ok (dropV v k.toNat) w' := by
  obtain ⟨a, cap, rfl, _⟩ := h
  exact slice_from a xs.length cap k h0 h1 w'

set_option maxRecDepth 100000 in
set_option maxHeartbeats 4000000 in
theorem wireTells_any (n : Int) (s : List UInt8) (v : Value) (xs : List UInt8) (most : Int) (hn : isI64 n) (hsl : s.length ≤ 9223372036854775807) (hm : isI64 most) (w : World) (h : Bytes w v xs) :
    Calls Try.prog 5 #[.int .i64 n, .string (str s), v, .int .i64 most] w fun e w' => e = .returned (.bool true) ∧ Ext w w' := by
  have hln := len_bytes h
  have hll := h.length_le
  have hss := str_size s
  have HN := Lib.hid hn; clear hn
  by_cases hs : s.length ≤ 300
  · by_cases hlen : xs.length ≤ 400
    · have E1 := Ext.refl w
      go_enter Try.func5, Try.ntmps5
      go_wp2_with fail
      refine (takeNum_any v xs w h).mono ?_
      intro e w1 hp
      unfold TakeNumPost at hp
      cases hN : takeN xs with
      | none =>
        rw [hN] at hp
        obtain ⟨rfl, rfl⟩ := hp
        go_wp2_with fail
        refine (rtakeNum_any v xs _ (h.ext E1)).mono ?_
        rintro e w2 ⟨hp, rfl⟩
        rw [hN] at hp
        simp only at hp
        subst hp
        clear hN
        go_wp2_with fail
        refine (takeText_any v xs most hm _ (h.ext E1)).mono ?_
        intro e w1 hp
        unfold TakeTextPost at hp
        cases hT : takeT xs most with
        | none =>
          rw [hT] at hp
          obtain ⟨nq2, rfl, hw1⟩ := hp
          replace E1 := (show Ext w w1 from by rw [hw1]; exact E1.drewN nq2)
          clear hw1
          go_wp2_with fail
          refine (rtakeText_any v xs most hm _ (h.ext E1)).mono ?_
          rintro e w2 ⟨hp, rfl⟩
          rw [hT] at hp
          simp only at hp
          subst hp
          clear hT
          have E2 := E1
          go_wp2_with fail
          refine (num_nil n HN.out _).mono ?_
          rintro e w21 ⟨v21, rfl, r21⟩
          go_wp2_with fail
          refine (rnum_any n HN.out _).mono ?_
          rintro e w22 ⟨v22, rfl, r22⟩
          have c21 := r21.bytes.ext r22.2
          have c22 := r22.bytes
          have E22 := (E2.trans r21.2).trans r22.2
          clear r21 r22
          go_wp2_with fail
          refine (same_true c21 c22 rfl).mono ?_
          rintro e w23 ⟨rfl, rfl⟩
          go_wp2_with fail
          refine (text_any _ [] s _ (Bytes.nil _) (by simp) (by omega)).mono ?_
          rintro e w23 ⟨v23, rfl, r23⟩
          go_wp2_with fail
          refine (rtext_any s (by omega) _).mono ?_
          rintro e w24 ⟨v24, rfl, r24⟩
          have c23 := r23.bytes.ext r24.2
          have c24 := r24.bytes
          have E24 := (E22.trans r23.2).trans r24.2
          clear r23 r24 c21 c22
          go_wp2_with fail
          refine (same_true c23 c24 rfl).mono ?_
          rintro e w25 ⟨rfl, rfl⟩
          go_wp2_with fail
          refine (size_any n HN.out _).mono ?_
          rintro e w25 ⟨rfl, E25⟩
          go_wp2_with fail
          refine (rnum_any n HN.out _).mono ?_
          rintro e w26 ⟨v26, rfl, r26⟩
          have c26 := len_bytes r26.bytes
          have E26 := (E24.trans E25).trans r26.2
          clear r26 c23 c24
          go_wp2_with fail
          refine (awake07 _).mono ?_
          rintro e w27 ⟨rfl, E27⟩
          go_wp2
          go_ret
          exact ⟨rfl, E26.trans E27⟩
        | some p =>
          obtain ⟨k2, n2⟩ := p
          rw [hT] at hp
          obtain ⟨nq2, rfl, hw1⟩ := hp
          replace E1 := (show Ext w w1 from by rw [hw1]; exact E1.drewN nq2)
          clear hw1
          go_wp2_with fail
          refine (rtakeText_any v xs most hm _ (h.ext E1)).mono ?_
          rintro e w2 ⟨hp, rfl⟩
          rw [hT] at hp
          simp only at hp
          subst hp
          obtain ⟨_, _, hk2⟩ := takeT_inv hT
          have d1 := ((h.drop (k := k2) (by omega)).drop (k := n2) (by simp; omega)).ext E1
          have d2 := (h.drop (k := k2 + n2) (by omega)).ext E1
          rw [List.drop_drop] at d1
          have hsl := slice_bf h ((k2 : Int) + n2) (by omega) (by omega)
          rw [show ((k2 : Int) + n2).toNat = k2 + n2 by omega] at hsl
          clear hT
          go_wp2_with fail
          refine (same_true d1 d2 rfl).mono ?_
          rintro e w3 ⟨rfl, rfl⟩
          clear d1 d2 hsl
          have E2 := E1
          go_wp2_with fail
          refine (num_nil n HN.out _).mono ?_
          rintro e w21 ⟨v21, rfl, r21⟩
          go_wp2_with fail
          refine (rnum_any n HN.out _).mono ?_
          rintro e w22 ⟨v22, rfl, r22⟩
          have c21 := r21.bytes.ext r22.2
          have c22 := r22.bytes
          have E22 := (E2.trans r21.2).trans r22.2
          clear r21 r22
          go_wp2_with fail
          refine (same_true c21 c22 rfl).mono ?_
          rintro e w23 ⟨rfl, rfl⟩
          go_wp2_with fail
          refine (text_any _ [] s _ (Bytes.nil _) (by simp) (by omega)).mono ?_
          rintro e w23 ⟨v23, rfl, r23⟩
          go_wp2_with fail
          refine (rtext_any s (by omega) _).mono ?_
          rintro e w24 ⟨v24, rfl, r24⟩
          have c23 := r23.bytes.ext r24.2
          have c24 := r24.bytes
          have E24 := (E22.trans r23.2).trans r24.2
          clear r23 r24 c21 c22
          go_wp2_with fail
          refine (same_true c23 c24 rfl).mono ?_
          rintro e w25 ⟨rfl, rfl⟩
          go_wp2_with fail
          refine (size_any n HN.out _).mono ?_
          rintro e w25 ⟨rfl, E25⟩
          go_wp2_with fail
          refine (rnum_any n HN.out _).mono ?_
          rintro e w26 ⟨v26, rfl, r26⟩
          have c26 := len_bytes r26.bytes
          have E26 := (E24.trans E25).trans r26.2
          clear r26 c23 c24
          go_wp2_with fail
          refine (awake07 _).mono ?_
          rintro e w27 ⟨rfl, E27⟩
          go_wp2
          go_ret
          exact ⟨rfl, E26.trans E27⟩
      | some p =>
        obtain ⟨m, k⟩ := p
        rw [hN] at hp
        obtain ⟨nq, rfl, hw1⟩ := hp
        replace E1 := (show Ext w w1 from by rw [hw1]; exact E1.drewN nq)
        clear hw1
        go_wp2_with fail
        refine (rtakeNum_any v xs _ (h.ext E1)).mono ?_
        rintro e w2 ⟨hp, rfl⟩
        rw [hN] at hp
        simp only at hp
        subst hp
        obtain ⟨_, hk0, hk10, hkl, _, _⟩ := takeN_inv hN
        have d1 := (h.drop hkl).ext E1
        have hsl := slice_bf h (k : Int) (by omega) (by omega)
        rw [Int.toNat_natCast] at hsl
        have hk0' : (0 : Int) < k := by omega
        clear hN
        go_wp2_with fail
        refine (same_true d1 d1 rfl).mono ?_
        rintro e w3 ⟨rfl, rfl⟩
        clear d1 hsl hk0 hk10
        go_wp2_with fail
        refine (takeText_any v xs most hm _ (h.ext E1)).mono ?_
        intro e w1 hp
        unfold TakeTextPost at hp
        cases hT : takeT xs most with
        | none =>
          rw [hT] at hp
          obtain ⟨nq2, rfl, hw1⟩ := hp
          replace E1 := (show Ext w w1 from by rw [hw1]; exact E1.drewN nq2)
          clear hw1
          go_wp2_with fail
          refine (rtakeText_any v xs most hm _ (h.ext E1)).mono ?_
          rintro e w2 ⟨hp, rfl⟩
          rw [hT] at hp
          simp only at hp
          subst hp
          clear hT
          have E2 := E1
          go_wp2_with fail
          refine (num_nil n HN.out _).mono ?_
          rintro e w21 ⟨v21, rfl, r21⟩
          go_wp2_with fail
          refine (rnum_any n HN.out _).mono ?_
          rintro e w22 ⟨v22, rfl, r22⟩
          have c21 := r21.bytes.ext r22.2
          have c22 := r22.bytes
          have E22 := (E2.trans r21.2).trans r22.2
          clear r21 r22
          go_wp2_with fail
          refine (same_true c21 c22 rfl).mono ?_
          rintro e w23 ⟨rfl, rfl⟩
          go_wp2_with fail
          refine (text_any _ [] s _ (Bytes.nil _) (by simp) (by omega)).mono ?_
          rintro e w23 ⟨v23, rfl, r23⟩
          go_wp2_with fail
          refine (rtext_any s (by omega) _).mono ?_
          rintro e w24 ⟨v24, rfl, r24⟩
          have c23 := r23.bytes.ext r24.2
          have c24 := r24.bytes
          have E24 := (E22.trans r23.2).trans r24.2
          clear r23 r24 c21 c22
          go_wp2_with fail
          refine (same_true c23 c24 rfl).mono ?_
          rintro e w25 ⟨rfl, rfl⟩
          go_wp2_with fail
          refine (size_any n HN.out _).mono ?_
          rintro e w25 ⟨rfl, E25⟩
          go_wp2_with fail
          refine (rnum_any n HN.out _).mono ?_
          rintro e w26 ⟨v26, rfl, r26⟩
          have c26 := len_bytes r26.bytes
          have E26 := (E24.trans E25).trans r26.2
          clear r26 c23 c24
          go_wp2_with fail
          refine (awake07 _).mono ?_
          rintro e w27 ⟨rfl, E27⟩
          go_wp2
          go_ret
          exact ⟨rfl, E26.trans E27⟩
        | some p =>
          obtain ⟨k2, n2⟩ := p
          rw [hT] at hp
          obtain ⟨nq2, rfl, hw1⟩ := hp
          replace E1 := (show Ext w w1 from by rw [hw1]; exact E1.drewN nq2)
          clear hw1
          go_wp2_with fail
          refine (rtakeText_any v xs most hm _ (h.ext E1)).mono ?_
          rintro e w2 ⟨hp, rfl⟩
          rw [hT] at hp
          simp only at hp
          subst hp
          obtain ⟨_, _, hk2⟩ := takeT_inv hT
          have d1 := ((h.drop (k := k2) (by omega)).drop (k := n2) (by simp; omega)).ext E1
          have d2 := (h.drop (k := k2 + n2) (by omega)).ext E1
          rw [List.drop_drop] at d1
          have hsl := slice_bf h ((k2 : Int) + n2) (by omega) (by omega)
          rw [show ((k2 : Int) + n2).toNat = k2 + n2 by omega] at hsl
          clear hT
          go_wp2_with fail
          refine (same_true d1 d2 rfl).mono ?_
          rintro e w3 ⟨rfl, rfl⟩
          clear d1 d2 hsl
          have E2 := E1
          go_wp2_with fail
          refine (num_nil n HN.out _).mono ?_
          rintro e w21 ⟨v21, rfl, r21⟩
          go_wp2_with fail
          refine (rnum_any n HN.out _).mono ?_
          rintro e w22 ⟨v22, rfl, r22⟩
          have c21 := r21.bytes.ext r22.2
          have c22 := r22.bytes
          have E22 := (E2.trans r21.2).trans r22.2
          clear r21 r22
          go_wp2_with fail
          refine (same_true c21 c22 rfl).mono ?_
          rintro e w23 ⟨rfl, rfl⟩
          go_wp2_with fail
          refine (text_any _ [] s _ (Bytes.nil _) (by simp) (by omega)).mono ?_
          rintro e w23 ⟨v23, rfl, r23⟩
          go_wp2_with fail
          refine (rtext_any s (by omega) _).mono ?_
          rintro e w24 ⟨v24, rfl, r24⟩
          have c23 := r23.bytes.ext r24.2
          have c24 := r24.bytes
          have E24 := (E22.trans r23.2).trans r24.2
          clear r23 r24 c21 c22
          go_wp2_with fail
          refine (same_true c23 c24 rfl).mono ?_
          rintro e w25 ⟨rfl, rfl⟩
          go_wp2_with fail
          refine (size_any n HN.out _).mono ?_
          rintro e w25 ⟨rfl, E25⟩
          go_wp2_with fail
          refine (rnum_any n HN.out _).mono ?_
          rintro e w26 ⟨v26, rfl, r26⟩
          have c26 := len_bytes r26.bytes
          have E26 := (E24.trans E25).trans r26.2
          clear r26 c23 c24
          go_wp2_with fail
          refine (awake07 _).mono ?_
          rintro e w27 ⟨rfl, E27⟩
          go_wp2
          go_ret
          exact ⟨rfl, E26.trans E27⟩
    · go_enter Try.func5, Try.ntmps5
      go_wp2_with fail
      refine (awake07 w).mono ?_
      rintro e w1 ⟨rfl, hE⟩
      go_wp2
      go_ret
      exact ⟨rfl, hE⟩
  · go_enter Try.func5, Try.ntmps5
    go_wp2_with fail
    refine (awake07 w).mono ?_
    rintro e w1 ⟨rfl, hE⟩
    go_wp2
    go_ret
    exact ⟨rfl, hE⟩
end Go.Proofs.Ytoclheffkhdbhaa
