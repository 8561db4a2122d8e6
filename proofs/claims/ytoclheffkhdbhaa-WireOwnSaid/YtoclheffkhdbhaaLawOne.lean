/- WireOne answers true at every input. -/
import Derived.Test.YtoclheffkhdbhaaWireW
open Go.RowKit Go.Shelf
namespace Go.Proofs.Ytoclheffkhdbhaa
open Go Go.Proofs Fm

theorem takeN_back {xs : List UInt8} {n : Int} {k : Nat} (h : takeN xs = some (n, k)) : numB n ++ xs.drop k = xs := by
  obtain ⟨_, _, _, _, h5, _⟩ := takeN_inv h
  rw [← h5, List.take_append_drop]
theorem takeT_back {xs : List UInt8} {top : Int} {k n : Nat} (h : takeT xs top = some (k, n)) : textB ((xs.drop k).take n) ++ (xs.drop k).drop n = xs := by
  obtain ⟨h1, _, h3⟩ := takeT_inv h
  have hl : ((xs.drop k).take n).length = n := by simp; omega
  unfold textB
  rw [hl, List.append_assoc, List.take_append_drop, takeN_back h1]

set_option maxHeartbeats 2000000 in
theorem wireOne_any (v : Value) (xs : List UInt8) (w : World) (h : Bytes w v xs) :
    Calls Try.prog 3 #[v] w fun e w' => e = .returned (.bool true) ∧ Ext w w' := by
  have hln := len_bytes h
  have hll := h.length_le
  by_cases hlen : xs.length ≤ 400
  · go_enter Try.func3, Try.ntmps3
    go_wp2_with fail
    refine (takeNum_any v xs w h).mono ?_
    intro e w1 hp
    unfold TakeNumPost at hp
    cases hN : takeN xs with
    | none =>
      rw [hN] at hp
      obtain ⟨rfl, rfl⟩ := hp
      clear hN
      have hE1 := Ext.refl w
      go_wp2_with fail
      refine (takeText_any v xs 400 (by unfold isI64; omega) _ (h.ext hE1)).mono ?_
      intro e w1 hp
      unfold TakeTextPost at hp
      cases hT : takeT xs 400 with
      | none =>
        rw [hT] at hp
        obtain ⟨nq2, rfl, rfl⟩ := hp
        clear hT
        have hE5 := hE1.drewN nq2
        go_wp2_with fail
        refine (awake07 _).mono ?_
        rintro e w7 ⟨rfl, hE7⟩
        go_wp2
        go_ret
        exact ⟨rfl, hE5.trans hE7⟩
      | some p =>
        obtain ⟨k2, n2⟩ := p
        rw [hT] at hp
        obtain ⟨nq2, rfl, rfl⟩ := hp
        have HB2 := Lib.hid (takeT_back hT)
        obtain ⟨hn2, _, hk2⟩ := takeT_inv hT
        have hE5 := hE1.drewN nq2
        have hd := ((h.drop (k := k2) (by omega)).drop (k := n2) (by simp; omega)).ext hE5
        obtain ⟨s2, hs2⟩ : ∃ s2, s2 = (xs.drop k2).take n2 := ⟨_, rfl⟩
        obtain ⟨r2, hr2⟩ : ∃ r2, r2 = (xs.drop k2).drop n2 := ⟨_, rfl⟩
        rw [← hs2, ← hr2] at HB2
        rw [← hr2] at hd
        have hsl : s2.length ≤ 400 := by rw [hs2]; simp; omega
        have hrl : r2.length ≤ 400 := by rw [hr2]; simp; omega
        rw [← hs2]
        clear hs2 hr2 hT hn2
        go_wp2_with fail
        refine (text_any _ [] s2 _ (Bytes.nil _) (by simp) (by omega)).mono ?_
        rintro e w6 ⟨v6, rfl, hr6⟩
        have hE6 := hE5.trans hr6.2
        have hd6 := hd.ext hr6.2
        have ho6 := hr6.own.mono (show w.heap.size ≤ _ from hE5.size)
        have hsz6 := hE6.size
        have htl : ([] ++ textB s2).length ≤ 410 := by have := numB_le (s2.length : Int); simp [textB]; omega
        clear hr6
        go_wp2_with (at_builtin; refine appB rfl _ _ rfl rfl ho6 rfl hd6 ?b1 hsz6 ?_)
        case b1 => omega
        intro v7 w7 ho7 _ hB7
        have hE7 := hE6.then hB7
        try rw [List.nil_append] at ho7
        have h7 := h.ext hE7
        have b7 := ho7.bytes
        go_wp2_with fail
        refine (same_true b7 h7 HB2.out).mono ?_
        rintro e w8 ⟨rfl, rfl⟩
        go_wp2_with fail
        refine (awake07 _).mono ?_
        rintro e w9 ⟨rfl, hE9⟩
        go_wp2
        go_ret
        exact ⟨rfl, hE7.trans hE9⟩
    | some p =>
      obtain ⟨n, k⟩ := p
      rw [hN] at hp
      obtain ⟨nq, rfl, rfl⟩ := hp
      have HB := Lib.hid (takeN_back hN)
      obtain ⟨hn64, hk0, hk10, hkl, _, hnl⟩ := takeN_inv hN
      have hE0 := (Ext.refl w).drewN nq
      have hd := (h.drop hkl).ext hE0
      have HNL := Lib.hid hnl; clear hnl hN
      have hnle := numB_le n
      go_wp2_with fail
      refine (num_any _ [] _ (Bytes.nil _) (by simp) n hn64).mono ?_
      rintro e w2 ⟨v2, rfl, hr2⟩
      have hE2 := hE0.trans hr2.2
      have hd2 := hd.ext hr2.2
      have ho2 := hr2.own.mono (show w.heap.size ≤ _ from hE0.size)
      have hdl : (xs.drop k).length ≤ 400 := by simp; omega
      have hsz := hE2.size
      clear hr2
      go_wp2_with (at_builtin; refine appB rfl _ _ rfl rfl ho2 rfl hd2 ?b1 hsz ?_)
      case b1 => simp only [List.nil_append]; omega
      intro v3 w3 ho3 _ hB3
      have hE3 := hE2.then hB3
      try rw [List.nil_append] at ho3
      have h3 := h.ext hE3
      have b3 := ho3.bytes
      go_wp2_with fail
      refine (same_true b3 h3 HB.out).mono ?_
      rintro e w4 ⟨rfl, rfl⟩
      clear ho2 ho3 hd hd2 h3 b3 hsz hB3 hE2
      have hE1 := hE3
      go_wp2_with fail
      refine (takeText_any v xs 400 (by unfold isI64; omega) _ (h.ext hE1)).mono ?_
      intro e w1 hp
      unfold TakeTextPost at hp
      cases hT : takeT xs 400 with
      | none =>
        rw [hT] at hp
        obtain ⟨nq2, rfl, rfl⟩ := hp
        clear hT
        have hE5 := hE1.drewN nq2
        go_wp2_with fail
        refine (awake07 _).mono ?_
        rintro e w7 ⟨rfl, hE7⟩
        go_wp2
        go_ret
        exact ⟨rfl, hE5.trans hE7⟩
      | some p =>
        obtain ⟨k2, n2⟩ := p
        rw [hT] at hp
        obtain ⟨nq2, rfl, rfl⟩ := hp
        have HB2 := Lib.hid (takeT_back hT)
        obtain ⟨hn2, _, hk2⟩ := takeT_inv hT
        have hE5 := hE1.drewN nq2
        have hd := ((h.drop (k := k2) (by omega)).drop (k := n2) (by simp; omega)).ext hE5
        obtain ⟨s2, hs2⟩ : ∃ s2, s2 = (xs.drop k2).take n2 := ⟨_, rfl⟩
        obtain ⟨r2, hr2⟩ : ∃ r2, r2 = (xs.drop k2).drop n2 := ⟨_, rfl⟩
        rw [← hs2, ← hr2] at HB2
        rw [← hr2] at hd
        have hsl : s2.length ≤ 400 := by rw [hs2]; simp; omega
        have hrl : r2.length ≤ 400 := by rw [hr2]; simp; omega
        rw [← hs2]
        clear hs2 hr2 hT hn2
        go_wp2_with fail
        refine (text_any _ [] s2 _ (Bytes.nil _) (by simp) (by omega)).mono ?_
        rintro e w6 ⟨v6, rfl, hr6⟩
        have hE6 := hE5.trans hr6.2
        have hd6 := hd.ext hr6.2
        have ho6 := hr6.own.mono (show w.heap.size ≤ _ from hE5.size)
        have hsz6 := hE6.size
        have htl : ([] ++ textB s2).length ≤ 410 := by have := numB_le (s2.length : Int); simp [textB]; omega
        clear hr6
        go_wp2_with (at_builtin; refine appB rfl _ _ rfl rfl ho6 rfl hd6 ?b1 hsz6 ?_)
        case b1 => omega
        intro v7 w7 ho7 _ hB7
        have hE7 := hE6.then hB7
        try rw [List.nil_append] at ho7
        have h7 := h.ext hE7
        have b7 := ho7.bytes
        go_wp2_with fail
        refine (same_true b7 h7 HB2.out).mono ?_
        rintro e w8 ⟨rfl, rfl⟩
        go_wp2_with fail
        refine (awake07 _).mono ?_
        rintro e w9 ⟨rfl, hE9⟩
        go_wp2
        go_ret
        exact ⟨rfl, hE7.trans hE9⟩
  · go_enter Try.func3, Try.ntmps3
    go_wp2_with fail
    refine (awake07 w).mono ?_
    rintro e w1 ⟨rfl, hE⟩
    go_wp2
    go_ret
    exact ⟨rfl, hE⟩
end Go.Proofs.Ytoclheffkhdbhaa
