/- Walks: the reference's kinds, Right, Same. -/
import Derived.Test.YtnbalamacpcanaaDoorValC
open Go.RowKit Go.Shelf
namespace Go.Proofs.YtnbalamacpcanaaDoor
open Go Go.Proofs Fm

theorem all_take (f : Tr → Bool) (l : List Tr) (k : Nat) (hk : k < l.length) (h : (l.take k).all f = true) (hx : f l[k] = true) : (l.take (k + 1)).all f = true := by
  rw [List.take_add_one, List.getElem?_eq_getElem hk, List.all_append, h]; simp [hx]
theorem all_false (f : Tr → Bool) (l : List Tr) (k : Nat) (hk : k < l.length) (hx : f l[k] = false) : l.all f = false := by
  rw [List.all_eq_false]; exact ⟨l[k], List.getElem_mem hk, by simp [hx]⟩

set_option maxRecDepth 100000 in
set_option maxHeartbeats 2000000 in
theorem rkinds_any (t : Tr) : ∀ (w : World) (v : Value), Lies w t v →
    Calls Tryd.prog 65 #[v] w fun e w' => e = .returned (.bool (kindsT t)) ∧ Ext w w' := by
  induction t using Tr.ind with
  | h k n s l ih =>
  intro w v hl
  cases hl with
  | node _ _ _ _ a cap C hn hs h1 h2 h3 h4 h5 =>
  have e0 := u8_eq k 0
  have e1 := u8_eq k 1
  have e2 := u8_eq k 2
  rw [show ((0 : UInt8).toNat : Int) = 0 from rfl] at e0
  rw [show ((1 : UInt8).toNat : Int) = 1 from rfl] at e1
  rw [show ((2 : UInt8).toNat : Int) = 2 from rfl] at e2
  generalize (k.toNat : Int) = K at *
  have H4 := Lib.hid h4; have H5 := Lib.hid h5
  have hll : l.length ≤ 9223372036854775807 := by unfold maxLen at h2; omega
  clear h3 h4 h5 hn
  have hss := str_size s
  have hstl := str_toList s
  have HK := Lib.hid (kindsT_node k n s l)
  by_cases hk0 : k = 0
  · have HX : Hid (kindsT (.node k n s l) = ((str s).toList.isEmpty && ((l.length : Int) == 0))) := Lib.hid (by
      rw [HK.out, hk0, plainB_0]
      cases l with
      | nil => simp
      | cons t ts => simp; intro _ hh; omega)
    have f0 : (K == 0) = true := by rw [e0]; simpa using hk0
    clear e0 e1 e2 hk0 HK hstl ih H4 H5
    go_enter Tryd.func65, Tryd.ntmps65
    go_wp2
    all_goals go_ret
    all_goals
      refine ⟨?_, (Ext.refl w).alloc _⟩
      have hX := HX.out
      clear HX
      rw [hX]
      simp_all
  have f0 : (K == 0) = false := by rw [e0]; simpa using hk0
  by_cases hk1 : k = 1
  · have HX : Hid (kindsT (.node k n s l) = ((n == 0) && ((l.length : Int) == 0) && decide ((s.length : Int) ≤ 100))) := Lib.hid (by
      rw [HK.out, hk1, plainB_1]
      cases l with
      | nil => simp
      | cons t ts => simp; intro _ hh; omega)
    have f1 : (K == 1) = true := by rw [e1]; simpa using hk1
    clear e0 e1 e2 hk0 hk1 HK hstl ih H4 H5
    go_enter Tryd.func65, Tryd.ntmps65
    go_wp2
    all_goals go_ret
    all_goals
      refine ⟨?_, (Ext.refl w).alloc _⟩
      have hX := HX.out
      clear HX
      rw [hX]
      simp_all
  have f1 : (K == 1) = false := by rw [e1]; simpa using hk1
  by_cases hp : plainB k n s l.length = true
  · have hk2 : k = 2 := Decidable.byContradiction fun h => by rw [plainB_3 k n s l.length hk0 hk1 h] at hp; cases hp
    have f2 : (K == 2) = true := by rw [e2]; simpa using hk2
    have g2 : (K != 2) = false := by rw [bne, f2]; rfl
    rw [hk2, plainB_2] at hp
    simp only [Bool.and_eq_true, beq_iff_eq, decide_eq_true_eq, hstl, List.isEmpty_iff] at hp
    obtain ⟨⟨hn0, hs0⟩, hl40⟩ := hp
    have hst : (str s).toList = [] := by rw [hstl, hs0]
    have hl40' : l.length ≤ 40 := by omega
    have HX : Hid (kindsT (.node k n s l) = l.all kindsT) := Lib.hid (by rw [HK.out, hk2, plainB_2, hstl, hs0, hn0]; simp; intro h; omega)
    subst hn0
    clear e0 e1 e2 hk0 hk1 hk2 HK hstl hs0 hl40
    go_enter Tryd.func65, Tryd.ntmps65
    go_wp2_with fail
    obtain ⟨-, -, -, m3, hsz⟩ := alloc4 w (.int .u8 K) (.int .i64 0) (.string (str s)) (.slice a l.length cap) 24
    have hE0 := (Ext.refl w).alloc (.cells #[.int .u8 K, .int .i64 0, .string (str s), .slice a l.length cap] 24)
    generalize w.alloc (.cells #[.int .u8 K, .int .i64 0, .string (str s), .slice a l.length cap] 24) = W1 at *
    clear f0 f1 f2 g2 hst
    go_loopw [3] (fun i wr => ∃ k : Nat, k ≤ l.length ∧ i = .int .i64 k ∧ Hid ((l.take k).all kindsT = true) ∧ Ext W1 wr) (fun i _ => l.length - (intOf i).toNat)
    case atStart => exact ⟨0, by omega, rfl, by simp [Hid], Ext.refl _⟩
    case round =>
      obtain ⟨i, hi, rfl, HA, hE'⟩ := hrel
      have hE := hE0.trans hE'
      have m3' := (hE'.cell (p := ⟨w.heap.size, 3, none⟩) hsz).trans m3
      by_cases hlt : i < l.length
      · obtain ⟨b, off, rfl, hb, hc⟩ := H4.out (by omega)
        obtain ⟨k0, n0, s0, a0, m0, c0, e0, e1, e2, e3, hx⟩ := elem4 hE hb hc H5.out i hlt
        go_wp2_with fail
        refine (ih _ (List.getElem_mem hlt) _ _ hx).mono ?_
        rintro e w1 ⟨rfl, hE1⟩
        have hE2 := hE'.trans hE1
        have hE3 := hE.trans hE1
        cases hkx : kindsT l[i] with
        | true =>
          have HA2 := Lib.hid (all_take kindsT l i hlt HA.out hkx)
          clear hE1 e0 e1 e2 e3 hx hb hc HA hkx
          go_wp2
          go_roundw
          case rel => exact ⟨i + 1, by omega, by go_num, HA2, hE2⟩
          case measure => simp [intOf]; omega
        | false =>
          have HA2 := Lib.hid (all_false kindsT l i hlt hkx)
          clear hE1 e0 e1 e2 e3 hx hb hc HA hkx
          go_wp2
          go_ret
          exact ⟨by rw [HX.out, HA2.out]; rfl, hE3⟩
      · have hi' : i = l.length := by omega
        have HA2 : Hid (l.all kindsT = true) := by have := HA.out; rw [hi', List.take_length] at this; exact this
        clear hi'
        go_wp2
        go_ret
        exact ⟨by rw [HX.out, HA2.out]; rfl, hE⟩
  · have HX : Hid (kindsT (.node k n s l) = false) := Lib.hid (by rw [HK.out]; simp [hp])
    by_cases hk2 : k = 2
    · have f2 : (K == 2) = true := by rw [e2]; simpa using hk2
      have g2 : (K != 2) = false := by rw [bne, f2]; rfl
      rw [hk2, plainB_2, hstl] at hp
      have HP := Lib.hid hp
      clear e0 e1 e2 hk0 hk1 hk2 HK ih H4 H5 hp
      have hstl' := Lib.hid hstl; clear hstl
      by_cases hn0 : n = 0
      · by_cases hs0 : s = []
        · have hl40 : ¬ (l.length : Int) ≤ 40 := fun h => HP.out (by simp [hn0, hs0]; omega)
          have hst : (str s).toList = [] := by rw [hstl'.out, hs0]
          subst hn0; clear hs0
          go_enter Tryd.func65, Tryd.ntmps65
          go_wp2
          go_ret
          exact ⟨by rw [HX.out]; rfl, (Ext.refl w).alloc _⟩
        · have hst : ¬ (str s).toList = [] := by rw [hstl'.out]; exact hs0
          subst hn0; clear hs0
          go_enter Tryd.func65, Tryd.ntmps65
          go_wp2
          go_ret
          exact ⟨by rw [HX.out]; rfl, (Ext.refl w).alloc _⟩
      · have hn' : (n == 0) = false := by simpa using hn0
        have hn'' : (n != 0) = true := by rw [bne, hn']; rfl
        clear hn0
        go_enter Tryd.func65, Tryd.ntmps65
        go_wp2
        go_ret
        exact ⟨by rw [HX.out]; rfl, (Ext.refl w).alloc _⟩
    · have f2 : (K == 2) = false := by rw [e2]; simpa using hk2
      have g2 : (K != 2) = true := by rw [bne, f2]; rfl
      clear e0 e1 e2 hk0 hk1 hk2 HK hstl ih H4 H5
      go_enter Tryd.func65, Tryd.ntmps65
      go_wp2
      go_ret
      exact ⟨by rw [HX.out]; rfl, (Ext.refl w).alloc _⟩

set_option maxRecDepth 100000 in
set_option maxHeartbeats 2000000 in
theorem rright_any (t : Tr) (w : World) (v : Value) (h : Lies w t v) (hp : partsT t ≤ 1000000) (hd : deepT t ≤ 1000000) :
    Calls Tryd.prog 18 #[v] w fun e w' => e = .returned (.bool (rightT t)) ∧ Ext w w' := by
  have HL := Lib.hid h
  have HR : Hid (rightT t = (kindsT t && decide ((deepT t : Int) ≤ 6) && decide ((partsT t : Int) ≤ 200))) := Lib.hid (by
    rw [rightT, Bool.eq_iff_iff]; simp only [Bool.and_eq_true, decide_eq_true_eq]
    exact and_congr (and_congr Iff.rfl ⟨fun h => by omega, fun h => by omega⟩) ⟨fun h => by omega, fun h => by omega⟩)
  cases h with
  | node k n s l a cap C hn hs h1 h2 h3 h4 h5 =>
  clear hn hs h1 h2 h3 h4 h5
  obtain ⟨-, -, -, -, hsz⟩ := alloc4 w (.int .u8 (k.toNat : Int)) (.int .i64 n) (.string (str s)) (.slice a l.length cap) 24
  have hm := alloc4 w (.int .u8 (k.toNat : Int)) (.int .i64 n) (.string (str s)) (.slice a l.length cap) 24
  have hE0 := (Ext.refl w).alloc (.cells #[.int .u8 (k.toNat : Int), .int .i64 n, .string (str s), .slice a l.length cap] 24)
  go_enter Tryd.func18, Tryd.ntmps18
  go_wp2_with fail
  generalize w.alloc (.cells #[.int .u8 (k.toNat : Int), .int .i64 n, .string (str s), .slice a l.length cap] 24) = W1 at *
  refine (rkinds_any _ _ _ (HL.out.ext hE0)).mono ?_
  rintro e w1 ⟨rfl, hE1⟩
  have hE2 := hE0.trans hE1
  have m0 := (hE1.cell (p := ⟨w.heap.size, 0, none⟩) hsz).trans hm.1
  have m1 := (hE1.cell (p := ⟨w.heap.size, 1, none⟩) hsz).trans hm.2.1
  have m2 := (hE1.cell (p := ⟨w.heap.size, 2, none⟩) hsz).trans hm.2.2.1
  have m3 := (hE1.cell (p := ⟨w.heap.size, 3, none⟩) hsz).trans hm.2.2.2.1
  have hsz1 := Nat.lt_of_lt_of_le hsz hE1.size
  clear hm hE0
  cases hk : kindsT (.node k n s l) with
  | false =>
    rw [hk] at HR
    clear hk hE1
    go_wp2
    go_ret
    exact ⟨by rw [HR.out]; rfl, hE2⟩
  | true =>
    rw [hk] at HR
    clear hk hE1
    go_wp2_with fail
    refine (rdeep_any _ _ _ (HL.out.ext hE2) hd).mono ?_
    rintro e w2 ⟨rfl, hE3⟩
    have hE4 := hE2.trans hE3
    have m0' := (hE3.cell (p := ⟨w.heap.size, 0, none⟩) hsz1).trans m0
    have m1' := (hE3.cell (p := ⟨w.heap.size, 1, none⟩) hsz1).trans m1
    have m2' := (hE3.cell (p := ⟨w.heap.size, 2, none⟩) hsz1).trans m2
    have m3' := (hE3.cell (p := ⟨w.heap.size, 3, none⟩) hsz1).trans m3
    generalize deepT (.node k n s l) = D at *
    clear m0 m1 m2 m3 hE3
    by_cases hD : D ≤ 6
    · go_wp2_with fail
      refine (rparts_any _ _ _ (HL.out.ext hE4) hp).mono ?_
      rintro e w3 ⟨rfl, hE5⟩
      have hE6 := hE4.trans hE5
      generalize partsT (.node k n s l) = P at *
      clear m0' m1' m2' m3' hE5
      have HR2 : Hid (rightT (.node k n s l) = decide ((P : Int) ≤ 200)) := Lib.hid (by
        have h6 : (D : Int) ≤ 6 := by omega
        rw [HR.out]; simp [h6])
      clear HR
      go_wp2
      go_ret
      exact ⟨by rw [HR2.out]; rfl, hE6⟩
    · have HR2 : Hid (rightT (.node k n s l) = false) := Lib.hid (by
        have h6 : ¬ (D : Int) ≤ 6 := by omega
        rw [HR.out]; simp [h6])
      clear HR m0' m1' m2' m3'
      go_wp2
      go_ret
      exact ⟨by rw [HR2.out]; rfl, hE4⟩
end Go.Proofs.YtnbalamacpcanaaDoor
