/- Walks over a value's tree that only read: few, Few, Parts, Deep, kinds. -/
import Derived.Test.YtdienbcjfljjnaaDoorPlT
import Derived.Test.YtdienbcjfljjnaaDoorWireC
import Derived.IntWalk
import Derived.Deep.RegionHeld3
import Derived.StillTailTactics
open Go.RowKit Go.Shelf
namespace Go.Proofs.YtdienbcjfljjnaaDoor
open Go Go.Proofs Fm

theorem wrapN (a b : Nat) (h : a + b ≤ 9000000000000000000) : IntKind.i64.wrap ((a : Int) + (b : Int)) = ((a + b : Nat) : Int) := by
  rw [IntWalk.i64_in _ (by omega)]; omega

set_option maxRecDepth 100000 in
set_option maxHeartbeats 2000000 in
theorem few_any (d : Nat) : ∀ (D : Int) (t : Tr) (w : World) (v : Value), Hid (D = d) → Lies w t v → d ≤ 20 →
    Calls Tryd.prog 65 #[v, .int .i64 D] w fun e w' => e = .returned (.int .i64 (fewT d t)) ∧ Ext w w' := by
  induction d with
  | zero =>
    intro D t w v hD hl _
    have HF := Lib.hid (fewT_zero t)
    obtain rfl : D = 0 := hD.out
    cases hl with
    | node k n s l a cap C hn hs h1 h2 h3 h4 h5 =>
    clear hn hs h3 h4 h5
    go_enter Tryd.func65, Tryd.ntmps65
    go_wp2
    go_ret
    exact ⟨by rw [HF.out]; rfl, (Ext.refl w).alloc _⟩
  | succ d ih =>
    intro D t w v HD hl hd
    cases hl with
    | node kd n s l a cap C hn hs h1 h2 h3 h4 h5 =>
    have HF := Lib.hid (fewT_succ d kd n s l)
    have H4 := Lib.hid h4; have H5 := Lib.hid h5; have IH := Lib.hid ih
    clear h3 h4 h5 hs hn ih
    have hD := HD.out
    have hD1 : 1 ≤ D := by omega
    have hD2 : D ≤ 20 := by omega
    have h0 : (D == 0) = false := by simp; omega
    clear hD
    have HB : Hid (∀ t, fewT d t ≤ 1000000 * (d + 1)) := fewT_le d
    have hll : l.length ≤ 9223372036854775807 := by unfold maxLen at h2; omega
    go_enter Tryd.func65, Tryd.ntmps65
    go_wp2_with fail
    go_loopw [5, 13] (fun x i wr => ∃ k N : Nat, k ≤ l.length ∧ x = .int .i64 (N : Int) ∧ i = .int .i64 k ∧ N ≤ 1000000 ∧ Hid (fewL (fewT d) 1 l = fewL (fewT d) N (l.drop k)) ∧ Ext w wr) (fun _ i _ => l.length - (intOf i).toNat)
    case atStart => exact ⟨0, 1, by omega, rfl, rfl, by omega, Lib.hid (by rw [List.drop_zero]), (Ext.refl w).alloc _⟩
    case round =>
      obtain ⟨k, N, hk, rfl, rfl, hN, HN, hE⟩ := hrel
      by_cases hlt : k < l.length
      · obtain ⟨b, off, rfl, hb, hc⟩ := H4.out (by omega)
        obtain ⟨k0, n0, s0, a0, m0, c0, e0, e1, e2, e3, hx⟩ := elem4 hE hb hc H5.out k hlt
        have hst := fewL_drop (fewT d) N l k hlt
        have hPB := HB.out l[k]
        go_wp2_with fail
        refine (IH.out (D - 1) _ _ _ (Lib.hid (by have := HD.out; omega)) (hx.ext ((Ext.refl wr).alloc _)) (by omega)).mono ?_
        rintro e w1 ⟨rfl, hE1⟩
        have hE2 := (hE.alloc _).trans hE1
        obtain ⟨P, hP⟩ : ∃ P, P = fewT d l[k] := ⟨_, rfl⟩
        rw [← hP] at hst hPB ⊢
        have hPB' : P ≤ 20000000 := by omega
        by_cases hbig : 1000000 < N + P
        · rw [if_pos hbig] at hst
          have HR : Hid (fewT (d + 1) (.node kd n s l) = N + P) := Lib.hid (by rw [HF.out, HN.out, hst])
          clear hE1 e0 e1 e2 e3 hx hb hc HN hP hst
          go_wp2
          go_ret
          exact ⟨by rw [HR.out]; rfl, hE2⟩
        · rw [if_neg hbig] at hst
          have HR : Hid (fewL (fewT d) 1 l = fewL (fewT d) (N + P) (l.drop (k + 1))) := Lib.hid (by rw [HN.out, hst])
          clear hE1 e0 e1 e2 e3 hx hb hc HN hP hst
          go_wp2
          go_roundw
          case rel => exact ⟨k + 1, N + P, by omega, by go_num, by go_num, by omega, HR, hE2⟩
          case measure => simp [intOf]; omega
      · have hk' : k = l.length := by omega
        have HX := Lib.hid (show fewT (d + 1) (.node kd n s l) = N by rw [HF.out, HN.out, hk', List.drop_length, fewL_nil])
        clear hk'
        go_wp2
        go_ret
        exact ⟨by rw [HX.out]; rfl, hE⟩
end Go.Proofs.YtdienbcjfljjnaaDoor

/- Walks over a value's tree that only read: the reference's Parts, Deep; Same. -/
open Go.RowKit Go.Shelf
namespace Go.Proofs.YtdienbcjfljjnaaDoor
open Go Go.Proofs Fm

set_option maxRecDepth 100000 in
set_option maxHeartbeats 2000000 in
theorem Few_any (t : Tr) (w : World) (v : Value) (h : Lies w t v) :
    Calls Tryd.prog 30 #[v] w fun e w' => e = .returned (.bool (decide (fewT 20 t ≤ 600))) ∧ Ext w w' := by
  cases h with
  | node k n s l a cap C hn hs h1 h2 h3 h4 h5 =>
  have HL := Lib.hid (Lies.node k n s l a cap C hn hs h1 h2 h3 h4 h5)
  clear hn hs h1 h2 h3 h4 h5
  have hle := fewT_le 20 (.node k n s l)
  go_enter Tryd.func30, Tryd.ntmps30
  go_wp2_with fail
  refine (few_any 20 20 (.node k n s l) _ _ (Lib.hid rfl) (HL.out.ext ((Ext.refl w).alloc _)) (by omega)).mono ?_
  rintro e w1 ⟨rfl, hE1⟩
  have hE2 := ((Ext.refl w).alloc _).trans hE1
  obtain ⟨N, hN⟩ : ∃ N, N = fewT 20 (.node k n s l) := ⟨_, rfl⟩
  rw [← hN] at hle ⊢
  have HX := Lib.hid (show decide (fewT 20 (.node k n s l) ≤ 600) = decide ((N : Int) ≤ 600) by rw [← hN]; simp only [decide_eq_decide]; omega)
  clear hE1 hN
  go_wp2
  go_ret
  exact ⟨by rw [HX.out]; rfl, hE2⟩

end Go.Proofs.YtdienbcjfljjnaaDoor

/- Walks: plain, the reference's kinds, Right, Same. -/
open Go.RowKit Go.Shelf
namespace Go.Proofs.YtdienbcjfljjnaaDoor
open Go Go.Proofs Fm

theorem str_toList (s : List UInt8) : (str s).toList = s := by rw [Lib.toList_data]; rfl
theorem u8_eq (k c : UInt8) : ((k.toNat : Int) == (c.toNat : Int)) = decide (k = c) := by
  rw [Bool.eq_iff_iff]
  simp only [beq_iff_eq, decide_eq_true_eq]
  exact ⟨fun h => UInt8.toNat_inj.1 (by omega), fun h => by rw [h]⟩
theorem plainB_0 (n : Int) (s : List UInt8) (m : Nat) : plainB 0 n s m = ((str s).toList.isEmpty && ((m : Int) == 0)) := by
  rw [str_toList, Bool.eq_iff_iff]; simp [plainB]
theorem plainB_1 (n : Int) (s : List UInt8) (m : Nat) : plainB 1 n s m = ((n == 0) && ((m : Int) == 0) && decide ((s.length : Int) ≤ 100)) := by
  rw [Bool.eq_iff_iff]; simp [plainB]; omega
theorem plainB_2 (n : Int) (s : List UInt8) (m : Nat) : plainB 2 n s m = ((n == 0) && (str s).toList.isEmpty && decide ((m : Int) ≤ 40)) := by
  rw [str_toList, Bool.eq_iff_iff]; simp [plainB, and_assoc]; intro _ _; omega
theorem plainB_3 (k : UInt8) (n : Int) (s : List UInt8) (m : Nat) (h0 : k ≠ 0) (h1 : k ≠ 1) (h2 : k ≠ 2) : plainB k n s m = false := by
  simp [plainB, h0, h1, h2]

set_option maxRecDepth 100000 in
set_option maxHeartbeats 2000000 in
theorem vplain_any (k : UInt8) (n : Int) (s : List UInt8) (l : List Tr) (w : World) (v : Value) (h : Lies w (.node k n s l) v) :
    Calls Tryd.prog 89 #[v] w fun e w' => e = .returned (.bool (plainB k n s l.length)) ∧ Ext w w' := by
  cases h with
  | node _ _ _ _ a cap C hn hs h1 h2 h3 h4 h5 =>
  have e0 := u8_eq k 0
  have e1 := u8_eq k 1
  have e2 := u8_eq k 2
  rw [show ((0 : UInt8).toNat : Int) = 0 from rfl] at e0
  rw [show ((1 : UInt8).toNat : Int) = 1 from rfl] at e1
  rw [show ((2 : UInt8).toNat : Int) = 2 from rfl] at e2
  generalize (k.toNat : Int) = K at *
  clear h3 h4 h5 hn
  have hll : l.length ≤ 9223372036854775807 := by unfold maxLen at h2; omega
  have hss := str_size s
  by_cases hk0 : k = 0
  · have HX := Lib.hid ((congrArg (fun k => plainB k n s l.length) hk0).trans (plainB_0 n s l.length))
    have f0 : (K == 0) = true := by rw [e0]; simpa using hk0
    clear e0 e1 e2 hk0
    go_enter Tryd.func89, Tryd.ntmps89
    go_wp2
    all_goals go_ret
    all_goals
      refine ⟨?_, (Ext.refl w).alloc _⟩
      have hX := HX.out
      clear HX
      rw [hX]
      simp_all
  have f0 : (K == 0) = false := by rw [e0]; simpa using hk0
  by_cases hk1 : k = 1
  · have HX := Lib.hid ((congrArg (fun k => plainB k n s l.length) hk1).trans (plainB_1 n s l.length))
    have f1 : (K == 1) = true := by rw [e1]; simpa using hk1
    clear e0 e1 e2 hk0 hk1
    go_enter Tryd.func89, Tryd.ntmps89
    go_wp2
    all_goals go_ret
    all_goals
      refine ⟨?_, (Ext.refl w).alloc _⟩
      have hX := HX.out
      clear HX
      rw [hX]
      simp_all
  have f1 : (K == 1) = false := by rw [e1]; simpa using hk1
  by_cases hk2 : k = 2
  · have HX := Lib.hid ((congrArg (fun k => plainB k n s l.length) hk2).trans (plainB_2 n s l.length))
    have f2 : (K == 2) = true := by rw [e2]; simpa using hk2
    clear e0 e1 e2 hk0 hk1 hk2
    go_enter Tryd.func89, Tryd.ntmps89
    go_wp2
    all_goals go_ret
    all_goals
      refine ⟨?_, (Ext.refl w).alloc _⟩
      have hX := HX.out
      clear HX
      rw [hX]
      simp_all
  · have HX := Lib.hid (plainB_3 k n s l.length hk0 hk1 hk2)
    have f2 : (K == 2) = false := by rw [e2]; simpa using hk2
    clear e0 e1 e2 hk0 hk1 hk2
    go_enter Tryd.func89, Tryd.ntmps89
    go_wp2
    all_goals go_ret
    all_goals
      refine ⟨?_, (Ext.refl w).alloc _⟩
      rw [HX.out]
      rfl
end Go.Proofs.YtdienbcjfljjnaaDoor

/- Walks: the reference's kinds, Right, Same. -/
open Go.RowKit Go.Shelf
namespace Go.Proofs.YtdienbcjfljjnaaDoor
open Go Go.Proofs Fm

theorem all_take (f : Tr → Bool) (l : List Tr) (k : Nat) (hk : k < l.length) (h : (l.take k).all f = true) (hx : f l[k] = true) : (l.take (k + 1)).all f = true := by
  rw [List.take_add_one, List.getElem?_eq_getElem hk, List.all_append, h]; simp [hx]
theorem all_false (f : Tr → Bool) (l : List Tr) (k : Nat) (hk : k < l.length) (hx : f l[k] = false) : l.all f = false := by
  rw [List.all_eq_false]; exact ⟨l[k], List.getElem_mem hk, by simp [hx]⟩

end Go.Proofs.YtdienbcjfljjnaaDoor

/- Walks: the reference's Same. -/
open Go.RowKit Go.Shelf
namespace Go.Proofs.YtdienbcjfljjnaaDoor
open Go Go.Proofs Fm

theorem str_beq (s t : List UInt8) : ((str s).toList == (str t).toList) = decide (s = t) := by
  rw [str_toList, str_toList, Bool.eq_iff_iff]; simp

end Go.Proofs.YtdienbcjfljjnaaDoor

/- Walks: Same by slices.EqualFunc. -/
open Go.RowKit Go.Shelf
namespace Go.Proofs.YtdienbcjfljjnaaDoor
open Go Go.Proofs Fm

set_option maxRecDepth 100000 in
set_option maxHeartbeats 4000000 in
theorem equalF_any (l l' : List Tr) (ih : ∀ t, t ∈ l → ∀ (u : Tr) (w : World) (v x : Value), Lies w t v → Lies w u x → Calls Tryd.prog 29 #[v, x] w fun e w' => e = .returned (.bool (eqT t u)) ∧ Ext w w')
    (w : World) (v x : Value) (hv : LiesS w l v) (hx : LiesS w l' x) :
    Calls Tryd.prog 64 #[v, x, .func (.func 29) #[] #[]] w fun e w' => ∃ b, e = .returned (.bool b) ∧ (b = true ↔ l = l') ∧ Ext w w' := by
  obtain ⟨a, cap, rfl, h1, h2, h3, C, h4, h5⟩ := hv
  obtain ⟨a', cap', rfl, h1', h2', h3', C', h4', h5'⟩ := hx
  have H4 := Lib.hid h4; have H5 := Lib.hid h5
  have H4' := Lib.hid h4'; have H5' := Lib.hid h5'
  have hll : l.length ≤ 9223372036854775807 := by unfold maxLen at h2; omega
  have hll' : l'.length ≤ 9223372036854775807 := by unfold maxLen at h2'; omega
  clear h3 h4 h5 h3' h4' h5' h1 h2 h1' h2'
  by_cases hl : l.length = l'.length
  · have f3 : ((l.length : Int) != (l'.length : Int)) = false := by rw [hl]; simp
    have HL := Lib.hid hl
    clear hl
    go_enter Tryd.func64, Tryd.ntmps64
    go_wp2_with fail
    clear f3
    go_loopw [17] (fun i wr => ∃ j : Nat, j ≤ l.length ∧ i = .int .i64 j ∧ Hid (l.take j = l'.take j) ∧ Ext w wr) (fun i _ => l.length - (intOf i).toNat)
    case atStart => exact ⟨0, by omega, rfl, by simp [Hid], Ext.refl _⟩
    case round =>
      obtain ⟨j, hj, rfl, HA, hE⟩ := hrel
      by_cases hlt : j < l.length
      · obtain ⟨b, off, rfl, hb, hc⟩ := H4.out (by omega)
        have hlt' : j < l'.length := by have := HL.out; omega
        obtain ⟨b', off', rfl, hb', hc'⟩ := H4'.out (by omega)
        obtain ⟨k0, n0, s0, a0, m0, c0, e0, e1, e2, e3, hx⟩ := elem4 hE hb hc H5.out j hlt
        obtain ⟨k1, n1, s1, a1, m1, c1, g0, g1, g2, g3, hx'⟩ := elem4 hE hb' hc' H5'.out j hlt'
        have hz := Nat.lt_of_lt_of_le hb hE.size
        have hz' := Nat.lt_of_lt_of_le hb' hE.size
        go_wp2_with fail
        refine (ih _ (List.getElem_mem hlt) _ _ _ _ (hx.ext (((Ext.refl wr).alloc _).alloc _)) (hx'.ext (((Ext.refl wr).alloc _).alloc _))).mono ?_
        rintro e w1 ⟨rfl, hE1⟩
        have hE3 := ((hE.alloc _).alloc _).trans hE1
        cases hkx : eqT l[j] l'[j] with
        | true =>
          have HA2 := Lib.hid (take_same hlt hlt' HA.out (eqT_iff.1 hkx))
          clear hE1 e0 e1 e2 e3 hx hb hc HA hkx g0 g1 g2 g3 hx' hb' hc'
          go_wp2
          go_roundw
          case rel => exact ⟨j + 1, by omega, by go_num, HA2, hE3⟩
          case measure => simp [intOf]; omega
        | false =>
          have HA2 := Lib.hid (show ¬ l = l' from fun e => by subst e; rw [eqT_self] at hkx; cases hkx)
          clear hE1 e0 e1 e2 e3 hx hb hc HA hkx g0 g1 g2 g3 hx' hb' hc'
          go_wp2
          go_ret
          exact ⟨false, rfl, by simp [HA2.out], hE3⟩
      · have hj' : j = l.length := by omega
        have HA2 : Hid (l = l') := by have := HA.out; rw [hj', List.take_length, HL.out, List.take_length] at this; exact this
        clear hj'
        go_wp2
        go_ret
        exact ⟨true, rfl, by simp [HA2.out], hE⟩
  · have f3 : ((l.length : Int) != (l'.length : Int)) = true := by rw [bne, Bool.not_eq_true']; simp; omega
    have HX := Lib.hid (show ¬ l = l' from fun e => hl (by rw [e]))
    clear hl H4 H5 H4' H5' ih
    go_enter Tryd.func64, Tryd.ntmps64
    go_wp2
    go_ret
    exact ⟨false, rfl, by simp [HX.out], Ext.refl w⟩

set_option maxRecDepth 100000 in
set_option maxHeartbeats 4000000 in
theorem vsame_any (t : Tr) : ∀ (u : Tr) (w : World) (v x : Value), Lies w t v → Lies w u x →
    Calls Tryd.prog 29 #[v, x] w fun e w' => e = .returned (.bool (eqT t u)) ∧ Ext w w' := by
  induction t using Tr.ind with
  | h k n s l ih =>
  intro u w v x hv hx
  cases hx with
  | node k' n' s' l' a' cap' C' hn' hs' h1' h2' h3' h4' h5' =>
  cases hv with
  | node _ _ _ _ a cap C hn hs h1 h2 h3 h4 h5 =>
  have H4 := Lib.hid h4; have H5 := Lib.hid h5
  have H4' := Lib.hid h4'; have H5' := Lib.hid h5'
  have hll : l.length ≤ 9223372036854775807 := by unfold maxLen at h2; omega
  have hll' : l'.length ≤ 9223372036854775807 := by unfold maxLen at h2'; omega
  have HS : Hid (LiesS w l (.slice a l.length cap)) := Lib.hid ⟨a, cap, rfl, h1, h2, h3, C, h4, h5⟩
  have HS' : Hid (LiesS w l' (.slice a' l'.length cap')) := Lib.hid ⟨a', cap', rfl, h1', h2', h3', C', h4', h5'⟩
  have ek : ((k.toNat : Int) == (k'.toNat : Int)) = decide (k = k') := by rw [u8_eq]
  have es : ((str s).toList == (str s').toList) = decide (s = s') := str_beq s s'
  clear h3 h4 h5 hn h3' h4' h5' hn' h1 h2 h1' h2'
  generalize hK : (k.toNat : Int) = K at *
  generalize hK' : (k'.toNat : Int) = K' at *
  clear hK hK'
  by_cases hk : k = k'
  · have f0 : (K == K') = true := by rw [ek]; simpa using hk
    by_cases hn : n = n'
    · have f1 : (n == n') = true := by simpa using hn
      by_cases hs : s = s'
      · have f2 : ((str s).toList == (str s').toList) = true := by rw [es]; simpa using hs
        have HX : Hid ((l = l' → eqT (.node k n s l) (.node k' n' s' l') = true) ∧ (l ≠ l' → eqT (.node k n s l) (.node k' n' s' l') = false)) :=
            Lib.hid ⟨fun e => eqT_iff.2 (by rw [hk, hn, hs, e]), fun e => eqT_ne fun h => e (by injection h)⟩
        clear ek es hk hn hs H4 H5 H4' H5'
        go_enter Tryd.func29, Tryd.ntmps29
        go_wp2_with fail
        refine (equalF_any l l' ih _ _ _ (LiesS.ext (((Ext.refl w).alloc _).alloc _) HS.out) (LiesS.ext (((Ext.refl w).alloc _).alloc _) HS'.out)).mono ?_
        rintro e w1 ⟨b, rfl, hb, hE1⟩
        have hE2 := (((Ext.refl w).alloc _).alloc _).trans hE1
        have HX2 : Hid (eqT (.node k n s l) (.node k' n' s' l') = b) := Lib.hid (by
          cases b with
          | true => exact HX.out.1 (hb.1 rfl)
          | false => exact HX.out.2 (fun e => by have := hb.2 e; cases this))
        clear hE1 HX hb
        go_wp2
        go_ret
        exact ⟨by rw [HX2.out]; rfl, hE2⟩
      · have HX := Lib.hid (eqT_ne (t := .node k n s l) (u := .node k' n' s' l') (fun e => hs (by injection e)))
        have f2 : ((str s).toList == (str s').toList) = false := by rw [es]; simpa using hs
        clear ek es hk hn hs H4 H5 H4' H5' ih
        go_enter Tryd.func29, Tryd.ntmps29
        go_wp2
        go_ret
        exact ⟨by rw [HX.out]; rfl, ((Ext.refl w).alloc _).alloc _⟩
    · have HX := Lib.hid (eqT_ne (t := .node k n s l) (u := .node k' n' s' l') (fun e => hn (by injection e)))
      have f1 : (n == n') = false := by simpa using hn
      clear ek es hk hn H4 H5 H4' H5' ih
      go_enter Tryd.func29, Tryd.ntmps29
      go_wp2
      go_ret
      exact ⟨by rw [HX.out]; rfl, ((Ext.refl w).alloc _).alloc _⟩
  · have HX := Lib.hid (eqT_ne (t := .node k n s l) (u := .node k' n' s' l') (fun e => hk (by injection e)))
    have f0 : (K == K') = false := by rw [ek]; simpa using hk
    clear ek es hk H4 H5 H4' H5' ih
    go_enter Tryd.func29, Tryd.ntmps29
    go_wp2
    go_ret
    exact ⟨by rw [HX.out]; rfl, ((Ext.refl w).alloc _).alloc _⟩
end Go.Proofs.YtdienbcjfljjnaaDoor

/- Walks: Put. -/
open Go.RowKit Go.Shelf
namespace Go.Proofs.YtdienbcjfljjnaaDoor
open Go Go.Proofs Fm

theorem i64_nat (n : Nat) (h : n ≤ 9223372036854775807) : isI64 (n : Int) := by unfold isI64; omega

set_option maxRecDepth 100000 in
set_option maxHeartbeats 4000000 in
theorem put_any (t : Tr) : ∀ (w : World) (b v : Value) (xs : List UInt8), Bytes w b xs → Lies w t v → xs.length + (bytesT t).length ≤ 1000000000 →
    Calls Tryd.prog 53 #[b, v] w (RetBytes w (xs ++ bytesT t)) := by
  induction t using Tr.ind with
  | h k n s l ih =>
  intro w b v xs hb hv hsz
  obtain ⟨d, rfl, hn, hs, hl⟩ := hv.parts
  have ⟨a, cap, hd, h1, h2, h3, C, h4, h5⟩ := hl
  subst hd
  have H4 := Lib.hid h4; have H5 := Lib.hid h5
  have hll : l.length ≤ 9223372036854775807 := by unfold maxLen at h2; omega
  have hk255 := k.toNat_lt
  have e0 := u8_eq k 0
  have e1 := u8_eq k 1
  rw [show ((0 : UInt8).toNat : Int) = 0 from rfl] at e0
  rw [show ((1 : UInt8).toNat : Int) = 1 from rfl] at e1
  have HK := Lib.hid (i64_nat k.toNat (by omega))
  have HN := Lib.hid hn
  have HT := Lib.hid (bytesT_node k n s l)
  have HZ := Lib.hid hsz
  have hK0 : (0 : Int) ≤ (k.toNat : Int) := by omega
  have hK255 : (k.toNat : Int) ≤ 255 := by omega
  have hxs : xs.length ≤ 1000000000 := by omega
  clear h1 h2 h3 h4 h5 hl hn hv hsz
  have hE0 := (Ext.refl w).alloc (.cells #[.int .u8 (k.toNat : Int), .int .i64 n, .string (str s), .slice a l.length cap] 45)
  obtain ⟨m0, m1, m2, m3, hsz⟩ := alloc4 w (.int .u8 (k.toNat : Int)) (.int .i64 n) (.string (str s)) (.slice a l.length cap) 45
  generalize (k.toNat : Int) = K at *
  go_enter Tryd.func53, Tryd.ntmps53
  go_wp2_with fail
  generalize w.alloc (.cells #[.int .u8 K, .int .i64 n, .string (str s), .slice a l.length cap] 45) = W1 at *
  refine (num_any _ xs W1 (hb.ext hE0) (by omega) K HK.out).mono ?_
  rintro e w1 ⟨vo, rfl, ro⟩
  have hE1 := hE0.trans ro.2
  have o1 := ro.own.mono hE0.size
  have q0 := (ro.2.cell (p := ⟨w.heap.size, 0, none⟩) hsz).trans m0
  have q1 := (ro.2.cell (p := ⟨w.heap.size, 1, none⟩) hsz).trans m1
  have q2 := (ro.2.cell (p := ⟨w.heap.size, 2, none⟩) hsz).trans m2
  have q3 := (ro.2.cell (p := ⟨w.heap.size, 3, none⟩) hsz).trans m3
  have hz1 := Nat.lt_of_lt_of_le hsz ro.2.size
  have hnk := numB_le K
  clear ro hE0 m0 m1 m2 m3 hsz hb
  by_cases hk0 : k = 0
  · have f0 : (K == 0) = true := by rw [e0]; simpa using hk0
    have HX : Hid (bytesT (.node k n s l) = numB K ++ numB n) := Lib.hid (by rw [HT.out, if_pos hk0])
    clear e0 e1 hk0
    go_wp2_with fail
    refine (num_any _ _ w1 o1.bytes (by simp; omega) n HN.out).mono ?_
    rintro e w2 ⟨v2, rfl, r2⟩
    have hE2 := hE1.trans r2.2
    have o2 := r2.own.mono hE1.size
    have hR : RetBytes w (xs ++ bytesT (.node k n s l)) (.returned v2) w2 := ⟨v2, rfl, by rw [HX.out, ← List.append_assoc]; exact ⟨o2, hE2⟩⟩
    clear r2 o1 o2 q0 q1 q2 q3
    go_wp2
    go_ret
    exact hR
  have f0 : (K == 0) = false := by rw [e0]; simpa using hk0
  by_cases hk1 : k = 1
  · have f1 : (K == 1) = true := by rw [e1]; simpa using hk1
    have HX : Hid (bytesT (.node k n s l) = numB K ++ textB s) := Lib.hid (by rw [HT.out, if_neg hk0, if_pos hk1])
    have hsl : s.length ≤ 1000000000 := by have := HZ.out; rw [HX.out, List.length_append, textB, List.length_append] at this; omega
    clear e0 e1 hk0 hk1
    go_wp2_with fail
    refine (text_any _ _ s w1 o1.bytes (by simp; omega) (by omega)).mono ?_
    rintro e w2 ⟨v2, rfl, r2⟩
    have hE2 := hE1.trans r2.2
    have o2 := r2.own.mono hE1.size
    have hR : RetBytes w (xs ++ bytesT (.node k n s l)) (.returned v2) w2 := ⟨v2, rfl, by rw [HX.out, ← List.append_assoc]; exact ⟨o2, hE2⟩⟩
    clear r2 o1 o2 q0 q1 q2 q3
    go_wp2
    go_ret
    exact hR
  · have f1 : (K == 1) = false := by rw [e1]; simpa using hk1
    have HX : Hid (bytesT (.node k n s l) = numB K ++ (numB l.length ++ bytesL l)) := Lib.hid (by rw [HT.out, if_neg hk0, if_neg hk1])
    have hbl : xs.length + (numB K).length + (numB l.length).length + (bytesL l).length ≤ 1000000000 := by have := HZ.out; rw [HX.out, List.length_append, List.length_append] at this; omega
    have HLN := Lib.hid (i64_nat l.length hll)
    clear e0 e1 hk0 hk1
    go_wp2_with fail
    refine (num_any _ _ w1 o1.bytes (by simp; omega) (l.length : Int) HLN.out).mono ?_
    rintro e w2 ⟨v2, rfl, r2⟩
    have hE2 := hE1.trans r2.2
    have o2 := r2.own.mono hE1.size
    have q3' := (r2.2.cell (p := ⟨w.heap.size, 3, none⟩) hz1).trans q3
    clear r2 o1 q0 q1 q2 q3 hE1
    go_wp2_with fail
    go_loopw [5, 35] (fun o i wr => ∃ j : Nat, j ≤ l.length ∧ i = .int .i64 j ∧ Hid (OwnB w.heap.size wr o (xs ++ numB K ++ numB l.length ++ bytesL (l.take j))) ∧ Ext w wr) (fun _ i _ => l.length - (intOf i).toNat)
    case atStart => exact ⟨0, by omega, rfl, Lib.hid (by rw [List.take_zero, bytesL_nil, List.append_nil]; exact o2), hE2⟩
    case round =>
      obtain ⟨j, hj, rfl, HO, hE⟩ := hrel
      clear o2 q3' hE2
      by_cases hlt : j < l.length
      · obtain ⟨b', off, rfl, hb, hc⟩ := H4.out (by omega)
        obtain ⟨k0, n0, s0, a0, m0, c0, e0, e1, e2, e3, hx⟩ := elem4 hE hb hc H5.out j hlt
        have hat := bytesL_at l j hlt
        have hle := bytesL_take_le l (j + 1)
        have hlen : (bytesL (l.take (j + 1))).length = (bytesL (l.take j)).length + (bytesT l[j]).length := by rw [hat, List.length_append]
        go_wp2_with fail
        refine (ih _ (List.getElem_mem hlt) _ _ _ _ (HO.out.bytes.ext ((Ext.refl wr).alloc _)) (hx.ext ((Ext.refl wr).alloc _)) (by simp only [List.length_append]; omega)).mono ?_
        rintro e w3 ⟨v3, rfl, r3⟩
        have hE3 := (hE.alloc _).trans r3.2
        have HO2 : Hid (OwnB w.heap.size w3 v3 (xs ++ numB K ++ numB l.length ++ bytesL (l.take (j + 1)))) := Lib.hid (by
          rw [hat, ← List.append_assoc]
          exact r3.own.mono (hE.alloc _).size)
        clear r3 e0 e1 e2 e3 hx hb hc hat hle hlen HO
        go_wp2
        go_roundw
        case rel => exact ⟨j + 1, by omega, by go_num, HO2, hE3⟩
        case measure => simp [intOf]; omega
      · have hj' : j = l.length := by omega
        have hR : ∃ vr, vr = u5 ∧ RetBytes w (xs ++ bytesT (.node k n s l)) (.returned vr) wr := ⟨u5, rfl, u5, rfl, by
          have h := HO.out
          rw [hj', List.take_length] at h
          rw [HX.out, ← List.append_assoc, ← List.append_assoc]
          exact ⟨h, hE⟩⟩
        obtain ⟨vr, rfl, hR⟩ := hR
        clear HO hj'
        go_wp2
        go_ret
        exact hR
end Go.Proofs.YtdienbcjfljjnaaDoor
