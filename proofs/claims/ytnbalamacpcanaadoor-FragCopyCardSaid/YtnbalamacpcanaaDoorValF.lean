/- Walks: Same by slices.EqualFunc. -/
import Derived.Test.YtnbalamacpcanaaDoorValE
open Go.RowKit Go.Shelf
namespace Go.Proofs.YtnbalamacpcanaaDoor
open Go Go.Proofs Fm

set_option maxRecDepth 100000 in
set_option maxHeartbeats 4000000 in
theorem equalF_any (l l' : List Tr) (ih : ∀ t, t ∈ l → ∀ (u : Tr) (w : World) (v x : Value), Lies w t v → Lies w u x → Calls Tryd.prog 22 #[v, x] w fun e w' => e = .returned (.bool (eqT t u)) ∧ Ext w w')
    (w : World) (v x : Value) (hv : LiesS w l v) (hx : LiesS w l' x) :
    Calls Tryd.prog 68 #[v, x, .func (.func 22) #[] #[]] w fun e w' => ∃ b, e = .returned (.bool b) ∧ (b = true ↔ l = l') ∧ Ext w w' := by
  obtain ⟨a, cap, rfl, h1, h2, h3, C, h4, h5⟩ := hv
  obtain ⟨a', cap', rfl, h1', h2', h3', C', h4', h5'⟩ := hx
  have H4 := Lib.hid h4; have H5 := Lib.hid h5
  have H4' := Lib.hid h4'; have H5' := Lib.hid h5'
  have hll : l.length ≤ 9223372036854775807 := by unfold maxLen at h2; omega
  have hll' : l'.length ≤ 9223372036854775807 := by unfold maxLen at h2'; omega
  clear h3 h4 h5 h3' h4' h5' h1 h2 h1' h2'
  by_cases hl : l.length = l'.length
  · have f3 : ((l.length : Int) != (l'.length : Int)) = false := by rw [hl]; simp
    have HL := Lib.hid hl
    clear hl
    go_enter Tryd.func68, Tryd.ntmps68
    go_wp2_with fail
    clear f3
    go_loopw [17] (fun i wr => ∃ j : Nat, j ≤ l.length ∧ i = .int .i64 j ∧ Hid (l.take j = l'.take j) ∧ Ext w wr) (fun i _ => l.length - (intOf i).toNat)
    case atStart => exact ⟨0, by omega, rfl, by simp [Hid], Ext.refl _⟩
    case round =>
      obtain ⟨j, hj, rfl, HA, hE⟩ := hrel
      by_cases hlt : j < l.length
      · obtain ⟨b, off, rfl, hb, hc⟩ := H4.out (by omega)
        have hlt' : j < l'.length := by have := HL.out; omega
        obtain ⟨b', off', rfl, hb', hc'⟩ := H4'.out (by omega)
        obtain ⟨k0, n0, s0, a0, m0, c0, e0, e1, e2, e3, hx⟩ := elem4 hE hb hc H5.out j hlt
        obtain ⟨k1, n1, s1, a1, m1, c1, g0, g1, g2, g3, hx'⟩ := elem4 hE hb' hc' H5'.out j hlt'
        have hz := Nat.lt_of_lt_of_le hb hE.size
        have hz' := Nat.lt_of_lt_of_le hb' hE.size
        go_wp2_with fail
        refine (ih _ (List.getElem_mem hlt) _ _ _ _ (hx.ext (((Ext.refl wr).alloc _).alloc _)) (hx'.ext (((Ext.refl wr).alloc _).alloc _))).mono ?_
        rintro e w1 ⟨rfl, hE1⟩
        have hE3 := ((hE.alloc _).alloc _).trans hE1
        cases hkx : eqT l[j] l'[j] with
        | true =>
          have HA2 := Lib.hid (take_same hlt hlt' HA.out (eqT_iff.1 hkx))
          clear hE1 e0 e1 e2 e3 hx hb hc HA hkx g0 g1 g2 g3 hx' hb' hc'
          go_wp2
          go_roundw
          case rel => exact ⟨j + 1, by omega, by go_num, HA2, hE3⟩
          case measure => simp [intOf]; omega
        | false =>
          have HA2 := Lib.hid (show ¬ l = l' from fun e => by subst e; rw [eqT_self] at hkx; cases hkx)
          clear hE1 e0 e1 e2 e3 hx hb hc HA hkx g0 g1 g2 g3 hx' hb' hc'
          go_wp2
          go_ret
          exact ⟨false, rfl, by simp [HA2.out], hE3⟩
      · have hj' : j = l.length := by omega
        have HA2 : Hid (l = l') := by have := HA.out; rw [hj', List.take_length, HL.out, List.take_length] at this; exact this
        clear hj'
        go_wp2
        go_ret
        exact ⟨true, rfl, by simp [HA2.out], hE⟩
  · have f3 : ((l.length : Int) != (l'.length : Int)) = true := by rw [bne, Bool.not_eq_true']; simp; omega
    have HX := Lib.hid (show ¬ l = l' from fun e => hl (by rw [e]))
    clear hl H4 H5 H4' H5' ih
    go_enter Tryd.func68, Tryd.ntmps68
    go_wp2
    go_ret
    exact ⟨false, rfl, by simp [HX.out], Ext.refl w⟩

set_option maxRecDepth 100000 in
set_option maxHeartbeats 4000000 in
theorem vsame_any (t : Tr) : ∀ (u : Tr) (w : World) (v x : Value), Lies w t v → Lies w u x →
    Calls Tryd.prog 22 #[v, x] w fun e w' => e = .returned (.bool (eqT t u)) ∧ Ext w w' := by
  induction t using Tr.ind with
  | h k n s l ih =>
  intro u w v x hv hx
  cases hx with
  | node k' n' s' l' a' cap' C' hn' hs' h1' h2' h3' h4' h5' =>
  cases hv with
  | node _ _ _ _ a cap C hn hs h1 h2 h3 h4 h5 =>
  have H4 := Lib.hid h4; have H5 := Lib.hid h5
  have H4' := Lib.hid h4'; have H5' := Lib.hid h5'
  have hll : l.length ≤ 9223372036854775807 := by unfold maxLen at h2; omega
  have hll' : l'.length ≤ 9223372036854775807 := by unfold maxLen at h2'; omega
  have HS : Hid (LiesS w l (.slice a l.length cap)) := Lib.hid ⟨a, cap, rfl, h1, h2, h3, C, h4, h5⟩
  have HS' : Hid (LiesS w l' (.slice a' l'.length cap')) := Lib.hid ⟨a', cap', rfl, h1', h2', h3', C', h4', h5'⟩
  have ek : ((k.toNat : Int) == (k'.toNat : Int)) = decide (k = k') := by rw [u8_eq]
  have es : ((str s).toList == (str s').toList) = decide (s = s') := str_beq s s'
  clear h3 h4 h5 hn h3' h4' h5' hn' h1 h2 h1' h2'
  generalize hK : (k.toNat : Int) = K at *
  generalize hK' : (k'.toNat : Int) = K' at *
  clear hK hK'
  by_cases hk : k = k'
  · have f0 : (K == K') = true := by rw [ek]; simpa using hk
    by_cases hn : n = n'
    · have f1 : (n == n') = true := by simpa using hn
      by_cases hs : s = s'
      · have f2 : ((str s).toList == (str s').toList) = true := by rw [es]; simpa using hs
        have HX : Hid ((l = l' → eqT (.node k n s l) (.node k' n' s' l') = true) ∧ (l ≠ l' → eqT (.node k n s l) (.node k' n' s' l') = false)) :=
            Lib.hid ⟨fun e => eqT_iff.2 (by rw [hk, hn, hs, e]), fun e => eqT_ne fun h => e (by injection h)⟩
        clear ek es hk hn hs H4 H5 H4' H5'
        go_enter Tryd.func22, Tryd.ntmps22
        go_wp2_with fail
        refine (equalF_any l l' ih _ _ _ (LiesS.ext (((Ext.refl w).alloc _).alloc _) HS.out) (LiesS.ext (((Ext.refl w).alloc _).alloc _) HS'.out)).mono ?_
        rintro e w1 ⟨b, rfl, hb, hE1⟩
        have hE2 := (((Ext.refl w).alloc _).alloc _).trans hE1
        have HX2 : Hid (eqT (.node k n s l) (.node k' n' s' l') = b) := Lib.hid (by
          cases b with
          | true => exact HX.out.1 (hb.1 rfl)
          | false => exact HX.out.2 (fun e => by have := hb.2 e; cases this))
        clear hE1 HX hb
        go_wp2
        go_ret
        exact ⟨by rw [HX2.out]; rfl, hE2⟩
      · have HX := Lib.hid (eqT_ne (t := .node k n s l) (u := .node k' n' s' l') (fun e => hs (by injection e)))
        have f2 : ((str s).toList == (str s').toList) = false := by rw [es]; simpa using hs
        clear ek es hk hn hs H4 H5 H4' H5' ih
        go_enter Tryd.func22, Tryd.ntmps22
        go_wp2
        go_ret
        exact ⟨by rw [HX.out]; rfl, ((Ext.refl w).alloc _).alloc _⟩
    · have HX := Lib.hid (eqT_ne (t := .node k n s l) (u := .node k' n' s' l') (fun e => hn (by injection e)))
      have f1 : (n == n') = false := by simpa using hn
      clear ek es hk hn H4 H5 H4' H5' ih
      go_enter Tryd.func22, Tryd.ntmps22
      go_wp2
      go_ret
      exact ⟨by rw [HX.out]; rfl, ((Ext.refl w).alloc _).alloc _⟩
  · have HX := Lib.hid (eqT_ne (t := .node k n s l) (u := .node k' n' s' l') (fun e => hk (by injection e)))
    have f0 : (K == K') = false := by rw [ek]; simpa using hk
    clear ek es hk H4 H5 H4' H5' ih
    go_enter Tryd.func22, Tryd.ntmps22
    go_wp2
    go_ret
    exact ⟨by rw [HX.out]; rfl, ((Ext.refl w).alloc _).alloc _⟩
end Go.Proofs.YtnbalamacpcanaaDoor
