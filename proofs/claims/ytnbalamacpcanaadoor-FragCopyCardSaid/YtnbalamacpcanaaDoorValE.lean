/- Walks: the reference's Same. -/
import Derived.Test.YtnbalamacpcanaaDoorValD
import Derived.StillTailTactics
open Go.RowKit Go.Shelf
namespace Go.Proofs.YtnbalamacpcanaaDoor
open Go Go.Proofs Fm

theorem str_beq (s t : List UInt8) : ((str s).toList == (str t).toList) = decide (s = t) := by
  rw [str_toList, str_toList, Bool.eq_iff_iff]; simp

set_option maxRecDepth 100000 in
set_option maxHeartbeats 4000000 in
theorem rsame_any (t : Tr) : ∀ (u : Tr) (w : World) (v x : Value), Lies w t v → Lies w u x →
    Calls Tryd.prog 23 #[v, x] w fun e w' => e = .returned (.bool (eqT t u)) ∧ Ext w w' := by
  induction t using Tr.ind with
  | h k n s l ih =>
  intro u w v x hv hx
  cases hx with
  | node k' n' s' l' a' cap' C' hn' hs' h1' h2' h3' h4' h5' =>
  cases hv with
  | node _ _ _ _ a cap C hn hs h1 h2 h3 h4 h5 =>
  have H4 := Lib.hid h4; have H5 := Lib.hid h5
  have H4' := Lib.hid h4'; have H5' := Lib.hid h5'
  have hll : l.length ≤ 9223372036854775807 := by unfold maxLen at h2; omega
  have hll' : l'.length ≤ 9223372036854775807 := by unfold maxLen at h2'; omega
  have ek : ((k.toNat : Int) != (k'.toNat : Int)) = !decide (k = k') := by rw [bne, u8_eq]
  have es : ((str s).toList == (str s').toList) = decide (s = s') := str_beq s s'
  clear h3 h4 h5 hn h3' h4' h5' hn' h1 h2 h1' h2'
  generalize hK : (k.toNat : Int) = K at *
  generalize hK' : (k'.toNat : Int) = K' at *
  clear hK hK'
  by_cases hk : k = k'
  · have f0 : (K != K') = false := by rw [ek]; simpa using hk
    by_cases hn : n = n'
    · have f1 : (n != n') = false := by simpa using hn
      by_cases hs : s = s'
      · have f2 : ((str s).toList == (str s').toList) = true := by rw [es]; simpa using hs
        by_cases hl : l.length = l'.length
        · have f3 : ((l.length : Int) != (l'.length : Int)) = false := by rw [hl]; simp
          have HX : Hid ((l = l' → eqT (.node k n s l) (.node k' n' s' l') = true) ∧ (l ≠ l' → eqT (.node k n s l) (.node k' n' s' l') = false)) :=
            Lib.hid ⟨fun e => eqT_iff.2 (by rw [hk, hn, hs, e]), fun e => eqT_ne fun h => e (by injection h)⟩
          have HL := Lib.hid hl
          clear ek es hk hn hs hl
          go_enter Tryd.func23, Tryd.ntmps23
          go_wp2_with fail
          obtain ⟨-, -, -, m3, hsz⟩ := alloc4 w (.int .u8 K) (.int .i64 n) (.string (str s)) (.slice a l.length cap) 24
          have hE0 := (Ext.refl w).alloc (.cells #[.int .u8 K, .int .i64 n, .string (str s), .slice a l.length cap] 24)
          have hs1 : (w.alloc (.cells #[.int .u8 K, .int .i64 n, .string (str s), .slice a l.length cap] 24)).heap.size = w.heap.size + 1 := by simp
          generalize w.alloc (.cells #[.int .u8 K, .int .i64 n, .string (str s), .slice a l.length cap] 24) = W1 at *
          obtain ⟨-, -, -, m3', hsz'⟩ := alloc4 W1 (.int .u8 K') (.int .i64 n') (.string (str s')) (.slice a' l'.length cap') 24
          have hE1 := (Ext.refl W1).alloc (.cells #[.int .u8 K', .int .i64 n', .string (str s'), .slice a' l'.length cap'] 24)
          generalize W1.alloc (.cells #[.int .u8 K', .int .i64 n', .string (str s'), .slice a' l'.length cap'] 24) = W2 at *
          have m3 := (hE1.cell (p := ⟨w.heap.size, 3, none⟩) hsz).trans m3
          have hE2 := hE0.trans hE1
          have hsz2 : w.heap.size < W2.heap.size := Nat.lt_of_lt_of_le hsz hE1.size
          rw [hs1] at m3' hsz'
          clear hE0 hE1 hsz hs1 f0 f1 f2 f3
          go_loopw [5] (fun i wr => ∃ j : Nat, j ≤ l.length ∧ i = .int .i64 j ∧ Hid (l.take j = l'.take j) ∧ Ext W2 wr) (fun i _ => l.length - (intOf i).toNat)
          case atStart => exact ⟨0, by omega, rfl, by simp [Hid], Ext.refl _⟩
          case round =>
            obtain ⟨j, hj, rfl, HA, hE'⟩ := hrel
            have hE := hE2.trans hE'
            have q3 := (hE'.cell (p := ⟨w.heap.size, 3, none⟩) hsz2).trans m3
            have q3' := (hE'.cell (p := ⟨w.heap.size + 1, 3, none⟩) hsz').trans m3'
            by_cases hlt : j < l.length
            · obtain ⟨b, off, rfl, hb, hc⟩ := H4.out (by omega)
              have hlt' : j < l'.length := by have := HL.out; omega
              obtain ⟨b', off', rfl, hb', hc'⟩ := H4'.out (by omega)
              obtain ⟨k0, n0, s0, a0, m0, c0, e0, e1, e2, e3, hx⟩ := elem4 hE hb hc H5.out j hlt
              obtain ⟨k1, n1, s1, a1, m1, c1, g0, g1, g2, g3, hx'⟩ := elem4 hE hb' hc' H5'.out j hlt'
              go_wp2_with fail
              go_still_tail 10, (by kernel_rfl)
              change wpList _ _ _ _ _ wr.drew
              have hx := hx.ext ((Ext.refl wr).drew)
              have hx' := hx'.ext ((Ext.refl wr).drew)
              have hE := hE.drew
              have hE' := hE'.drew
              generalize wr.drew = wd at *
              go_wp2_with fail
              refine (ih _ (List.getElem_mem hlt) _ _ _ _ hx hx').mono ?_
              rintro e w1 ⟨rfl, hE1⟩
              have hE3 := hE'.trans hE1
              have hE4 := hE.trans hE1
              cases hkx : eqT l[j] l'[j] with
              | true =>
                have HA2 := Lib.hid (take_same hlt hlt' HA.out (eqT_iff.1 hkx))
                clear hE1 e0 e1 e2 e3 hx hb hc HA hkx g0 g1 g2 g3 hx' hb' hc'
                go_wp2
                go_roundw
                case rel => exact ⟨j + 1, by omega, by go_num, HA2, hE3⟩
                case measure => simp [intOf]; omega
              | false =>
                have HA2 := Lib.hid (HX.out.2 (fun e => by subst e; rw [eqT_self] at hkx; cases hkx))
                clear hE1 e0 e1 e2 e3 hx hb hc HA hkx g0 g1 g2 g3 hx' hb' hc'
                go_wp2
                go_ret
                exact ⟨by rw [HA2.out]; rfl, hE4⟩
            · have hj' : j = l.length := by omega
              have HA2 := Lib.hid (HX.out.1 (by have := HA.out; rw [hj', List.take_length, HL.out, List.take_length] at this; exact this))
              clear hj'
              go_wp2
              go_ret
              exact ⟨by rw [HA2.out]; rfl, hE⟩
        · have HX := Lib.hid (eqT_ne (t := .node k n s l) (u := .node k' n' s' l') (fun e => hl (by injection e; congr 1)))
          have f3 : ((l.length : Int) != (l'.length : Int)) = true := by rw [bne, Bool.not_eq_true']; simp; omega
          clear ek es hk hn hs hl H4 H5 H4' H5' ih
          go_enter Tryd.func23, Tryd.ntmps23
          go_wp2
          go_ret
          exact ⟨by rw [HX.out]; rfl, ((Ext.refl w).alloc _).alloc _⟩
      · have HX := Lib.hid (eqT_ne (t := .node k n s l) (u := .node k' n' s' l') (fun e => hs (by injection e)))
        have f2 : ((str s).toList == (str s').toList) = false := by rw [es]; simpa using hs
        clear ek es hk hn hs H4 H5 H4' H5' ih
        go_enter Tryd.func23, Tryd.ntmps23
        go_wp2
        go_ret
        exact ⟨by rw [HX.out]; rfl, ((Ext.refl w).alloc _).alloc _⟩
    · have HX := Lib.hid (eqT_ne (t := .node k n s l) (u := .node k' n' s' l') (fun e => hn (by injection e)))
      have f1 : (n != n') = true := by simpa using hn
      clear ek es hk hn H4 H5 H4' H5' ih
      go_enter Tryd.func23, Tryd.ntmps23
      go_wp2
      go_ret
      exact ⟨by rw [HX.out]; rfl, ((Ext.refl w).alloc _).alloc _⟩
  · have HX := Lib.hid (eqT_ne (t := .node k n s l) (u := .node k' n' s' l') (fun e => hk (by injection e)))
    have f0 : (K != K') = true := by rw [ek]; simpa using hk
    clear ek es hk H4 H5 H4' H5' ih
    go_enter Tryd.func23, Tryd.ntmps23
    go_wp2
    go_ret
    exact ⟨by rw [HX.out]; rfl, ((Ext.refl w).alloc _).alloc _⟩
end Go.Proofs.YtnbalamacpcanaaDoor
