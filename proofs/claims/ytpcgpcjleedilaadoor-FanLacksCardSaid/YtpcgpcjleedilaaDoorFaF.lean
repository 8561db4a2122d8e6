/- Walks of the laws of fan: num, list, values, light. -/
import Derived.Test.YtpcgpcjleedilaaDoorPlS
import Derived.Test.YtpcgpcjleedilaaDoorWireC
import Derived.IntWalk
import Derived.Deep.RegionHeld3
import Derived.StillTailTactics
import Derived.Shelf.Strings.Builder1
import Derived.Shelf.LaysM
import Derived.Shelf.Strconv.Itoa4
import Derived.Test.YtpcgpcjleedilaaDoorProg
import Derived.WalkLawsBesides
import Derived.Deep.RegionWith
import Derived.Deep.RegionLaw
import Derived.Defers
import Derived.Recover
import Derived.Lib.ConvBytes
import Derived.Laws.BitsLemmas
import Derived.Shelf.LaysC
import Derived.Shelf.Strconv.AtoiAll
import Derived.Shelf.Strings.Search3
import Derived.Shelf.Small.Wraps
import Derived.BigQuiet
import Derived.Deep.QuietTactic
open Go.RowKit Go.Shelf
namespace Go.Proofs.YtpcgpcjleedilaaDoor
open Go Go.Proofs Fm

end Go.Proofs.YtpcgpcjleedilaaDoor

/- Walks over a value's tree that only read: the reference's Parts, Deep; Same. -/
open Go.RowKit Go.Shelf
namespace Go.Proofs.YtpcgpcjleedilaaDoor
open Go Go.Proofs Fm

end Go.Proofs.YtpcgpcjleedilaaDoor

/- Walks: plain, the reference's kinds, Right, Same. -/
open Go.RowKit Go.Shelf
namespace Go.Proofs.YtpcgpcjleedilaaDoor
open Go Go.Proofs Fm

theorem str_toList (s : List UInt8) : (str s).toList = s := by rw [Lib.toList_data]; rfl
theorem u8_eq (k c : UInt8) : ((k.toNat : Int) == (c.toNat : Int)) = decide (k = c) := by
  rw [Bool.eq_iff_iff]
  simp only [beq_iff_eq, decide_eq_true_eq]
  exact ⟨fun h => UInt8.toNat_inj.1 (by omega), fun h => by rw [h]⟩
end Go.Proofs.YtpcgpcjleedilaaDoor

/- Walks: the reference's kinds, Right, Same. -/
open Go.RowKit Go.Shelf
namespace Go.Proofs.YtpcgpcjleedilaaDoor
open Go Go.Proofs Fm

end Go.Proofs.YtpcgpcjleedilaaDoor

/- Walks: the reference's Same. -/
open Go.RowKit Go.Shelf
namespace Go.Proofs.YtpcgpcjleedilaaDoor
open Go Go.Proofs Fm

theorem str_beq (s t : List UInt8) : ((str s).toList == (str t).toList) = decide (s = t) := by
  rw [str_toList, str_toList, Bool.eq_iff_iff]; simp

set_option maxRecDepth 100000 in
set_option maxHeartbeats 4000000 in
theorem rsame_any (t : Tr) : ∀ (u : Tr) (w : World) (v x : Value), Lies w t v → Lies w u x →
    Calls Tryd.prog 57 #[v, x] w fun e w' => e = .returned (.bool (eqT t u)) ∧ Ext w w' := by
  induction t using Tr.ind with
  | h k n s l ih =>
  intro u w v x hv hx
  cases hx with
  | node k' n' s' l' a' cap' C' hn' hs' h1' h2' h3' h4' h5' =>
  cases hv with
  | node _ _ _ _ a cap C hn hs h1 h2 h3 h4 h5 =>
  have H4 := Lib.hid h4; have H5 := Lib.hid h5
  have H4' := Lib.hid h4'; have H5' := Lib.hid h5'
  have hll : l.length ≤ 9223372036854775807 := by unfold maxLen at h2; omega
  have hll' : l'.length ≤ 9223372036854775807 := by unfold maxLen at h2'; omega
  have ek : ((k.toNat : Int) != (k'.toNat : Int)) = !decide (k = k') := by rw [bne, u8_eq]
  have es : ((str s).toList == (str s').toList) = decide (s = s') := str_beq s s'
  clear h3 h4 h5 hn h3' h4' h5' hn' h1 h2 h1' h2'
  generalize hK : (k.toNat : Int) = K at *
  generalize hK' : (k'.toNat : Int) = K' at *
  clear hK hK'
  by_cases hk : k = k'
  · have f0 : (K != K') = false := by rw [ek]; simpa using hk
    by_cases hn : n = n'
    · have f1 : (n != n') = false := by simpa using hn
      by_cases hs : s = s'
      · have f2 : ((str s).toList == (str s').toList) = true := by rw [es]; simpa using hs
        by_cases hl : l.length = l'.length
        · have f3 : ((l.length : Int) != (l'.length : Int)) = false := by rw [hl]; simp
          have HX : Hid ((l = l' → eqT (.node k n s l) (.node k' n' s' l') = true) ∧ (l ≠ l' → eqT (.node k n s l) (.node k' n' s' l') = false)) :=
            Lib.hid ⟨fun e => eqT_iff.2 (by rw [hk, hn, hs, e]), fun e => eqT_ne fun h => e (by injection h)⟩
          have HL := Lib.hid hl
          clear ek es hk hn hs hl
          go_enter Tryd.func57, Tryd.ntmps57
          go_wp2_with fail
          obtain ⟨-, -, -, m3, hsz⟩ := alloc4 w (.int .u8 K) (.int .i64 n) (.string (str s)) (.slice a l.length cap) 46
          have hE0 := (Ext.refl w).alloc (.cells #[.int .u8 K, .int .i64 n, .string (str s), .slice a l.length cap] 46)
          have hs1 : (w.alloc (.cells #[.int .u8 K, .int .i64 n, .string (str s), .slice a l.length cap] 46)).heap.size = w.heap.size + 1 := by simp
          generalize w.alloc (.cells #[.int .u8 K, .int .i64 n, .string (str s), .slice a l.length cap] 46) = W1 at *
          obtain ⟨-, -, -, m3', hsz'⟩ := alloc4 W1 (.int .u8 K') (.int .i64 n') (.string (str s')) (.slice a' l'.length cap') 46
          have hE1 := (Ext.refl W1).alloc (.cells #[.int .u8 K', .int .i64 n', .string (str s'), .slice a' l'.length cap'] 46)
          generalize W1.alloc (.cells #[.int .u8 K', .int .i64 n', .string (str s'), .slice a' l'.length cap'] 46) = W2 at *
          have m3 := (hE1.cell (p := ⟨w.heap.size, 3, none⟩) hsz).trans m3
          have hE2 := hE0.trans hE1
          have hsz2 : w.heap.size < W2.heap.size := Nat.lt_of_lt_of_le hsz hE1.size
          rw [hs1] at m3' hsz'
          clear hE0 hE1 hsz hs1 f0 f1 f2 f3
          go_loopw [5] (fun i wr => ∃ j : Nat, j ≤ l.length ∧ i = .int .i64 j ∧ Hid (l.take j = l'.take j) ∧ Ext W2 wr) (fun i _ => l.length - (intOf i).toNat)
          case atStart => exact ⟨0, by omega, rfl, by simp [Hid], Ext.refl _⟩
          case round =>
            obtain ⟨j, hj, rfl, HA, hE'⟩ := hrel
            have hE := hE2.trans hE'
            have q3 := (hE'.cell (p := ⟨w.heap.size, 3, none⟩) hsz2).trans m3
            have q3' := (hE'.cell (p := ⟨w.heap.size + 1, 3, none⟩) hsz').trans m3'
            by_cases hlt : j < l.length
            · obtain ⟨b, off, rfl, hb, hc⟩ := H4.out (by omega)
              have hlt' : j < l'.length := by have := HL.out; omega
              obtain ⟨b', off', rfl, hb', hc'⟩ := H4'.out (by omega)
              obtain ⟨k0, n0, s0, a0, m0, c0, e0, e1, e2, e3, hx⟩ := elem4 hE hb hc H5.out j hlt
              obtain ⟨k1, n1, s1, a1, m1, c1, g0, g1, g2, g3, hx'⟩ := elem4 hE hb' hc' H5'.out j hlt'
              go_wp2_with fail
              go_still_tail 10, (by kernel_rfl)
              change wpList _ _ _ _ _ wr.drew
              have hx := hx.ext ((Ext.refl wr).drew)
              have hx' := hx'.ext ((Ext.refl wr).drew)
              have hE := hE.drew
              have hE' := hE'.drew
              generalize wr.drew = wd at *
              go_wp2_with fail
              refine (ih _ (List.getElem_mem hlt) _ _ _ _ hx hx').mono ?_
              rintro e w1 ⟨rfl, hE1⟩
              have hE3 := hE'.trans hE1
              have hE4 := hE.trans hE1
              cases hkx : eqT l[j] l'[j] with
              | true =>
                have HA2 := Lib.hid (take_same hlt hlt' HA.out (eqT_iff.1 hkx))
                clear hE1 e0 e1 e2 e3 hx hb hc HA hkx g0 g1 g2 g3 hx' hb' hc'
                go_wp2
                go_roundw
                case rel => exact ⟨j + 1, by omega, by go_num, HA2, hE3⟩
                case measure => simp [intOf]; omega
              | false =>
                have HA2 := Lib.hid (HX.out.2 (fun e => by subst e; rw [eqT_self] at hkx; cases hkx))
                clear hE1 e0 e1 e2 e3 hx hb hc HA hkx g0 g1 g2 g3 hx' hb' hc'
                go_wp2
                go_ret
                exact ⟨by rw [HA2.out]; rfl, hE4⟩
            · have hj' : j = l.length := by omega
              have HA2 := Lib.hid (HX.out.1 (by have := HA.out; rw [hj', List.take_length, HL.out, List.take_length] at this; exact this))
              clear hj'
              go_wp2
              go_ret
              exact ⟨by rw [HA2.out]; rfl, hE⟩
        · have HX := Lib.hid (eqT_ne (t := .node k n s l) (u := .node k' n' s' l') (fun e => hl (by injection e; congr 1)))
          have f3 : ((l.length : Int) != (l'.length : Int)) = true := by rw [bne, Bool.not_eq_true']; simp; omega
          clear ek es hk hn hs hl H4 H5 H4' H5' ih
          go_enter Tryd.func57, Tryd.ntmps57
          go_wp2
          go_ret
          exact ⟨by rw [HX.out]; rfl, ((Ext.refl w).alloc _).alloc _⟩
      · have HX := Lib.hid (eqT_ne (t := .node k n s l) (u := .node k' n' s' l') (fun e => hs (by injection e)))
        have f2 : ((str s).toList == (str s').toList) = false := by rw [es]; simpa using hs
        clear ek es hk hn hs H4 H5 H4' H5' ih
        go_enter Tryd.func57, Tryd.ntmps57
        go_wp2
        go_ret
        exact ⟨by rw [HX.out]; rfl, ((Ext.refl w).alloc _).alloc _⟩
    · have HX := Lib.hid (eqT_ne (t := .node k n s l) (u := .node k' n' s' l') (fun e => hn (by injection e)))
      have f1 : (n != n') = true := by simpa using hn
      clear ek es hk hn H4 H5 H4' H5' ih
      go_enter Tryd.func57, Tryd.ntmps57
      go_wp2
      go_ret
      exact ⟨by rw [HX.out]; rfl, ((Ext.refl w).alloc _).alloc _⟩
  · have HX := Lib.hid (eqT_ne (t := .node k n s l) (u := .node k' n' s' l') (fun e => hk (by injection e)))
    have f0 : (K != K') = true := by rw [ek]; simpa using hk
    clear ek es hk H4 H5 H4' H5' ih
    go_enter Tryd.func57, Tryd.ntmps57
    go_wp2
    go_ret
    exact ⟨by rw [HX.out]; rfl, ((Ext.refl w).alloc _).alloc _⟩
end Go.Proofs.YtpcgpcjleedilaaDoor

/- Walks: Same by slices.EqualFunc. -/
open Go.RowKit Go.Shelf
namespace Go.Proofs.YtpcgpcjleedilaaDoor
open Go Go.Proofs Fm

set_option maxRecDepth 100000 in
set_option maxHeartbeats 4000000 in
theorem equalF_any (l l' : List Tr) (ih : ∀ t, t ∈ l → ∀ (u : Tr) (w : World) (v x : Value), Lies w t v → Lies w u x → Calls Tryd.prog 45 #[v, x] w fun e w' => e = .returned (.bool (eqT t u)) ∧ Ext w w')
    (w : World) (v x : Value) (hv : LiesS w l v) (hx : LiesS w l' x) :
    Calls Tryd.prog 60 #[v, x, .func (.func 45) #[] #[]] w fun e w' => ∃ b, e = .returned (.bool b) ∧ (b = true ↔ l = l') ∧ Ext w w' := by
  obtain ⟨a, cap, rfl, h1, h2, h3, C, h4, h5⟩ := hv
  obtain ⟨a', cap', rfl, h1', h2', h3', C', h4', h5'⟩ := hx
  have H4 := Lib.hid h4; have H5 := Lib.hid h5
  have H4' := Lib.hid h4'; have H5' := Lib.hid h5'
  have hll : l.length ≤ 9223372036854775807 := by unfold maxLen at h2; omega
  have hll' : l'.length ≤ 9223372036854775807 := by unfold maxLen at h2'; omega
  clear h3 h4 h5 h3' h4' h5' h1 h2 h1' h2'
  by_cases hl : l.length = l'.length
  · have f3 : ((l.length : Int) != (l'.length : Int)) = false := by rw [hl]; simp
    have HL := Lib.hid hl
    clear hl
    go_enter Tryd.func60, Tryd.ntmps60
    go_wp2_with fail
    clear f3
    go_loopw [17] (fun i wr => ∃ j : Nat, j ≤ l.length ∧ i = .int .i64 j ∧ Hid (l.take j = l'.take j) ∧ Ext w wr) (fun i _ => l.length - (intOf i).toNat)
    case atStart => exact ⟨0, by omega, rfl, by simp [Hid], Ext.refl _⟩
    case round =>
      obtain ⟨j, hj, rfl, HA, hE⟩ := hrel
      by_cases hlt : j < l.length
      · obtain ⟨b, off, rfl, hb, hc⟩ := H4.out (by omega)
        have hlt' : j < l'.length := by have := HL.out; omega
        obtain ⟨b', off', rfl, hb', hc'⟩ := H4'.out (by omega)
        obtain ⟨k0, n0, s0, a0, m0, c0, e0, e1, e2, e3, hx⟩ := elem4 hE hb hc H5.out j hlt
        obtain ⟨k1, n1, s1, a1, m1, c1, g0, g1, g2, g3, hx'⟩ := elem4 hE hb' hc' H5'.out j hlt'
        have hz := Nat.lt_of_lt_of_le hb hE.size
        have hz' := Nat.lt_of_lt_of_le hb' hE.size
        go_wp2_with fail
        refine (ih _ (List.getElem_mem hlt) _ _ _ _ (hx.ext (((Ext.refl wr).alloc _).alloc _)) (hx'.ext (((Ext.refl wr).alloc _).alloc _))).mono ?_
        rintro e w1 ⟨rfl, hE1⟩
        have hE3 := ((hE.alloc _).alloc _).trans hE1
        cases hkx : eqT l[j] l'[j] with
        | true =>
          have HA2 := Lib.hid (take_same hlt hlt' HA.out (eqT_iff.1 hkx))
          clear hE1 e0 e1 e2 e3 hx hb hc HA hkx g0 g1 g2 g3 hx' hb' hc'
          go_wp2
          go_roundw
          case rel => exact ⟨j + 1, by omega, by go_num, HA2, hE3⟩
          case measure => simp [intOf]; omega
        | false =>
          have HA2 := Lib.hid (show ¬ l = l' from fun e => by subst e; rw [eqT_self] at hkx; cases hkx)
          clear hE1 e0 e1 e2 e3 hx hb hc HA hkx g0 g1 g2 g3 hx' hb' hc'
          go_wp2
          go_ret
          exact ⟨false, rfl, by simp [HA2.out], hE3⟩
      · have hj' : j = l.length := by omega
        have HA2 : Hid (l = l') := by have := HA.out; rw [hj', List.take_length, HL.out, List.take_length] at this; exact this
        clear hj'
        go_wp2
        go_ret
        exact ⟨true, rfl, by simp [HA2.out], hE⟩
  · have f3 : ((l.length : Int) != (l'.length : Int)) = true := by rw [bne, Bool.not_eq_true']; simp; omega
    have HX := Lib.hid (show ¬ l = l' from fun e => hl (by rw [e]))
    clear hl H4 H5 H4' H5' ih
    go_enter Tryd.func60, Tryd.ntmps60
    go_wp2
    go_ret
    exact ⟨false, rfl, by simp [HX.out], Ext.refl w⟩

set_option maxRecDepth 100000 in
set_option maxHeartbeats 4000000 in
theorem vsame_any (t : Tr) : ∀ (u : Tr) (w : World) (v x : Value), Lies w t v → Lies w u x →
    Calls Tryd.prog 45 #[v, x] w fun e w' => e = .returned (.bool (eqT t u)) ∧ Ext w w' := by
  induction t using Tr.ind with
  | h k n s l ih =>
  intro u w v x hv hx
  cases hx with
  | node k' n' s' l' a' cap' C' hn' hs' h1' h2' h3' h4' h5' =>
  cases hv with
  | node _ _ _ _ a cap C hn hs h1 h2 h3 h4 h5 =>
  have H4 := Lib.hid h4; have H5 := Lib.hid h5
  have H4' := Lib.hid h4'; have H5' := Lib.hid h5'
  have hll : l.length ≤ 9223372036854775807 := by unfold maxLen at h2; omega
  have hll' : l'.length ≤ 9223372036854775807 := by unfold maxLen at h2'; omega
  have HS : Hid (LiesS w l (.slice a l.length cap)) := Lib.hid ⟨a, cap, rfl, h1, h2, h3, C, h4, h5⟩
  have HS' : Hid (LiesS w l' (.slice a' l'.length cap')) := Lib.hid ⟨a', cap', rfl, h1', h2', h3', C', h4', h5'⟩
  have ek : ((k.toNat : Int) == (k'.toNat : Int)) = decide (k = k') := by rw [u8_eq]
  have es : ((str s).toList == (str s').toList) = decide (s = s') := str_beq s s'
  clear h3 h4 h5 hn h3' h4' h5' hn' h1 h2 h1' h2'
  generalize hK : (k.toNat : Int) = K at *
  generalize hK' : (k'.toNat : Int) = K' at *
  clear hK hK'
  by_cases hk : k = k'
  · have f0 : (K == K') = true := by rw [ek]; simpa using hk
    by_cases hn : n = n'
    · have f1 : (n == n') = true := by simpa using hn
      by_cases hs : s = s'
      · have f2 : ((str s).toList == (str s').toList) = true := by rw [es]; simpa using hs
        have HX : Hid ((l = l' → eqT (.node k n s l) (.node k' n' s' l') = true) ∧ (l ≠ l' → eqT (.node k n s l) (.node k' n' s' l') = false)) :=
            Lib.hid ⟨fun e => eqT_iff.2 (by rw [hk, hn, hs, e]), fun e => eqT_ne fun h => e (by injection h)⟩
        clear ek es hk hn hs H4 H5 H4' H5'
        go_enter Tryd.func45, Tryd.ntmps45
        go_wp2_with fail
        refine (equalF_any l l' ih _ _ _ (LiesS.ext (((Ext.refl w).alloc _).alloc _) HS.out) (LiesS.ext (((Ext.refl w).alloc _).alloc _) HS'.out)).mono ?_
        rintro e w1 ⟨b, rfl, hb, hE1⟩
        have hE2 := (((Ext.refl w).alloc _).alloc _).trans hE1
        have HX2 : Hid (eqT (.node k n s l) (.node k' n' s' l') = b) := Lib.hid (by
          cases b with
          | true => exact HX.out.1 (hb.1 rfl)
          | false => exact HX.out.2 (fun e => by have := hb.2 e; cases this))
        clear hE1 HX hb
        go_wp2
        go_ret
        exact ⟨by rw [HX2.out]; rfl, hE2⟩
      · have HX := Lib.hid (eqT_ne (t := .node k n s l) (u := .node k' n' s' l') (fun e => hs (by injection e)))
        have f2 : ((str s).toList == (str s').toList) = false := by rw [es]; simpa using hs
        clear ek es hk hn hs H4 H5 H4' H5' ih
        go_enter Tryd.func45, Tryd.ntmps45
        go_wp2
        go_ret
        exact ⟨by rw [HX.out]; rfl, ((Ext.refl w).alloc _).alloc _⟩
    · have HX := Lib.hid (eqT_ne (t := .node k n s l) (u := .node k' n' s' l') (fun e => hn (by injection e)))
      have f1 : (n == n') = false := by simpa using hn
      clear ek es hk hn H4 H5 H4' H5' ih
      go_enter Tryd.func45, Tryd.ntmps45
      go_wp2
      go_ret
      exact ⟨by rw [HX.out]; rfl, ((Ext.refl w).alloc _).alloc _⟩
  · have HX := Lib.hid (eqT_ne (t := .node k n s l) (u := .node k' n' s' l') (fun e => hk (by injection e)))
    have f0 : (K == K') = false := by rw [ek]; simpa using hk
    clear ek es hk H4 H5 H4' H5' ih
    go_enter Tryd.func45, Tryd.ntmps45
    go_wp2
    go_ret
    exact ⟨by rw [HX.out]; rfl, ((Ext.refl w).alloc _).alloc _⟩
end Go.Proofs.YtpcgpcjleedilaaDoor

/- Walks: Put. -/
open Go.RowKit Go.Shelf
namespace Go.Proofs.YtpcgpcjleedilaaDoor
open Go Go.Proofs Fm

end Go.Proofs.YtpcgpcjleedilaaDoor

open Go.RowKit Go.Shelf
namespace Go.Proofs.YtpcgpcjleedilaaDoor
open Go Go.Proofs Fm

theorem trim_let (s : List UInt8) (hs : s.length ≤ 9223372036854775807) (w : World) :
    Calls Tryd.prog 52 #[.string (str s), .string { data := #[97, 98, 99, 100, 101, 102, 103, 104, 105, 106, 107, 108, 109, 110, 111, 112, 113, 114, 115, 116, 117, 118, 119, 120, 121, 122, 48, 49, 50, 51, 52, 53, 54, 55, 56, 57, 95] }] w fun e w' => e = .returned (.string (str (Lib.trimS s letL))) ∧ Ext w w' := by
  have h := Tryd.strings_Trim_any (str s) { data := #[97, 98, 99, 100, 101, 102, 103, 104, 105, 106, 107, 108, 109, 110, 111, 112, 113, 114, 115, 116, 117, 118, 119, 120, 121, 122, 48, 49, 50, 51, 52, 53, 54, 55, 56, 57, 95] } w (by rw [str_size]; exact hs) (by decide) (ascii_of_all (by decide +kernel))
  rw [str_list] at h
  exact h

set_option maxHeartbeats 1000000 in
theorem name_any (s : List UInt8) (hs : s.length ≤ 9223372036854775807) (w : World) :
    Calls Tryd.prog 31 #[.string (str s)] w fun e w' => e = .returned (.bool (nameB s)) ∧ Ext w w' := by
  have hss := str_size s
  by_cases h1 : 1 ≤ s.length
  case neg =>
    have HX := Lib.hid (nameB_short h1)
    have h1' : ¬ (1 : Int) ≤ (s.length : Int) := by omega
    go_enter Tryd.func31, Tryd.ntmps31
    go_wp2
    go_ret
    exact ⟨by rw [HX.out]; rfl, Ext.refl w⟩
  have h1' : (1 : Int) ≤ (s.length : Int) := by omega
  by_cases h2 : s.length ≤ 20
  case neg =>
    have HX := Lib.hid (nameB_long h2)
    have h2' : ¬ (s.length : Int) ≤ 20 := by omega
    go_enter Tryd.func31, Tryd.ntmps31
    go_wp2
    go_ret
    exact ⟨by rw [HX.out]; rfl, Ext.refl w⟩
  have h2' : (s.length : Int) ≤ 20 := by omega
  have HX := Lib.hid (nameB_all h1 h2)
  have HN := Lib.hid (trim_nil s)
  go_enter Tryd.func31, Tryd.ntmps31
  go_wp2_with fail
  refine (trim_let s hs w).mono ?_
  rintro e w1 ⟨rfl, hE⟩
  cases ha : s.all letB with
  | true =>
    rw [HN.out.2 ha]
    have HA := Lib.hid ha
    have e1 : (str []).toList = ([] : List UInt8) := str_toList []
    clear ha
    go_wp2
    go_ret
    exact ⟨by rw [HX.out, HA.out]; simp_all, hE⟩
  | false =>
    obtain ⟨T, hT⟩ : ∃ T, T = Lib.trimS s letL := ⟨_, rfl⟩
    have hT0 : T ≠ [] := by rw [hT]; intro h; rw [HN.out.1 h] at ha; cases ha
    rw [← hT]
    have HA := Lib.hid ha
    have e1 : (str T).toList = T := str_toList T
    have e2 : T.isEmpty = false := by cases T with | nil => exact absurd rfl hT0 | cons _ _ => rfl
    clear ha hT
    go_wp2
    go_ret
    exact ⟨by rw [HX.out, HA.out]; simp_all, hE⟩

end Go.Proofs.YtpcgpcjleedilaaDoor

/- Walks: slices.IndexFunc, ContainsFunc at []string and []api.Item. -/
open Go.RowKit Go.Shelf
namespace Go.Proofs.YtpcgpcjleedilaaDoor
open Go Go.Proofs Fm

end Go.Proofs.YtpcgpcjleedilaaDoor

/- Walks of package frag: fits, Right; the reference's item, Right. -/
open Go.RowKit Go.Shelf
namespace Go.Proofs.YtpcgpcjleedilaaDoor
open Go Go.Proofs Fm

end Go.Proofs.YtpcgpcjleedilaaDoor

open Go.RowKit Go.Shelf
namespace Go.Proofs.YtpcgpcjleedilaaDoor
open Go Go.Proofs Fm

set_option maxRecDepth 100000 in
set_option maxHeartbeats 1000000 in
theorem indexSp_inv (l : List Stp) (f : FuncId) (eg : ∀ args w, (callFunc f args).run Tryd.prog w = .ok (.enter f args) w) (caps : Array Value) (q : Nat → Bool) (J : Nat → World → Prop) (w : World) (v : Value) (h : stpE.Row w l v) (hJ : ∀ i w', J i w' → Ext w w') (h0 : J 0 w)
    (hf : ∀ i (hi : i < l.length) w', J i w' → (∀ j, j < i → q j = false) → stpWf l[i] → Calls Tryd.prog f (#[.agg #[.string (str l[i].name), .int .i64 l[i].place]] ++ caps) w' fun e w'' => e = .returned (.bool (q i)) ∧ J (i + 1) w'') :
    Calls Tryd.prog 53 #[v, .func (.func f) #[] caps] w (IdxPost l.length q J) := by
  obtain ⟨a, c, rfl, hlc, hcm⟩ := h.slice
  have HR := Lib.hid h
  have HF := Lib.hid hf
  have HJ := Lib.hid hJ
  have hlm : l.length ≤ 9223372036854775807 := by omega
  clear h hf hJ
  go_enter Tryd.func53, Tryd.ntmps53
  go_wp2_with fail
  go_loopw [8] (fun i wr => ∃ j : Nat, j ≤ l.length ∧ i = .int .i64 j ∧ Hid (J j wr) ∧ Hid (∀ k, k < j → q k = false)) (fun i _ => l.length - (intOf i).toNat)
  case atStart => exact ⟨0, by omega, rfl, Lib.hid h0, Lib.hid (fun k hk => by omega)⟩
  case round =>
    clear h0
    obtain ⟨j, hj, rfl, HJj, HQ⟩ := hrel
    by_cases hlt : j < l.length
    · obtain ⟨b, off, rfl, hb, c0, c1, hs⟩ := stp_at HR.out (HJ.out _ _ HJj.out) j hlt
      have HS := Lib.hid hs
      clear hs
      go_wp2_with fail
      refine (HF.out j hlt wr HJj.out HQ.out HS.out).mono ?_
      rintro e w1 ⟨rfl, hJ1⟩
      have HJ1 := Lib.hid hJ1
      clear hJ1 c0 c1
      cases hq : q j with
      | true =>
        have HX : Hid (IdxPost l.length q J (.returned (.int .i64 (j : Int))) w1) := Lib.hid (.inl ⟨j, hlt, hq, HQ.out, rfl, HJ1.out⟩)
        clear hq
        go_wp2
        go_ret
        exact HX.out
      | false =>
        have HQ1 : Hid (∀ k, k < j + 1 → q k = false) := Lib.hid (fun k hk => by
          by_cases h : k = j
          · rw [h]; exact hq
          · exact HQ.out k (by omega))
        clear hq
        go_wp2
        go_roundw
        case rel => exact ⟨j + 1, by omega, by go_num, HJ1, HQ1⟩
        case measure => simp [intOf]; omega
    · obtain rfl : j = l.length := by omega
      have HX : Hid (IdxPost l.length q J (.returned (.int .i64 (-1))) wr) := Lib.hid (.inr ⟨HQ.out, rfl, HJj.out⟩)
      go_wp2
      go_ret
      exact HX.out
set_option maxRecDepth 100000 in
set_option maxHeartbeats 1000000 in
theorem hasSp_inv (l : List Stp) (f : FuncId) (eg : ∀ args w, (callFunc f args).run Tryd.prog w = .ok (.enter f args) w) (caps : Array Value) (q : Nat → Bool) (J : Nat → World → Prop) (w : World) (v : Value) (h : stpE.Row w l v) (hJ : ∀ i w', J i w' → Ext w w') (h0 : J 0 w)
    (hf : ∀ i (hi : i < l.length) w', J i w' → (∀ j, j < i → q j = false) → stpWf l[i] → Calls Tryd.prog f (#[.agg #[.string (str l[i].name), .int .i64 l[i].place]] ++ caps) w' fun e w'' => e = .returned (.bool (q i)) ∧ J (i + 1) w'') :
    Calls Tryd.prog 33 #[v, .func (.func f) #[] caps] w (HasPost l.length q J) := by
  have hC := indexSp_inv l f eg caps q J w v h hJ h0 hf
  obtain ⟨a, c, rfl, hlc, hcm⟩ := h.slice
  have HC := Lib.hid hC
  clear h hf hJ hC h0
  go_enter Tryd.func33, Tryd.ntmps33
  go_wp2_with fail
  refine HC.out.mono ?_
  rintro e w1 (⟨i, hi, h1, h2, rfl, h3⟩ | ⟨h1, rfl, h3⟩)
  · have HX : Hid (HasPost l.length q J (.returned (.bool true)) w1) := Lib.hid (.inl ⟨i, hi, h1, h2, rfl, h3⟩)
    clear h1 h2 h3
    have h0 : (0 : Int) ≤ (i : Int) := by omega
    go_wp2
    go_ret
    exact HX.out
  · have HX : Hid (HasPost l.length q J (.returned (.bool false)) w1) := Lib.hid (.inr ⟨h1, rfl, h3⟩)
    clear h1 h3
    go_wp2
    go_ret
    exact HX.out
/-- Where the world only grows. -/
theorem hasSp_any (l : List Stp) (f : FuncId) (eg : ∀ args w, (callFunc f args).run Tryd.prog w = .ok (.enter f args) w) (caps : Array Value) (q : Nat → Bool) (w : World) (v : Value) (h : stpE.Row w l v)
    (hf : ∀ i (hi : i < l.length) w', Ext w w' → stpWf l[i] → Calls Tryd.prog f (#[.agg #[.string (str l[i].name), .int .i64 l[i].place]] ++ caps) w' fun e w'' => e = .returned (.bool (q i)) ∧ Ext w' w'') :
    Calls Tryd.prog 33 #[v, .func (.func f) #[] caps] w fun e w' => ∃ b, e = .returned (.bool b) ∧ (b = true ↔ ∃ i, i < l.length ∧ q i = true) ∧ Ext w w' := by
  refine (hasSp_inv l f eg caps q (fun _ => Ext w) w v h (fun _ _ h => h) (Ext.refl w) (fun i hi w' hE _ hs => (hf i hi w' hE hs).mono fun e w'' ⟨a, b⟩ => ⟨a, hE.trans b⟩)).mono ?_
  rintro e w' (⟨i, hi, h1, h2, rfl, hE⟩ | ⟨h1, rfl, hE⟩)
  · exact ⟨true, rfl, ⟨fun _ => ⟨i, hi, h1⟩, fun _ => rfl⟩, hE⟩
  · exact ⟨false, rfl, ⟨(fun h => by cases h), (fun ⟨i, hi, h⟩ => by rw [h1 i hi] at h; cases h)⟩, hE⟩
end Go.Proofs.YtpcgpcjleedilaaDoor

open Go.RowKit Go.Shelf
namespace Go.Proofs.YtpcgpcjleedilaaDoor
open Go Go.Proofs Fm

theorem idMay_any (n : Int) (w : World) : Calls Tryd.prog 32 #[.int .i64 n] w fun e w' => e = .returned (.bool (mayB n)) ∧ w = w' := by
  have HX := Lib.hid (show mayB n = (decide (0 ≤ n) && decide (n ≤ 999999)) from rfl)
  by_cases h1 : 0 ≤ n
  · have k1 := Lib.hid (decide_eq_true h1)
    by_cases h2 : n ≤ 999999
    · have k2 := Lib.hid (decide_eq_true h2)
      go_enter Tryd.func32, Tryd.ntmps32
      go_wp2
      go_ret
      exact ⟨by rw [HX.out, k1.out, k2.out]; rfl, rfl⟩
    · have k2 := Lib.hid (decide_eq_false h2)
      have h3 : 999999 < n := by omega
      go_enter Tryd.func32, Tryd.ntmps32
      go_wp2
      go_ret
      exact ⟨by rw [HX.out, k1.out, k2.out]; rfl, rfl⟩
  · have k1 := Lib.hid (decide_eq_false h1)
    have h3 : n < 0 := by omega
    go_enter Tryd.func32, Tryd.ntmps32
    go_wp2
    go_ret
    exact ⟨by rw [HX.out, k1.out]; rfl, rfl⟩
set_option maxHeartbeats 1000000 in
theorem idWrong_any (x : Stp) (hx : stpWf x) (w : World) :
    Calls Tryd.prog 30 #[.agg #[.string (str x.name), .int .i64 x.place]] w fun e w' => e = .returned (.bool (!stpB x)) ∧ Ext w w' := by
  have HX := Lib.hid (show stpB x = (nameB x.name && (decide (x.place = -1) || mayB x.place)) from rfl)
  have hn := hx.1
  have HE0 := Lib.hid ((Ext.refl w).alloc (.cells #[.string (str x.name), .int .i64 x.place] 27))
  have hb := BoxL.new w [.string (str x.name), .int .i64 x.place] 27
  go_enter Tryd.func30, Tryd.ntmps30
  go_upto_region 1 with (fail)
  generalize w.alloc (.cells #[.string (str x.name), .int .i64 x.place] 27) = W1 at *
  have p0 := hb.cell 0 _ rfl
  have p1 := hb.cell 1 _ rfl
  have HB := Lib.hid hb
  clear hb
  go_wp2_with fail
  refine (name_any x.name hn W1).mono ?_
  rintro e w1 ⟨rfl, hE⟩
  have HE1 := Lib.hid (HE0.out.trans hE)
  have p0 := (HB.out.ext hE).cell 0 _ rfl
  have p1 := (HB.out.ext hE).cell 1 _ rfl
  clear hE HE0 HB
  cases hq : nameB x.name with
  | false =>
    have HY := Lib.hid (show stpB x = false by rw [HX.out, hq]; rfl)
    clear hq
    go_wp2
    go_ret
    exact ⟨by rw [HY.out]; rfl, HE1.out⟩
  | true =>
  by_cases hp : x.place = -1
  · have HY := Lib.hid (show stpB x = true by rw [HX.out, hq, decide_eq_true hp]; rfl)
    have ht : (x.place != -1) = false := by simp [hp]
    clear hq hp
    go_wp2
    go_ret
    exact ⟨by rw [HY.out]; rfl, HE1.out⟩
  · have HY := Lib.hid (show stpB x = mayB x.place by rw [HX.out, hq, decide_eq_false hp]; rfl)
    have ht : (x.place != -1) = true := by simp [hp]
    clear hq hp
    go_wp2_with fail
    refine (idMay_any x.place w1).mono ?_
    rintro e w2 ⟨rfl, rfl⟩
    go_wp2
    go_ret
    exact ⟨by rw [HY.out]; rfl, HE1.out⟩
theorem hasWrong_any (l : List Stp) (w : World) (v : Value) (h : stpE.Row w l v) :
    Calls Tryd.prog 33 #[v, .func (.func 30) #[] #[]] w fun e w' => e = .returned (.bool (!l.all stpB)) ∧ Ext w w' := by
  refine (hasSp_any l 30 Tryd.call30 #[] (fun i => if h : i < l.length then !stpB l[i] else false) w v h (fun i hi w' hE hs => ?_)).mono ?_
  · simp only [dif_pos hi]
    exact idWrong_any l[i] hs w'
  · rintro e w' ⟨b, rfl, hb, hE⟩
    refine ⟨?_, hE⟩
    congr 2
    rw [Bool.eq_iff_iff, hb, Bool.not_eq_true', ← Bool.not_eq_true, List.all_eq_true]
    constructor
    · rintro ⟨i, hi, hq⟩ h
      simp only [dif_pos hi] at hq
      rw [h _ (List.getElem_mem hi)] at hq
      cases hq
    · intro h
      rw [Classical.not_forall] at h
      obtain ⟨x, h⟩ := h
      rw [Classical.not_imp] at h
      obtain ⟨i, hi, rfl⟩ := List.getElem_of_mem h.1
      refine ⟨i, hi, ?_⟩
      simp only [dif_pos hi]
      simpa using h.2
set_option maxHeartbeats 1000000 in
theorem idRight_any (p : Pth) (w : World) (v : Value) (h : PthV w p v) :
    Calls Tryd.prog 11 #[v] w fun e w' => e = .returned (.bool (pthB p)) ∧ Ext w w' := by
  obtain ⟨a, m, c, rfl, hr, hi⟩ := h
  have HX := Lib.hid (show pthB p = (mayB p.flow && p.steps.all stpB) from rfl)
  have HE0 := Lib.hid ((Ext.refl w).alloc (.cells #[.int .i64 p.flow, .slice a m c] 24))
  have hb := BoxL.new w [.int .i64 p.flow, .slice a m c] 24
  have HR := Lib.hid (hr.ext HE0.out)
  clear hr
  go_enter Tryd.func11, Tryd.ntmps11
  go_wp2_with fail
  generalize w.alloc (.cells #[.int .i64 p.flow, .slice a m c] 24) = W1 at *
  have p0 := hb.cell 0 _ rfl
  have p1 := hb.cell 1 _ rfl
  clear hb
  refine (idMay_any p.flow _).mono ?_
  rintro e w1 ⟨rfl, rfl⟩
  cases hq : mayB p.flow with
  | false =>
    have HY := Lib.hid (show pthB p = false by rw [HX.out, hq]; rfl)
    clear hq
    go_wp2
    go_ret
    exact ⟨by rw [HY.out]; rfl, HE0.out⟩
  | true =>
    have HY := Lib.hid (show pthB p = p.steps.all stpB by rw [HX.out, hq]; rfl)
    clear hq
    go_wp2_with fail
    refine (hasWrong_any p.steps W1 _ HR.out).mono ?_
    rintro e w2 ⟨rfl, hE⟩
    have HE := Lib.hid (HE0.out.trans hE)
    clear hE
    go_wp2
    go_ret
    exact ⟨by rw [HY.out]; simp [go_sem], HE.out⟩
end Go.Proofs.YtpcgpcjleedilaaDoor

namespace Go.Proofs
open Go.Shelf
def Tryd.lays166_ren : Go.Shelf.Ren := ⟨fun | 166 => 27 | 240 => 50 | 276 => 68 | n => n, fun | 0 => 0 | 3 => 3 | 4 => 4 | 9 => 9 | 20 => 20 | 37 => 66 | 70 => 65 | 72 => 68 | 75 => 70 | 164 => 113 | 5 => 5 | 80 => 74 | n => n, fun | n => n⟩
theorem Tryd.lays166 : Go.Proofs.Lays.n166 Tryd.prog Tryd.lays166_ren := {
  mixed := by kernel_rfl
  f166 := Tryd.func27.trans (congrArg some (by kernel_rfl))
  f240 := Tryd.func50.trans (congrArg some (by kernel_rfl))
  f276 := Tryd.func68.trans (congrArg some (by kernel_rfl))
  t0 := Tryd.underlying0
  a0 := Tryd.isAgg0
  z0 := Tryd.sizeOf0
  v0 := Tryd.zeroValue0
  t3 := Tryd.underlying3
  a3 := Tryd.isAgg3
  z3 := Tryd.sizeOf3
  v3 := Tryd.zeroValue3
  t4 := Tryd.underlying4
  a4 := Tryd.isAgg4
  z4 := Tryd.sizeOf4
  v4 := Tryd.zeroValue4
  t9 := Tryd.underlying9
  a9 := Tryd.isAgg9
  z9 := Tryd.sizeOf9
  v9 := Tryd.zeroValue9
  t20 := Tryd.underlying20
  a20 := Tryd.isAgg20
  z20 := Tryd.sizeOf20
  v20 := Tryd.zeroValue20
  t37 := Tryd.underlying66
  a37 := Tryd.isAgg66
  z37 := Tryd.sizeOf66
  v37 := Tryd.zeroValue66
  t70 := Tryd.underlying65
  a70 := Tryd.isAgg65
  z70 := Tryd.sizeOf65
  v70 := Tryd.zeroValue65
  t72 := Tryd.underlying68
  a72 := Tryd.isAgg68
  z72 := Tryd.sizeOf68
  v72 := Tryd.zeroValue68
  t75 := Tryd.underlying70
  a75 := Tryd.isAgg70
  z75 := Tryd.sizeOf70
  v75 := Tryd.zeroValue70
  t164 := Tryd.underlying113
  a164 := Tryd.isAgg113
  z164 := Tryd.sizeOf113
  v164 := Tryd.zeroValue113 }
theorem Tryd.Builder_Extra_166 : Builder.Extra Tryd.prog Tryd.lays166_ren := {
  sizeBuilder := by kernel_rfl
  liesBuilder := by kernel_rfl
  t5 := Tryd.underlying5
  a5 := Tryd.isAgg5
  z5 := Tryd.sizeOf5
  v5 := Tryd.zeroValue5
  infoByte := by kernel_rfl
  cellsByte := by kernel_rfl
  sizeByte := by kernel_rfl
  neB5 := by decide }
def Tryd.lays169_ren : Go.Shelf.Ren := ⟨fun | 169 => 29 | n => n, fun | 70 => 65 | 9 => 9 | 0 => 0 | 72 => 68 | 37 => 66 | 127 => 101 | 3 => 3 | 5 => 5 | n => n, fun | n => n⟩
theorem Tryd.lays169 : Go.Proofs.Lays.n169 Tryd.prog Tryd.lays169_ren := {
  mixed := by kernel_rfl
  f169 := Tryd.func29.trans (congrArg some (by kernel_rfl))
  t0 := Tryd.underlying0
  a0 := Tryd.isAgg0
  z0 := Tryd.sizeOf0
  v0 := Tryd.zeroValue0
  t3 := Tryd.underlying3
  a3 := Tryd.isAgg3
  z3 := Tryd.sizeOf3
  v3 := Tryd.zeroValue3
  t9 := Tryd.underlying9
  a9 := Tryd.isAgg9
  z9 := Tryd.sizeOf9
  v9 := Tryd.zeroValue9
  t37 := Tryd.underlying66
  a37 := Tryd.isAgg66
  z37 := Tryd.sizeOf66
  v37 := Tryd.zeroValue66
  t70 := Tryd.underlying65
  a70 := Tryd.isAgg65
  z70 := Tryd.sizeOf65
  v70 := Tryd.zeroValue65
  t72 := Tryd.underlying68
  a72 := Tryd.isAgg68
  z72 := Tryd.sizeOf68
  v72 := Tryd.zeroValue68
  t127 := Tryd.underlying101
  a127 := Tryd.isAgg101
  z127 := Tryd.sizeOf101
  v127 := Tryd.zeroValue101 }
theorem Tryd.Builder_Extra_169 : Builder.Extra Tryd.prog Tryd.lays169_ren := {
  sizeBuilder := by kernel_rfl
  liesBuilder := by kernel_rfl
  t5 := Tryd.underlying5
  a5 := Tryd.isAgg5
  z5 := Tryd.sizeOf5
  v5 := Tryd.zeroValue5
  infoByte := by kernel_rfl
  cellsByte := by kernel_rfl
  sizeByte := by kernel_rfl
  neB5 := by decide }
open Go.RowKit in
theorem Tryd.Builder_String_any (B b : Nat) (l : List UInt8) (w : World) (h : Lib.IsBuilder 68 5 B b (Lib.byteCells l) w) (hBw : B ≤ w.heap.size) :
    Calls Tryd.prog 29 #[.pointer (some ⟨b, 0, none⟩)] w fun e w' => e = .returned (.string ⟨l.toArray⟩) ∧ Below B w w' := Any.Builder_String_any Tryd.lays169 Tryd.Builder_Extra_169 B b l w h hBw
end Go.Proofs

open Go.RowKit Go.Shelf
namespace Go.Proofs.YtpcgpcjleedilaaDoor
open Go Go.Proofs Fm

end Go.Proofs.YtpcgpcjleedilaaDoor

/- Walks: Right, Bytes. -/
open Go.RowKit Go.Shelf
namespace Go.Proofs.YtpcgpcjleedilaaDoor
open Go Go.Proofs Fm

end Go.Proofs.YtpcgpcjleedilaaDoor

/- Walks: the reader's num and text. -/
open Go.RowKit Go.Shelf
namespace Go.Proofs.YtpcgpcjleedilaaDoor
open Go Go.Proofs Fm

/-- The reader in block R: what is left, and how much room. -/
structure RdAt (w0 w : World) (R : Nat) (v : Value) (xs : List UInt8) (m : Int) : Prop where
  ext : Ext w0 w
  old : w0.heap.size ≤ R
  lt : R < w.heap.size
  c0 : w.cell? ⟨R, 0, none⟩ = some v
  c1 : w.cell? ⟨R, 1, none⟩ = some (.int .i64 m)
  f0 : w.frozen? ⟨R, 0, none⟩ = false
  f1 : w.frozen? ⟨R, 1, none⟩ = false
  bytes : Bytes w0 v xs
theorem RdAt.kept {w0 w w' : World} {R : Nat} {v : Value} {xs : List UInt8} {m : Int} (h : RdAt w0 w R v xs m) {row : Option Nat} (hg : w.grownBy w' row) (hr : ∀ k, row = some k → w0.heap.size ≤ k ∧ k ≠ R) : RdAt w0 w' R v xs m := by
  have hne : some R ≠ row := fun e => (hr R e.symm).2 rfl
  exact ⟨h.ext.grown hg (fun k hk => (hr k hk).1), h.old, Nat.lt_of_lt_of_le h.lt hg.size, (hg.cell_far ⟨R, 0, none⟩ h.lt hne).trans h.c0, (hg.cell_far ⟨R, 1, none⟩ h.lt hne).trans h.c1,
    (hg.frozen_far ⟨R, 0, none⟩ h.lt hne).trans h.f0, (hg.frozen_far ⟨R, 1, none⟩ h.lt hne).trans h.f1, h.bytes⟩
theorem RdAt.then {w0 w w' : World} {R : Nat} {v : Value} {xs : List UInt8} {m : Int} (h : RdAt w0 w R v xs m) (hE : Ext w w') : RdAt w0 w' R v xs m := h.kept hE.grownBy (fun k hk => by cases hk)
theorem grown_set (w : World) (R o : Nat) (u : Value) : w.grownBy (w.setCell ⟨R, o, none⟩ u) (some R) := ⟨rfl, rfl, rfl, by simp [World.setCell], fun k _ hk => Below.heap_setCell _ _ _ _ (fun e => hk (by simp [e]))⟩
end Go.Proofs.YtpcgpcjleedilaaDoor

/- Walks: the reader's value. -/
open Go.RowKit Go.Shelf
namespace Go.Proofs.YtpcgpcjleedilaaDoor
open Go Go.Proofs Fm

/-- A struct of four cells in a block of its own. -/
def Box4 (w : World) (b : Nat) (c0 c1 c2 c3 : Value) : Prop := w.heap[b]? = some (.cells #[c0, c1, c2, c3] 46 (0, 0))
theorem Box4.new (w : World) (c0 c1 c2 c3 : Value) : Box4 (w.alloc (.cells #[c0, c1, c2, c3] 46)) w.heap.size c0 c1 c2 c3 := heap_alloc_new w _
theorem Box4.lt {w : World} {b : Nat} {c0 c1 c2 c3 : Value} (h : Box4 w b c0 c1 c2 c3) : b < w.heap.size := (Array.getElem?_eq_some_iff.1 h).1
theorem Box4.kept {w w' : World} {b : Nat} {c0 c1 c2 c3 : Value} (h : Box4 w b c0 c1 c2 c3) {row : Option Nat} (hg : w.grownBy w' row) (hr : row ≠ some b) : Box4 w' b c0 c1 c2 c3 := (hg.block b h.lt (fun e => hr e.symm)).trans h
theorem Box4.ext {w w' : World} {b : Nat} {c0 c1 c2 c3 : Value} (h : Box4 w b c0 c1 c2 c3) (hE : Ext w w') : Box4 w' b c0 c1 c2 c3 := (hE.block b h.lt).trans h
theorem Box4.cells {w : World} {b : Nat} {c0 c1 c2 c3 : Value} (h : Box4 w b c0 c1 c2 c3) : w.cell? ⟨b, 0, none⟩ = some c0 ∧ w.cell? ⟨b, 1, none⟩ = some c1 ∧ w.cell? ⟨b, 2, none⟩ = some c2 ∧ w.cell? ⟨b, 3, none⟩ = some c3 := by
  unfold Box4 at h
  refine ⟨?_, ?_, ?_, ?_⟩ <;> simp [World.cell?, h]
theorem Box4.frozen {w : World} {b : Nat} {c0 c1 c2 c3 : Value} (h : Box4 w b c0 c1 c2 c3) : w.frozen? ⟨b, 0, none⟩ = false ∧ w.frozen? ⟨b, 1, none⟩ = false ∧ w.frozen? ⟨b, 2, none⟩ = false ∧ w.frozen? ⟨b, 3, none⟩ = false := by
  unfold Box4 at h
  refine ⟨?_, ?_, ?_, ?_⟩ <;> simp [World.frozen?, h]
/-- It tells a tree in memory of its own, and has read on. -/
def ValOK (w0 w : World) (R : Nat) (t : Tr) (xs : List UInt8) (m : Int) (e : Ending) (w' : World) : Prop :=
  ∃ v, e = .returned v ∧ (∃ v', RdAt w0 w' R v' xs m) ∧ w.grownBy w' (some R) ∧ OwnT 46 w' w.heap.size t v

end Go.Proofs.YtpcgpcjleedilaaDoor

open Go.RowKit Go.Shelf
namespace Go.Proofs.YtpcgpcjleedilaaDoor
open Go Go.Proofs Fm

theorem ValOK.two {w0 w : World} {R : Nat} {k : UInt8} {n : Int} {s : List UInt8} {l : List Tr} {xs : List UInt8} {m : Int} {e : Ending} {w' : World} (h : ValOK w0 w R (.node k n s l) xs m e w') :
    ∃ (a4 : Option Addr) (n4 c4 : Nat), e = .returned (.agg #[.int .u8 (k.toNat : Int), .int .i64 n, .string (str s), .slice a4 n4 c4]) ∧ (∃ v', RdAt w0 w' R v' xs m) ∧ w.grownBy w' (some R) ∧
      OwnT 46 w' w.heap.size (.node k n s l) (.agg #[.int .u8 (k.toNat : Int), .int .i64 n, .string (str s), .slice a4 n4 c4]) := by
  obtain ⟨v, he, h1, h2, F, h3⟩ := h
  obtain ⟨d, rfl, _, _, h4⟩ := h3.parts
  obtain ⟨a, c, rfl⟩ := h4.slice
  exact ⟨a, _, c, he, h1, h2, F, h3⟩

theorem info_val : (Tryd.prog.info? 46).map (fun i => (i.zero, i.size, i.bytes)) = some (some (.agg #[.int .u8 0, .int .i64 0, .string (str []), .slice none 0 0]), 4, 56) := by kernel_rfl

theorem grown_row {a b c : World} {r1 row : Option Nat} (h : a.grownBy b r1) (k : b.grownBy c row) (hr : ∀ x, row = some x → a.heap.size ≤ x) : a.grownBy c r1 :=
  ⟨k.os.trans h.os, k.tape.trans h.tape, k.output.trans h.output, Nat.le_trans h.size k.size,
    fun i hi hne => (k.block i (Nat.lt_of_lt_of_le hi h.size) (fun e => by have := hr i e.symm; omega)).trans (h.block i hi hne)⟩
theorem Box4.set3 {w : World} {b : Nat} {c0 c1 c2 c3 : Value} (h : Box4 w b c0 c1 c2 c3) (u : Value) : Box4 (w.setCell ⟨b, 3, none⟩ u) b c0 c1 c2 u := by
  unfold Box4 at *
  simp [World.setCell, Array.getElem?_modify, h]
end Go.Proofs.YtpcgpcjleedilaaDoor

open Go.RowKit Go.Shelf
namespace Go.Proofs.YtpcgpcjleedilaaDoor
open Go Go.Proofs Fm

end Go.Proofs.YtpcgpcjleedilaaDoor

/- Walks: Take, Parse. -/
open Go.RowKit Go.Shelf
namespace Go.Proofs.YtpcgpcjleedilaaDoor
open Go Go.Proofs Fm

theorem Box4.set0 {w : World} {b : Nat} {c0 c1 c2 c3 : Value} (h : Box4 w b c0 c1 c2 c3) (u : Value) : Box4 (w.setCell ⟨b, 0, none⟩ u) b u c1 c2 c3 := by
  unfold Box4 at *; simp [World.setCell, Array.getElem?_modify, h]
theorem Box4.set1 {w : World} {b : Nat} {c0 c1 c2 c3 : Value} (h : Box4 w b c0 c1 c2 c3) (u : Value) : Box4 (w.setCell ⟨b, 1, none⟩ u) b c0 u c2 c3 := by
  unfold Box4 at *; simp [World.setCell, Array.getElem?_modify, h]
theorem Box4.set2 {w : World} {b : Nat} {c0 c1 c2 c3 : Value} (h : Box4 w b c0 c1 c2 c3) (u : Value) : Box4 (w.setCell ⟨b, 2, none⟩ u) b c0 c1 u c3 := by
  unfold Box4 at *; simp [World.setCell, Array.getElem?_modify, h]
theorem Box4.other {w : World} {b g : Nat} {c0 c1 c2 c3 : Value} (h : Box4 w b c0 c1 c2 c3) (hb : g ≠ b) (o : Nat) (u : Value) : Box4 (w.setCell ⟨g, o, none⟩ u) b c0 c1 c2 c3 :=
  h.kept (grown_set w g o u) (by simpa using hb)
theorem blk_ext {w w' : World} {b : Nat} {o : Obj} (h : w.heap[b]? = some o) (hE : Ext w w') : w'.heap[b]? = some o := (hE.block b (Array.getElem?_eq_some_iff.1 h).1).trans h
theorem blk_cell {w : World} {b : Nat} {cs : Array Value} {t : TypeId} (h : w.heap[b]? = some (.cells cs t (0, 0))) (j : Nat) : w.cell? ⟨b, j, none⟩ = cs[j]? := by simp [World.cell?, h]
theorem blk_free {w : World} {b : Nat} {cs : Array Value} {t : TypeId} (h : w.heap[b]? = some (.cells cs t (0, 0))) (j : Nat) : w.frozen? ⟨b, j, none⟩ = false := by simp [World.frozen?, h]

end Go.Proofs.YtpcgpcjleedilaaDoor

/- Walks: Parse. -/
open Go.RowKit Go.Shelf
namespace Go.Proofs.YtpcgpcjleedilaaDoor
open Go Go.Proofs Fm

/-- A struct of four cells is written. -/
def set4W (w : World) (B : Nat) (k n s d : Value) : World := (((w.setCell ⟨B, 0, none⟩ k).setCell ⟨B, 1, none⟩ n).setCell ⟨B, 2, none⟩ s).setCell ⟨B, 3, none⟩ d
theorem set4_facts {w0 w : World} {B : Nat} {k n s d c0 c1 c2 c3 : Value} (hE : Ext w0 w) (h2 : Box4 w B c0 c1 c2 c3) (hB : w0.heap.size ≤ B) :
    Ext w0 (set4W w B k n s d) ∧ Box4 (set4W w B k n s d) B k n s d ∧ w.grownBy (set4W w B k n s d) (some B) :=
  ⟨(((hE.setCell (p := ⟨B, 0, none⟩) hB k).setCell (p := ⟨B, 1, none⟩) hB n).setCell (p := ⟨B, 2, none⟩) hB s).setCell (p := ⟨B, 3, none⟩) hB d, (((h2.set0 k).set1 n).set2 s).set3 d,
    grown_trans (grown_trans (grown_trans (grown_set w B 0 k) (grown_set _ B 1 n)) (grown_set _ B 2 s)) (grown_set _ B 3 d)⟩

end Go.Proofs.YtpcgpcjleedilaaDoor

/- What a round that appends to a box's list leaves. -/
open Go.RowKit Go.Shelf
namespace Go.Proofs.YtpcgpcjleedilaaDoor
open Go Go.Proofs Fm

/-- What a round leaves. -/
theorem list_step2 {w0 wr w4 w6 : World} {V Pb base mid L gg cap6 : Nat} {ad : Option Addr} {cd : Nat} {ts : List Tr} {t : Tr} {x0 x1 x2 x3 : Value} {xsr : List Value} {p0 p1 p2 p3 u0 u1 u2 : Value}
    (hVb : V < base) (hPb : Pb < base) (hPV : Pb ≠ V) (hV0 : w0.heap.size ≤ V) (hE : Ext w0 wr) (hb : Box4 wr V u0 u1 u2 (.slice ad L cd)) (hB : Box4 wr Pb p0 p1 p2 p3) (hL : ts.length = L)
    (hO : OwnL 46 wr base ts (.slice ad L cd)) (hbr : base ≤ wr.heap.size) (hE4 : Ext wr w4) (hmid : wr.heap.size ≤ mid)
    (ho4 : OwnT 46 w4 mid t (.agg #[x0, x1, x2, x3]))
    (hx : (w4.alloc (.cells #[x0, x1, x2, x3] 46)).ownsRow base 46 4 (.slice ad L cd) L xsr)
    (hown6 : w6.ownsRow base 46 4 (.slice (some ⟨gg, 0, none⟩) (L + 1) cap6) (L + 1) (xsr ++ [x0, x1, x2, x3]))
    (hgrow6 : (w4.alloc (.cells #[x0, x1, x2, x3] 46)).grownBy w6 (Value.slice ad L cd).ownBlock)
    (hat6 : (Value.slice ad L cd).ownBlock = some gg ∨ gg = w4.heap.size + 1) :
    Ext w0 (w6.setCell ⟨V, 3, none⟩ (.slice (some ⟨gg, 0, none⟩) (L + 1) cap6)) ∧
      Box4 (w6.setCell ⟨V, 3, none⟩ (.slice (some ⟨gg, 0, none⟩) (L + 1) cap6)) V u0 u1 u2 (.slice (some ⟨gg, 0, none⟩) (L + 1) cap6) ∧ Box4 (w6.setCell ⟨V, 3, none⟩ (.slice (some ⟨gg, 0, none⟩) (L + 1) cap6)) Pb p0 p1 p2 p3 ∧
      OwnL 46 (w6.setCell ⟨V, 3, none⟩ (.slice (some ⟨gg, 0, none⟩) (L + 1) cap6)) base (ts ++ [t]) (.slice (some ⟨gg, 0, none⟩) (L + 1) cap6) ∧ wr.heap.size ≤ (w6.setCell ⟨V, 3, none⟩ (.slice (some ⟨gg, 0, none⟩) (L + 1) cap6)).heap.size := by
  have hRo : ∀ k, (Value.slice ad L cd).ownBlock = some k → base ≤ k := fun k hk => (hx.lt k hk).1
  have hEa : Ext w4 (w4.alloc (.cells #[x0, x1, x2, x3] 46)) := (Ext.refl w4).alloc _
  have hza : (w4.alloc (.cells #[x0, x1, x2, x3] 46)).heap.size = w4.heap.size + 1 := by simp
  generalize w4.alloc (.cells #[x0, x1, x2, x3] 46) = wa at *
  have hset := grown_set w6 V 3 (.slice (some ⟨gg, 0, none⟩) (L + 1) cap6)
  have hne : ∀ b, b < base → (Value.slice ad L cd).ownBlock ≠ some b := fun b hb e => by have := hRo b e; omega
  refine ⟨?_, ?_, ?_, ?_, ?_⟩
  · exact (((hE.trans hE4).trans hEa).grown hgrow6 (fun k hk => by have := hRo k hk; omega)).setCell (p := ⟨V, 3, none⟩) hV0 _
  · exact (((hb.ext hE4).ext hEa).kept hgrow6 (hne V hVb)).set3 _
  · exact (((hB.ext hE4).ext hEa).kept hgrow6 (hne Pb hPb)).other hPV.symm 3 _
  · subst hL
    refine (hO.snoc (w := wa) (mid := mid) hmid (fun b h1 h2 => ?_) (ho4.ext hEa) (by omega) hgrow6 hx hown6 ?_).grown hset (fun b hb => by injection hb with hb; omega)
    · rw [hEa.block b (by have := hE4.size; omega), hE4.block b h2]
    · rcases hat6 with h | h
      · exact .inl h.symm
      · right; rw [hza, ← h]; rfl
  · have h1 := hE4.size
    have h2 := hEa.size
    have h3 := hgrow6.size
    have h4 := hset.size
    omega

end Go.Proofs.YtpcgpcjleedilaaDoor

open Go.RowKit Go.Shelf
namespace Go.Proofs.YtpcgpcjleedilaaDoor
open Go Go.Proofs Fm

/-- A builder in block b, of the call's own from block B on, holds these bytes. -/
def Bld (B b : Nat) (xs : List UInt8) (w : World) : Prop := Lib.IsBuilder 68 5 B b (xs.map bv) w
/-- .. and has been written. -/
def BldU (B b : Nat) (xs : List UInt8) (w : World) : Prop := Lib.BuilderAt 68 5 B b (.pointer (some ⟨b, 0, none⟩)) (xs.map bv) w
theorem BldU.bld {B b : Nat} {xs : List UInt8} {w : World} (h : BldU B b xs w) : Bld B b xs w := .inr h
theorem BldU.lt {B b : Nat} {xs : List UInt8} {w : World} (h : BldU B b xs w) : B ≤ b ∧ b < w.heap.size := ⟨h.1, Lib.BuilderAt.lt h⟩
/-- It stays where nothing else but new memory comes. -/
theorem BldU.ext {B b : Nat} {xs : List UInt8} {w w' : World} (h : BldU B b xs w) (hE : Ext w w') : BldU B b xs w' := by
  have hlt := h.lt.2
  obtain ⟨h1, v, hb, ho, hn⟩ := h
  exact ⟨h1, v, (hE.block b hlt).trans hb, hE.own ho, hn⟩
theorem Bld.lt {B b : Nat} {xs : List UInt8} {w : World} (h : Bld B b xs w) : B ≤ b ∧ b < w.heap.size := by
  rcases h with h | h
  · exact ⟨h.1, Lib.BuilderAt.lt h⟩
  · exact ⟨h.1, Lib.BuilderAt.lt h⟩
theorem Bld.ext {B b : Nat} {xs : List UInt8} {w w' : World} (h : Bld B b xs w) (hE : Ext w w') : Bld B b xs w' := by
  have hlt := h.lt.2
  rcases h with h | h
  · obtain ⟨h1, v, hb, ho, hn⟩ := h
    exact .inl ⟨h1, v, (hE.block b hlt).trans hb, hE.own ho, hn⟩
  · obtain ⟨h1, v, hb, ho, hn⟩ := h
    exact .inr ⟨h1, v, (hE.block b hlt).trans hb, hE.own ho, hn⟩

/-- In which block its buffer lies. -/
def bufAt (w : World) (b : Nat) : Option Nat := match w.heap[b]? with
  | some (.cells cs _ _) => (cs.getD 1 undef).ownBlock
  | _ => none
/-- Block k is none of the builder's. -/
def Apart (w : World) (b k : Nat) : Prop := k < w.heap.size ∧ k ≠ b ∧ bufAt w b ≠ some k
/-- What is none of the builder's stays as it is, and none of its. -/
def Keep (b : Nat) (w w' : World) : Prop := ∀ k, Apart w b k → w'.heap[k]? = w.heap[k]? ∧ Apart w' b k
theorem Keep.refl (b : Nat) (w : World) : Keep b w w := fun _ h => ⟨rfl, h⟩
theorem Keep.trans {b : Nat} {x y z : World} (h : Keep b x y) (k : Keep b y z) : Keep b x z := fun i hi => by
  obtain ⟨a1, a2⟩ := h i hi
  obtain ⟨b1, b2⟩ := k i a2
  exact ⟨b1.trans a1, b2⟩
theorem bufAt_ext {w w' : World} {b : Nat} (hE : Ext w w') (hb : b < w.heap.size) : bufAt w' b = bufAt w b := by unfold bufAt; rw [hE.block b hb]
theorem BldU.buf {B b : Nat} {xs : List UInt8} {w : World} (h : BldU B b xs w) : ∀ k, bufAt w b = some k → B ≤ k ∧ k < w.heap.size := by
  obtain ⟨_, v, hb, ho, _⟩ := h
  intro k hk
  unfold bufAt at hk
  rw [hb] at hk
  exact ho.lt k hk
/-- What is new is none of the builder's. -/
theorem BldU.apart {B b : Nat} {xs : List UInt8} {w : World} (h : BldU B b xs w) (o : Obj) : Apart (w.alloc o) b w.heap.size := by
  have hlt := h.lt.2
  refine ⟨by simp, by omega, fun e => ?_⟩
  rw [bufAt_ext ((Ext.refl w).alloc o) hlt] at e
  have := (h.buf _ e).2
  omega

/-- What is written is behind it. -/
def WrotePost (B b : Nat) (xs : List UInt8) (w : World) (r : Value) (e : Ending) (w' : World) : Prop := e = .returned r ∧ BldU B b xs w' ∧ Below B w w' ∧ Keep b w w'

theorem copyCheck_any {B b : Nat} {xs : List UInt8} {w : World} (h : Bld B b xs w) :
    Calls Tryd.prog 50 #[.pointer (some ⟨b, 0, none⟩)] w (WrotePost B b xs w (.tuple #[])) := by
  rcases h with h | h
  · refine (Any.Builder_copyCheck_fresh (L := { Tryd.lays166 with }) Tryd.Builder_Extra_166.toX72 b w h.cell0 h.shape h.frozen0).mono ?_
    rintro e w' ⟨rfl, rfl⟩
    refine ⟨rfl, h.used _, (Below.refl B w).setCell (p := ⟨b, 0, none⟩) h.1 _, fun k hk => ?_⟩
    have e1 : bufAt (w.setCell ⟨b, 0, none⟩ (.pointer (some ⟨b, 0, none⟩))) b = bufAt w b := by
      obtain ⟨_, v, hb, _⟩ := h
      unfold bufAt
      rw [hb]
      simp [World.setCell, Array.getElem?_modify, hb]
    have hne : k ≠ b := hk.2.1
    refine ⟨Below.heap_setCell _ _ _ _ (by simpa using hne), by simpa [World.setCell] using hk.1, hk.2.1, ?_⟩
    rw [e1]; exact hk.2.2
  · refine (Any.Builder_copyCheck_used (L := { Tryd.lays166 with }) Tryd.Builder_Extra_166.toX72 b w h.cell0).mono ?_
    rintro e w' ⟨rfl, rfl⟩
    exact ⟨rfl, h, Below.refl B _, Keep.refl _ _⟩

theorem appSt {w : World} {ops : Array Oper} {rest : List Oper} {o : Oper} {a : Act} {Q : Exit → Act → World → Prop}
    (hg : Region.wanted o (yielded ops a.tmps) = true) (s x : Operand) (hop : o.op = Op.call { callee := Callee.builtin Builtin.append, args := #[s, x], argTypes := #[66, 9] }) {base : Nat}
    {v : Value} {xs : List UInt8} (hs : a.eval s = v) (hown : OwnB base w v xs) {ys : List UInt8} (hx : a.eval x = .string (str ys))
    (b1 : xs.length + ys.length ≤ 70368744177664) (b3 : base ≤ w.heap.size)
    (hK : ∀ v' w', OwnB base w' v' (xs ++ ys) → w.grownBy w' v.ownBlock → (v'.ownBlock = v.ownBlock ∨ v'.ownBlock = some w.heap.size) → wpList Tryd.prog ops Q rest (a.put o.dst v') w') :
    wpList Tryd.prog ops Q (o :: rest) a w := by
  have hsrc := Src.string (P := Tryd.prog) Tryd.underlying9 w (str ys)
  rw [str_list] at hsrc
  refine wpList_appAt w elem_u8 hg s x 9 hop base v _ _ hs hown _ _ _ hx hsrc (by unfold maxLen; omega) (by omega) b3 (fun v' w' h1 h2 h3 => hK v' w' ?_ h2 h3)
  unfold OwnB; rw [List.length_append, List.map_append]; exact h1

/-- A new buffer is laid into the builder. -/
theorem wrote {B b : Nat} {xs zs : List UInt8} {w wa w2 : World} {v v' : Value} (hBb : B ≤ b) (hbk : w.heap[b]? = some (.cells #[.pointer (some ⟨b, 0, none⟩), v] 68 (0, 0))) (ho : OwnB B w v xs) (hn : v.ownBlock ≠ some b) (hE : Ext w wa) (hB : B ≤ wa.heap.size)
    (hown' : OwnB B w2 v' zs) (hg : wa.grownBy w2 v.ownBlock) (hat : v'.ownBlock = v.ownBlock ∨ v'.ownBlock = some wa.heap.size) :
    w2.cell? ⟨b, 1, none⟩ = some v ∧ w2.frozen? ⟨b, 1, none⟩ = false ∧ BldU B b zs (w2.setCell ⟨b, 1, none⟩ v') ∧ Below B w (w2.setCell ⟨b, 1, none⟩ v') ∧ Keep b w (w2.setCell ⟨b, 1, none⟩ v') := by
  have hlt : b < w.heap.size := (Array.getElem?_eq_some_iff.1 hbk).1
  have hba := blk_ext hbk hE
  have hz := hE.size
  have hb2 : w2.heap[b]? = some (.cells #[.pointer (some ⟨b, 0, none⟩), v] 68 (0, 0)) := by
    rw [hg.block b (by omega) (fun e => hn e.symm)]; exact hba
  have h1 : (w2.setCell ⟨b, 1, none⟩ v').heap[b]? = some (.cells #[.pointer (some ⟨b, 0, none⟩), v'] 68 (0, 0)) := by simp [World.setCell, Array.getElem?_modify, hb2]
  refine ⟨(blk_cell hb2 1).trans rfl, blk_free hb2 1, ?_, ?_, ?_⟩
  · exact Lib.BuilderAt.put (T := 68) (e := 5) hBb hb2 (bs' := zs.map bv) (by rw [List.length_map]; exact hown') Tryd.Builder_Extra_166.neB5
  · exact (((Below.refl B w).trans (hE.mono (by have := ho.lt; omega))).grown hg hB (fun k hk => (ho.lt k hk).1)).setCell (p := ⟨b, 1, none⟩) hBb _
  · intro k hk
    have e0 : bufAt w b = v.ownBlock := by unfold bufAt; rw [hbk]; rfl
    have e1 : bufAt (w2.setCell ⟨b, 1, none⟩ v') b = v'.ownBlock := by unfold bufAt; rw [h1]; rfl
    have hkv : v.ownBlock ≠ some k := by rw [← e0]; exact hk.2.2
    refine ⟨?_, ?_, hk.2.1, ?_⟩
    · rw [Below.heap_setCell _ _ _ _ (by simpa using hk.2.1), hg.block k (by have := hk.1; omega) (fun e => hkv e.symm)]
      exact hE.block k hk.1
    · have := hg.size; have := hk.1; simp [World.setCell]; omega
    · rw [e1]
      rcases hat with h | h
      · rw [h]; exact hkv
      · rw [h]; intro e; injection e with e; have := hk.1; omega

theorem BldU.open {B b : Nat} {xs : List UInt8} {w : World} (h : BldU B b xs w) : B ≤ b ∧ ∃ v, w.heap[b]? = some (.cells #[.pointer (some ⟨b, 0, none⟩), v] 68 (0, 0)) ∧ OwnB B w v xs ∧ v.ownBlock ≠ some b := by
  obtain ⟨h1, v, hb, ho, hn⟩ := h
  rw [List.length_map] at ho
  exact ⟨h1, v, hb, ho, hn⟩

set_option maxRecDepth 100000 in
set_option maxHeartbeats 2000000 in
theorem wstring_any {B b : Nat} {xs : List UInt8} {w : World} (h : Bld B b xs w) (s : List UInt8) (hl : xs.length ≤ 1000000000000) (hs : s.length ≤ 1000000000000) (hB : B ≤ w.heap.size) :
    Calls Tryd.prog 27 #[.pointer (some ⟨b, 0, none⟩), .string (str s)] w (WrotePost B b (xs ++ s) w (.tuple #[.int .i64 (s.length : Int), .nilIface])) := by
  have H := Lib.hid h
  clear h
  go_enter Tryd.func27, Tryd.ntmps27
  go_wp2_with fail
  refine (copyCheck_any H.out).mono ?_
  rintro e w1 ⟨rfl, hu, hB1, hK1⟩
  obtain ⟨hBb, v, hbk, ho, hn⟩ := hu.open
  have c1 : w1.cell? ⟨b, 1, none⟩ = some v := (blk_cell hbk 1).trans rfl
  have hb1 : B ≤ w1.heap.size := Nat.le_trans hB hB1.size
  have hsz := str_size s
  have HO := Lib.hid ho
  have HK := Lib.hid hbk
  have HN := Lib.hid hn
  have HB1 := Lib.hid hB1
  have HK1 := Lib.hid hK1
  clear ho hbk hn hu hB1 hK1
  go_wp2_with (at_builtin; refine appSt rfl _ _ rfl rfl HO.out rfl ?b1 hb1 ?_)
  case b1 => omega
  intro v' w2 hown' hgrow hat
  obtain ⟨d1, f1, r1, r2, r3⟩ := wrote hBb HK.out HO.out HN.out (Ext.refl w1) (by omega) hown' hgrow hat
  obtain ⟨ao, n', cap, rfl⟩ : ∃ ao n' cap, v' = .slice ao n' cap := by
    rcases hown'.2 with ⟨hv, _⟩ | ⟨g, cap, cur, hv, _⟩
    · exact ⟨_, _, _, hv⟩
    · exact ⟨_, _, _, hv⟩
  have HX : Hid (WrotePost B b (xs ++ s) w (.tuple #[.int .i64 (s.length : Int), .nilIface]) (.returned (.tuple #[.int .i64 (s.length : Int), .nilIface])) (w2.setCell ⟨b, 1, none⟩ (.slice ao n' cap))) := Lib.hid ⟨rfl, r1, HB1.out.trans r2, HK1.out.trans r3⟩
  clear hown' hgrow hat r1 r2 r3
  go_wp2
  go_ret2
  exact HX.out

theorem bstring_any {B b : Nat} {xs : List UInt8} {w : World} (h : Bld B b xs w) (hB : B ≤ w.heap.size) :
    Calls Tryd.prog 29 #[.pointer (some ⟨b, 0, none⟩)] w fun e w' => e = .returned (.string (str xs)) ∧ Below B w w' :=
  Tryd.Builder_String_any B b xs w h hB

end Go.Proofs.YtpcgpcjleedilaaDoor

open Go.RowKit Go.Shelf
namespace Go.Proofs.YtpcgpcjleedilaaDoor
open Go Go.Proofs Fm

/-- The table that FormatInt reads is as the program's text lays it. -/
def Tab (w : World) : Prop := Lib.TabIs Tryd.prog w "internal/strconv.uint64pow10" .u64 Lib.pow10Tab
theorem Tab.ext {w w' : World} (h : Tab w) (hE : Ext w w') : Tab w' := by
  have hg : Tryd.prog.globalNamed "internal/strconv.uint64pow10" = some 5 := by kernel_rfl
  unfold Tab Lib.TabIs World.var? at *
  rw [hg] at h ⊢
  simp only [Option.bind_some] at h ⊢
  have hlt : 5 < w.heap.size := by
    rcases Nat.lt_or_ge 5 w.heap.size with h' | h'
    · exact h'
    · rw [Array.getElem?_eq_none h'] at h; cases h
  rw [hE.block _ hlt]
  exact h
theorem ext_grow (w : World) (os : Array Obj) : Ext w (Go.Sort.grow w os) :=
  ⟨rfl, rfl, rfl, by simp [Go.Sort.grow], fun i hi => by simp [Go.Sort.grow, Array.getElem?_append_left hi]⟩
theorem Bld.buf {B b : Nat} {xs : List UInt8} {w : World} (h : Bld B b xs w) : ∀ k, bufAt w b = some k → B ≤ k ∧ k < w.heap.size := by
  intro k hk
  unfold bufAt at hk
  rcases h with h | h
  · obtain ⟨_, v, hb, ho, _⟩ := h
    rw [hb] at hk; exact ho.lt k hk
  · obtain ⟨_, v, hb, ho, _⟩ := h
    rw [hb] at hk; exact ho.lt k hk
theorem Bld.apart {B b : Nat} {xs : List UInt8} {w : World} (h : Bld B b xs w) (o : Obj) : Apart (w.alloc o) b w.heap.size := by
  have hlt := h.lt.2
  refine ⟨by simp, by omega, fun e => ?_⟩
  rw [bufAt_ext ((Ext.refl w).alloc o) hlt] at e
  have := (h.buf _ e).2
  omega
end Go.Proofs.YtpcgpcjleedilaaDoor

namespace Go.Proofs
open Go.Shelf
def Tryd.lays104_ren : Go.Shelf.Ren := ⟨fun | 104 => 49 | 211 => 67 | 207 => 89 | n => n, fun | 9 => 9 | 4 => 4 | 24 => 37 | 3 => 3 | n => n, fun | n => n⟩
theorem Tryd.lays104 : Go.Proofs.Lays.n104 Tryd.prog Tryd.lays104_ren := {
  mixed := by kernel_rfl
  f104 := Tryd.func49.trans (congrArg some (by kernel_rfl))
  f207 := Tryd.func89.trans (congrArg some (by kernel_rfl))
  f211 := Tryd.func67.trans (congrArg some (by kernel_rfl))
  t3 := Tryd.underlying3
  a3 := Tryd.isAgg3
  z3 := Tryd.sizeOf3
  v3 := Tryd.zeroValue3
  t4 := Tryd.underlying4
  a4 := Tryd.isAgg4
  z4 := Tryd.sizeOf4
  v4 := Tryd.zeroValue4
  t9 := Tryd.underlying9
  a9 := Tryd.isAgg9
  z9 := Tryd.sizeOf9
  v9 := Tryd.zeroValue9
  t24 := Tryd.underlying37
  a24 := Tryd.isAgg37
  z24 := Tryd.sizeOf37
  v24 := Tryd.zeroValue37 }
open Go.RowKit in
theorem Tryd.strings_CutSuffix (s p : ByteArray) (w : World) (hs : s.size ≤ 9223372036854775807) :
    Calls Tryd.prog 49 #[.string s, .string p] w fun e w' => e = .returned (.tuple #[.string ⟨(Lib.trimSuffix s.data.toList p.data.toList).toArray⟩, .bool (Lib.hasSuffix s.data.toList p.data.toList)]) ∧ w' = w := Any.strings_CutSuffix Tryd.lays104 s p w hs
def Tryd.laysM171_ren : Go.Shelf.Ren := ⟨fun | 171 => 28 | 243 => 51 | 246 => 69 | 283 => 90 | 284 => 91 | 285 => 92 | 286 => 93 | 129 => 107 | 317 => 106 | 318 => 108 | 319 => 109 | 320 => 110 | 337 => 117 | 338 => 118 | n => n, fun | 3 => 3 | 9 => 9 | 2 => 2 | 4 => 4 | 171 => 133 | 0 => 0 | 53 => 134 | 37 => 66 | 5 => 5 | 173 => 137 | 212 => 155 | 51 => 156 | 20 => 20 | 213 => 157 | 46 => 142 | 232 => 168 | 233 => 169 | n => n, fun | 17 => 5 | 18 => 6 | 19 => 7 | n => n⟩
theorem Tryd.laysM171 : Go.Proofs.LaysM.n171 Tryd.prog Tryd.laysM171_ren := {
  mixed := by kernel_rfl
  f129 := Tryd.func107.trans (congrArg some (by kernel_rfl))
  f171 := Tryd.func28.trans (congrArg some (by kernel_rfl))
  f243 := Tryd.func51.trans (congrArg some (by kernel_rfl))
  f246 := Tryd.func69.trans (congrArg some (by kernel_rfl))
  f283 := Tryd.func90.trans (congrArg some (by kernel_rfl))
  f284 := Tryd.func91.trans (congrArg some (by kernel_rfl))
  f285 := Tryd.func92.trans (congrArg some (by kernel_rfl))
  f286 := Tryd.func93.trans (congrArg some (by kernel_rfl))
  f317 := Tryd.func106.trans (congrArg some (by kernel_rfl))
  f318 := Tryd.func108.trans (congrArg some (by kernel_rfl))
  f319 := Tryd.func109.trans (congrArg some (by kernel_rfl))
  f320 := Tryd.func110.trans (congrArg some (by kernel_rfl))
  f337 := Tryd.func117.trans (congrArg some (by kernel_rfl))
  f338 := Tryd.func118.trans (congrArg some (by kernel_rfl))
  t0 := Tryd.underlying0
  a0 := Tryd.isAgg0
  z0 := Tryd.sizeOf0
  v0 := Tryd.zeroValue0
  t2 := Tryd.underlying2
  a2 := Tryd.isAgg2
  z2 := Tryd.sizeOf2
  v2 := Tryd.zeroValue2
  t3 := Tryd.underlying3
  a3 := Tryd.isAgg3
  z3 := Tryd.sizeOf3
  v3 := Tryd.zeroValue3
  t4 := Tryd.underlying4
  a4 := Tryd.isAgg4
  z4 := Tryd.sizeOf4
  v4 := Tryd.zeroValue4
  t5 := Tryd.underlying5
  a5 := Tryd.isAgg5
  z5 := Tryd.sizeOf5
  v5 := Tryd.zeroValue5
  t9 := Tryd.underlying9
  a9 := Tryd.isAgg9
  z9 := Tryd.sizeOf9
  v9 := Tryd.zeroValue9
  t20 := Tryd.underlying20
  a20 := Tryd.isAgg20
  z20 := Tryd.sizeOf20
  v20 := Tryd.zeroValue20
  t37 := Tryd.underlying66
  a37 := Tryd.isAgg66
  z37 := Tryd.sizeOf66
  v37 := Tryd.zeroValue66
  t46 := Tryd.underlying142
  a46 := Tryd.isAgg142
  z46 := Tryd.sizeOf142
  v46 := Tryd.zeroValue142
  t51 := Tryd.underlying156
  a51 := Tryd.isAgg156
  z51 := Tryd.sizeOf156
  v51 := Tryd.zeroValue156
  t53 := Tryd.underlying134
  a53 := Tryd.isAgg134
  z53 := Tryd.sizeOf134
  v53 := Tryd.zeroValue134
  t171 := Tryd.underlying133
  a171 := Tryd.isAgg133
  z171 := Tryd.sizeOf133
  v171 := Tryd.zeroValue133
  t173 := Tryd.underlying137
  a173 := Tryd.isAgg137
  z173 := Tryd.sizeOf137
  v173 := Tryd.zeroValue137
  t212 := Tryd.underlying155
  a212 := Tryd.isAgg155
  z212 := Tryd.sizeOf155
  v212 := Tryd.zeroValue155
  t213 := Tryd.underlying157
  a213 := Tryd.isAgg157
  z213 := Tryd.sizeOf157
  t232 := Tryd.underlying168
  a232 := Tryd.isAgg168
  z232 := Tryd.sizeOf168
  v232 := Tryd.zeroValue168
  t233 := Tryd.underlying169
  a233 := Tryd.isAgg169
  z233 := Tryd.sizeOf169
  v233 := Tryd.zeroValue169
  g17 := by kernel_rfl
  g18 := by kernel_rfl
  g19 := by kernel_rfl
  i0 := by kernel_rfl
  i2 := by kernel_rfl
  i3 := by kernel_rfl
  i4 := by kernel_rfl
  i5 := by kernel_rfl
  i9 := by kernel_rfl
  i20 := by kernel_rfl
  i37 := by kernel_rfl
  i46 := by kernel_rfl
  i51 := by kernel_rfl
  i53 := by kernel_rfl
  i171 := by kernel_rfl
  i173 := by kernel_rfl
  i212 := by kernel_rfl
  i232 := by kernel_rfl
  i233 := by kernel_rfl
  m17 := by kernel_rfl
  m18 := by kernel_rfl
  m19 := by kernel_rfl }
open Go.RowKit Go.Sort Go.Lib in
theorem Tryd.strconv_Itoa (n : Int) (h0 : -9223372036854775808 ≤ n) (h1 : n ≤ 9223372036854775807) (w : World) (htab : Lib.TabIs Tryd.prog w "internal/strconv.uint64pow10" .u64 Lib.pow10Tab) :
    Calls Tryd.prog 28 #[.int .i64 n] w fun e w' => e = .returned (.string ⟨(Lib.itoa n).toArray⟩) ∧ ∃ k os, w' = grow (w.drewN k) os := Any.strconv_Itoa Tryd.laysM171 n h0 h1 w htab
def Tryd.laysC172_ren : Go.Shelf.Ren := ⟨fun | 172 => 47 | 244 => 64 | 245 => 65 | 247 => 84 | 279 => 85 | 280 => 86 | 281 => 87 | 282 => 88 | 287 => 103 | 316 => 104 | 171 => 28 | 205 => 105 | 321 => 115 | 322 => 116 | 243 => 51 | 246 => 69 | 283 => 90 | 284 => 91 | 285 => 92 | 286 => 93 | 129 => 107 | 317 => 106 | 318 => 108 | 319 => 109 | 320 => 110 | 337 => 117 | 338 => 118 | n => n, fun | 9 => 9 | 3 => 3 | 75 => 70 | 76 => 71 | 4 => 4 | 5 => 5 | 167 => 127 | 37 => 66 | 0 => 0 | 85 => 128 | 2 => 2 | 168 => 130 | 53 => 134 | 175 => 148 | 46 => 142 | 210 => 152 | 127 => 101 | 145 => 165 | 143 => 163 | 21 => 21 | 171 => 133 | 173 => 137 | 212 => 155 | 51 => 156 | 20 => 20 | 213 => 157 | 232 => 168 | 233 => 169 | 80 => 74 | n => n, fun | 15 => 3 | 16 => 4 | 17 => 5 | 18 => 6 | 19 => 7 | n => n⟩
theorem Tryd.laysC172 : Go.Proofs.LaysC.n172 Tryd.prog Tryd.laysC172_ren := {
  mixed := by kernel_rfl
  f129 := Tryd.func107.trans (congrArg some (by kernel_rfl))
  f171 := Tryd.func28.trans (congrArg some (by kernel_rfl))
  f172 := Tryd.func47.trans (congrArg some (by kernel_rfl))
  f205 := Tryd.func105.trans (congrArg some (by kernel_rfl))
  f243 := Tryd.func51.trans (congrArg some (by kernel_rfl))
  f244 := Tryd.func64.trans (congrArg some (by kernel_rfl))
  f245 := Tryd.func65.trans (congrArg some (by kernel_rfl))
  f246 := Tryd.func69.trans (congrArg some (by kernel_rfl))
  f247 := Tryd.func84.trans (congrArg some (by kernel_rfl))
  f279 := Tryd.func85.trans (congrArg some (by kernel_rfl))
  f280 := Tryd.func86.trans (congrArg some (by kernel_rfl))
  f281 := Tryd.func87.trans (congrArg some (by kernel_rfl))
  f282 := Tryd.func88.trans (congrArg some (by kernel_rfl))
  f283 := Tryd.func90.trans (congrArg some (by kernel_rfl))
  f284 := Tryd.func91.trans (congrArg some (by kernel_rfl))
  f285 := Tryd.func92.trans (congrArg some (by kernel_rfl))
  f286 := Tryd.func93.trans (congrArg some (by kernel_rfl))
  f287 := Tryd.func103.trans (congrArg some (by kernel_rfl))
  f316 := Tryd.func104.trans (congrArg some (by kernel_rfl))
  f317 := Tryd.func106.trans (congrArg some (by kernel_rfl))
  f318 := Tryd.func108.trans (congrArg some (by kernel_rfl))
  f319 := Tryd.func109.trans (congrArg some (by kernel_rfl))
  f320 := Tryd.func110.trans (congrArg some (by kernel_rfl))
  f321 := Tryd.func115.trans (congrArg some (by kernel_rfl))
  f322 := Tryd.func116.trans (congrArg some (by kernel_rfl))
  f337 := Tryd.func117.trans (congrArg some (by kernel_rfl))
  f338 := Tryd.func118.trans (congrArg some (by kernel_rfl))
  t0 := Tryd.underlying0
  a0 := Tryd.isAgg0
  z0 := Tryd.sizeOf0
  v0 := Tryd.zeroValue0
  t2 := Tryd.underlying2
  a2 := Tryd.isAgg2
  z2 := Tryd.sizeOf2
  v2 := Tryd.zeroValue2
  t3 := Tryd.underlying3
  a3 := Tryd.isAgg3
  z3 := Tryd.sizeOf3
  v3 := Tryd.zeroValue3
  t4 := Tryd.underlying4
  a4 := Tryd.isAgg4
  z4 := Tryd.sizeOf4
  v4 := Tryd.zeroValue4
  t5 := Tryd.underlying5
  a5 := Tryd.isAgg5
  z5 := Tryd.sizeOf5
  v5 := Tryd.zeroValue5
  t9 := Tryd.underlying9
  a9 := Tryd.isAgg9
  z9 := Tryd.sizeOf9
  v9 := Tryd.zeroValue9
  t20 := Tryd.underlying20
  a20 := Tryd.isAgg20
  z20 := Tryd.sizeOf20
  v20 := Tryd.zeroValue20
  t21 := Tryd.underlying21
  a21 := Tryd.isAgg21
  z21 := Tryd.sizeOf21
  v21 := Tryd.zeroValue21
  t37 := Tryd.underlying66
  a37 := Tryd.isAgg66
  z37 := Tryd.sizeOf66
  v37 := Tryd.zeroValue66
  t46 := Tryd.underlying142
  a46 := Tryd.isAgg142
  z46 := Tryd.sizeOf142
  v46 := Tryd.zeroValue142
  t51 := Tryd.underlying156
  a51 := Tryd.isAgg156
  z51 := Tryd.sizeOf156
  v51 := Tryd.zeroValue156
  t53 := Tryd.underlying134
  a53 := Tryd.isAgg134
  z53 := Tryd.sizeOf134
  v53 := Tryd.zeroValue134
  t75 := Tryd.underlying70
  a75 := Tryd.isAgg70
  z75 := Tryd.sizeOf70
  v75 := Tryd.zeroValue70
  t76 := Tryd.underlying71
  a76 := Tryd.isAgg71
  z76 := Tryd.sizeOf71
  v76 := Tryd.zeroValue71
  t85 := Tryd.underlying128
  a85 := Tryd.isAgg128
  z85 := Tryd.sizeOf128
  v85 := Tryd.zeroValue128
  t127 := Tryd.underlying101
  a127 := Tryd.isAgg101
  z127 := Tryd.sizeOf101
  v127 := Tryd.zeroValue101
  t143 := Tryd.underlying163
  a143 := Tryd.isAgg163
  z143 := Tryd.sizeOf163
  v143 := Tryd.zeroValue163
  t145 := Tryd.underlying165
  a145 := Tryd.isAgg165
  z145 := Tryd.sizeOf165
  v145 := Tryd.zeroValue165
  t167 := Tryd.underlying127
  a167 := Tryd.isAgg127
  z167 := Tryd.sizeOf127
  v167 := Tryd.zeroValue127
  t168 := Tryd.underlying130
  a168 := Tryd.isAgg130
  z168 := Tryd.sizeOf130
  v168 := Tryd.zeroValue130
  t171 := Tryd.underlying133
  a171 := Tryd.isAgg133
  z171 := Tryd.sizeOf133
  v171 := Tryd.zeroValue133
  t173 := Tryd.underlying137
  a173 := Tryd.isAgg137
  z173 := Tryd.sizeOf137
  v173 := Tryd.zeroValue137
  t175 := Tryd.underlying148
  a175 := Tryd.isAgg148
  z175 := Tryd.sizeOf148
  v175 := Tryd.zeroValue148
  t210 := Tryd.underlying152
  a210 := Tryd.isAgg152
  z210 := Tryd.sizeOf152
  v210 := Tryd.zeroValue152
  t212 := Tryd.underlying155
  a212 := Tryd.isAgg155
  z212 := Tryd.sizeOf155
  v212 := Tryd.zeroValue155
  t213 := Tryd.underlying157
  a213 := Tryd.isAgg157
  z213 := Tryd.sizeOf157
  t232 := Tryd.underlying168
  a232 := Tryd.isAgg168
  z232 := Tryd.sizeOf168
  v232 := Tryd.zeroValue168
  t233 := Tryd.underlying169
  a233 := Tryd.isAgg169
  z233 := Tryd.sizeOf169
  v233 := Tryd.zeroValue169
  g15 := by kernel_rfl
  g16 := by kernel_rfl
  g17 := by kernel_rfl
  g18 := by kernel_rfl
  g19 := by kernel_rfl
  t80 := Tryd.underlying74
  a80 := Tryd.isAgg74
  z80 := Tryd.sizeOf74
  v80 := Tryd.zeroValue74
  i0 := by kernel_rfl
  i2 := by kernel_rfl
  i3 := by kernel_rfl
  i4 := by kernel_rfl
  i5 := by kernel_rfl
  i9 := by kernel_rfl
  i20 := by kernel_rfl
  i21 := by kernel_rfl
  i37 := by kernel_rfl
  i46 := by kernel_rfl
  i51 := by kernel_rfl
  i53 := by kernel_rfl
  i75 := by kernel_rfl
  i76 := by kernel_rfl
  i80 := by kernel_rfl
  i85 := by kernel_rfl
  i127 := by kernel_rfl
  i143 := by kernel_rfl
  i145 := by kernel_rfl
  i167 := by kernel_rfl
  i168 := by kernel_rfl
  i171 := by kernel_rfl
  i173 := by kernel_rfl
  i175 := by kernel_rfl
  i210 := by kernel_rfl
  i212 := by kernel_rfl
  i232 := by kernel_rfl
  i233 := by kernel_rfl
  m15 := by kernel_rfl
  m16 := by kernel_rfl
  m17 := by kernel_rfl
  m18 := by kernel_rfl
  m19 := by kernel_rfl
  c0 := by kernel_rfl
  c2 := by kernel_rfl
  c3 := by kernel_rfl
  c4 := by kernel_rfl
  c5 := by kernel_rfl
  c9 := by kernel_rfl
  c20 := by kernel_rfl
  c21 := by kernel_rfl
  c37 := by kernel_rfl
  c46 := by kernel_rfl
  c51 := by kernel_rfl
  c53 := by kernel_rfl
  c75 := by kernel_rfl
  c76 := by kernel_rfl
  c80 := by kernel_rfl
  c85 := by kernel_rfl
  c127 := by kernel_rfl
  c143 := by kernel_rfl
  c145 := by kernel_rfl
  c167 := by kernel_rfl
  c168 := by kernel_rfl
  c171 := by kernel_rfl
  c173 := by kernel_rfl
  c175 := by kernel_rfl
  c210 := by kernel_rfl
  c212 := by kernel_rfl
  c213 := by kernel_rfl
  c232 := by kernel_rfl
  c233 := by kernel_rfl }
open Go.RowKit in
theorem Tryd.strconv_Atoi_ok (s : ByteArray) (hmax : s.size ≤ 9223372036854775806) (v : Int) (h : Lib.atoiAll s.data.toList = .ok v) (w : World) :
    Calls Tryd.prog 47 #[.string s] w fun e w' => e = .returned (.tuple #[.int .i64 v, .nilIface]) ∧ (w' = w ∨ ∃ t, w' = Lib.bytesWorld w 5 t) := Any.strconv_Atoi_ok Tryd.laysC172 s hmax v h w
open Go.RowKit in
theorem Tryd.strconv_Atoi_syntax (s : ByteArray) (hlim : s.size ≤ 281474976710656) (h1 : ∀ v, Lib.atoiAll s.data.toList ≠ .ok v) (h2 : Lib.atoiAll s.data.toList ≠ .range) (ev : Value) (w : World) (hv : w.cell? ⟨3, 0, none⟩ = some ev) (hev : ev = .nilIface ∨ ∃ te pe, ev = .iface te pe) :
    Calls Tryd.prog 47 #[.string s] w fun e w' => ∃ N, e = .returned (.tuple #[.int .i64 (0), .iface 130 (.pointer (some ⟨N, 0, none⟩))]) ∧ w.heap.size ≤ N ∧ w'.heap[N]? = some (.cells #[.string ⟨#[65, 116, 111, 105]⟩, .string s, ev] 152 (0, 0)) ∧ Below w.heap.size w w' := Any.strconv_Atoi_syntax Tryd.laysC172 s hlim (by cases e : Lib.atoiAll s.data.toList <;> first | rfl | exact absurd e (h1 _) | exact absurd e h2) ev w hv hev
open Go.RowKit in
theorem Tryd.strconv_Atoi_range (s : ByteArray) (hlim : s.size ≤ 281474976710656) (h : Lib.atoiAll s.data.toList = .range) (ev : Value) (w : World) (hv : w.cell? ⟨4, 0, none⟩ = some ev) (hev : ev = .nilIface ∨ ∃ te pe, ev = .iface te pe) :
    Calls Tryd.prog 47 #[.string s] w fun e w' => ∃ N, e = .returned (.tuple #[.int .i64 (Lib.atoiSat s.data.toList), .iface 130 (.pointer (some ⟨N, 0, none⟩))]) ∧ w.heap.size ≤ N ∧ w'.heap[N]? = some (.cells #[.string ⟨#[65, 116, 111, 105]⟩, .string s, ev] 152 (0, 0)) ∧ Below w.heap.size w w' := Any.strconv_Atoi_range Tryd.laysC172 s hlim h ev w hv hev
def Tryd.lays143_ren : Go.Shelf.Ren := ⟨fun | 143 => 63 | 219 => 83 | 217 => 99 | 225 => 100 | 224 => 101 | 267 => 102 | 266 => 113 | 314 => 114 | n => n, fun | 9 => 9 | 3 => 3 | 4 => 4 | 5 => 5 | 46 => 142 | 146 => 160 | 51 => 156 | n => n, fun | 1 => 2 | n => n⟩
theorem Tryd.lays143 : Go.Proofs.Lays.n143 Tryd.prog Tryd.lays143_ren := {
  mixed := by kernel_rfl
  f143 := Tryd.func63.trans (congrArg some (by kernel_rfl))
  f217 := Tryd.func99.trans (congrArg some (by kernel_rfl))
  f219 := Tryd.func83.trans (congrArg some (by kernel_rfl))
  f224 := Tryd.func101.trans (congrArg some (by kernel_rfl))
  f225 := Tryd.func100.trans (congrArg some (by kernel_rfl))
  f266 := Tryd.func113.trans (congrArg some (by kernel_rfl))
  f267 := Tryd.func102.trans (congrArg some (by kernel_rfl))
  f314 := Tryd.func114.trans (congrArg some (by kernel_rfl))
  t3 := Tryd.underlying3
  a3 := Tryd.isAgg3
  z3 := Tryd.sizeOf3
  v3 := Tryd.zeroValue3
  t4 := Tryd.underlying4
  a4 := Tryd.isAgg4
  z4 := Tryd.sizeOf4
  v4 := Tryd.zeroValue4
  t5 := Tryd.underlying5
  a5 := Tryd.isAgg5
  z5 := Tryd.sizeOf5
  v5 := Tryd.zeroValue5
  t9 := Tryd.underlying9
  a9 := Tryd.isAgg9
  z9 := Tryd.sizeOf9
  v9 := Tryd.zeroValue9
  t46 := Tryd.underlying142
  a46 := Tryd.isAgg142
  z46 := Tryd.sizeOf142
  v46 := Tryd.zeroValue142
  t51 := Tryd.underlying156
  a51 := Tryd.isAgg156
  z51 := Tryd.sizeOf156
  v51 := Tryd.zeroValue156
  t146 := Tryd.underlying160
  a146 := Tryd.isAgg160
  z146 := Tryd.sizeOf160
  v146 := Tryd.zeroValue160
  g1 := by kernel_rfl }
open Go.RowKit Go.Lib in
theorem Tryd.strings_Index_one (s : ByteArray) (c : UInt8) (w : World) :
    Calls Tryd.prog 63 #[.string s, .string ⟨#[c]⟩] w fun e w' => e = .returned (.int .i64 (Lib.indexByte s.data.toList c)) ∧ w' = w := Any.strings_Index_one Tryd.lays143 s c w

def Tryd.lays219_ren : Go.Shelf.Ren := ⟨fun | 219 => 83 | 217 => 99 | 225 => 100 | 224 => 101 | 267 => 102 | 266 => 113 | 314 => 114 | n => n, fun | 9 => 9 | 3 => 3 | 4 => 4 | 5 => 5 | 46 => 142 | 146 => 160 | 51 => 156 | n => n, fun | 1 => 2 | n => n⟩
theorem Tryd.lays219 : Go.Proofs.Lays.n219 Tryd.prog Tryd.lays219_ren := {
  mixed := by kernel_rfl
  f217 := Tryd.func99.trans (congrArg some (by kernel_rfl))
  f219 := Tryd.func83.trans (congrArg some (by kernel_rfl))
  f224 := Tryd.func101.trans (congrArg some (by kernel_rfl))
  f225 := Tryd.func100.trans (congrArg some (by kernel_rfl))
  f266 := Tryd.func113.trans (congrArg some (by kernel_rfl))
  f267 := Tryd.func102.trans (congrArg some (by kernel_rfl))
  f314 := Tryd.func114.trans (congrArg some (by kernel_rfl))
  t3 := Tryd.underlying3
  a3 := Tryd.isAgg3
  z3 := Tryd.sizeOf3
  v3 := Tryd.zeroValue3
  t4 := Tryd.underlying4
  a4 := Tryd.isAgg4
  z4 := Tryd.sizeOf4
  v4 := Tryd.zeroValue4
  t5 := Tryd.underlying5
  a5 := Tryd.isAgg5
  z5 := Tryd.sizeOf5
  v5 := Tryd.zeroValue5
  t9 := Tryd.underlying9
  a9 := Tryd.isAgg9
  z9 := Tryd.sizeOf9
  v9 := Tryd.zeroValue9
  t46 := Tryd.underlying142
  a46 := Tryd.isAgg142
  z46 := Tryd.sizeOf142
  v46 := Tryd.zeroValue142
  t51 := Tryd.underlying156
  a51 := Tryd.isAgg156
  z51 := Tryd.sizeOf156
  v51 := Tryd.zeroValue156
  t146 := Tryd.underlying160
  a146 := Tryd.isAgg160
  z146 := Tryd.sizeOf160
  v146 := Tryd.zeroValue160
  g1 := by kernel_rfl }
open Go.RowKit Go.Lib in
theorem Tryd.stringslite_Index_one (s : ByteArray) (c : UInt8) (w : World) :
    Calls Tryd.prog 83 #[.string s, .string ⟨#[c]⟩] w fun e w' => e = .returned (.int .i64 (Lib.indexByte s.data.toList c)) ∧ w' = w := Any.stringslite_Index_one Tryd.lays219 s c w

end Go.Proofs

open Go.RowKit Go.Shelf
namespace Go.Proofs.YtpcgpcjleedilaaDoor
open Go Go.Proofs Fm

/-- A variable that holds an error, or none. -/
def ErrAt (w : World) (g : Nat) : Prop := ∃ ev, w.cell? ⟨g, 0, none⟩ = some ev ∧ (ev = .nilIface ∨ ∃ te pe, ev = .iface te pe)
theorem cell_lt {w : World} {a : Addr} {v : Value} (h : w.cell? a = some v) : a.block < w.heap.size := by
  obtain ⟨o, ho, _⟩ := cells_of_cell h
  exact (Array.getElem?_eq_some_iff.1 ho).1
theorem ErrAt.ext {w w' : World} {g : Nat} (h : ErrAt w g) (hE : Ext w w') : ErrAt w' g := by
  obtain ⟨ev, h1, h2⟩ := h
  exact ⟨ev, (hE.cell (p := ⟨g, 0, none⟩) (cell_lt h1)).trans h1, h2⟩
/-- What package ident reads of the world that is not its own. -/
structure KW (w : World) : Prop where
  tab : Tab w
  sx : ErrAt w 3
  rg : ErrAt w 4
theorem KW.ext {w w' : World} (h : KW w) (hE : Ext w w') : KW w' := ⟨h.tab.ext hE, h.sx.ext hE, h.rg.ext hE⟩
theorem itoa_any {n : Int} (h : isI64 n) {w : World} (ht : KW w) :
    Calls Tryd.prog 28 #[.int .i64 n] w fun e w' => e = .returned (.string (str (Lib.itoa n))) ∧ Ext w w' :=
  (Tryd.strconv_Itoa n h.1 h.2 w ht.tab).mono fun e w' ⟨h1, k, os, h2⟩ => ⟨h1, by rw [h2]; exact ((Ext.refl w).drewN k).trans (ext_grow _ os)⟩
theorem ext_bytesW (w : World) (e : TypeId) (s : ByteArray) : Ext w (Lib.bytesWorld w e s) :=
  ⟨rfl, rfl, rfl, by rw [Lib.bytesWorld_size]; omega, fun j hj => Lib.bytesWorld_at_old w _ _ j hj⟩
theorem i64_may {v : Int} (h : mayB v = true) : isI64 v := by
  have := mayB_iff.1 h
  unfold isI64; omega
/-- What number hands back. -/
def numV (s : List UInt8) : Int := (numI s).getD (-1)
theorem numV_none {s : List UInt8} (h : numI s = none) : numV s = -1 := by unfold numV; rw [h]; rfl
theorem numV_some {s : List UInt8} {n : Int} (h : numI s = some n) : numV s = n := by unfold numV; rw [h]; rfl
theorem numV_eq {s : List UInt8} : numV s = -1 ↔ numI s = none := by
  constructor
  · intro h
    cases e : numI s with
    | none => rfl
    | some n => rw [numV_some e] at h; have := (numI_iff.1 e).1; omega
  · exact numV_none
theorem numV_isI64 (s : List UInt8) : isI64 (numV s) := by
  cases e : numI s with
  | none => rw [numV_none e]; unfold isI64; omega
  | some n => rw [numV_some e]; have := (numI_iff.1 e).1; unfold isI64; omega
set_option maxHeartbeats 1000000 in
theorem idNumber_any (s : List UInt8) (hs : s.length ≤ 1000000) (w : World) (hw : KW w) :
    Calls Tryd.prog 25 #[.string (str s)] w fun e w' => e = .returned (.int .i64 (numV s)) ∧ Ext w w' := by
  have hsz := str_size s
  have hl := str_list s
  cases ha : Lib.atoiAll s with
  | range =>
    have HY := Lib.hid (show numV s = -1 from numV_none (by unfold numI; rw [ha]))
    obtain ⟨ev, h1, h2⟩ := hw.rg
    have HC := Lib.hid (Tryd.strconv_Atoi_range (str s) (by rw [hsz]; omega) (by rw [hl]; exact ha) ev w h1 h2)
    clear hw ha h1 h2 hl
    generalize Lib.atoiSat (str s).data.toList = m at HC
    go_enter Tryd.func25, Tryd.ntmps25
    go_wp2_with fail
    refine HC.out.mono ?_
    rintro e w1 ⟨N, rfl, -, -, hb⟩
    have HE := Lib.hid (show Ext w w1 from hb)
    clear hb HC
    go_wp2
    go_ret
    exact ⟨by rw [HY.out]; rfl, HE.out⟩
  | ok v =>
    have HX := Lib.hid (show numI s = if mayB v = true ∧ Lib.itoa v = s then some v else none by unfold numI; rw [ha])
    have HC := Lib.hid (Tryd.strconv_Atoi_ok (str s) (by rw [hsz]; omega) v (by rw [hl]; exact ha) w)
    have HW := Lib.hid hw
    clear hw ha hl
    go_enter Tryd.func25, Tryd.ntmps25
    go_wp2_with fail
    refine HC.out.mono ?_
    rintro e w1 ⟨rfl, hb⟩
    have hE : Ext w w1 := by
      rcases hb with rfl | ⟨t, rfl⟩
      · exact Ext.refl _
      · exact ext_bytesW _ _ _
    have HE := Lib.hid hE
    clear hb HC hE
    go_wp2_with fail
    refine (idMay_any v w1).mono ?_
    rintro e w2 ⟨rfl, rfl⟩
    cases hm : mayB v with
    | false =>
      have HY := Lib.hid (show numV s = -1 from numV_none (by rw [HX.out, hm]; simp))
      clear hm
      go_wp2
      go_ret
      exact ⟨by rw [HY.out]; rfl, HE.out⟩
    | true =>
      have hv := Lib.hid (i64_may hm)
      have HW1 := Lib.hid (HW.out.ext HE.out)
      have HX := Lib.hid (show numI s = if Lib.itoa v = s then some v else none by rw [HX.out, hm]; simp)
      clear hm
      go_wp2_with fail
      refine (itoa_any hv.out HW1.out).mono ?_
      rintro e w3 ⟨rfl, hE3⟩
      have HE3 := Lib.hid (HE.out.trans hE3)
      clear hE3
      have es : ((str (Lib.itoa v)).toList == (str s).toList) = decide (Lib.itoa v = s) := str_beq _ _
      by_cases hc : Lib.itoa v = s
      · have HY := Lib.hid (show numV s = v from numV_some (by rw [HX.out, if_pos hc]))
        have f0 : ((str (Lib.itoa v)).toList == (str s).toList) = true := by rw [es]; simpa using hc
        clear es hc
        go_wp2
        go_ret
        exact ⟨by rw [HY.out]; rfl, HE3.out⟩
      · have HY := Lib.hid (show numV s = -1 from numV_none (by rw [HX.out, if_neg hc]))
        have f0 : ((str (Lib.itoa v)).toList == (str s).toList) = false := by rw [es]; simpa using hc
        clear es hc
        go_wp2
        go_ret
        exact ⟨by rw [HY.out]; rfl, HE3.out⟩
  | _ =>
    have HY := Lib.hid (show numV s = -1 from numV_none (by unfold numI; rw [ha]))
    obtain ⟨ev, h1, h2⟩ := hw.sx
    have HC := Lib.hid (Tryd.strconv_Atoi_syntax (str s) (by rw [hsz]; omega) (by rw [hl, ha]; intro v h; cases h) (by rw [hl, ha]; intro h; cases h) ev w h1 h2)
    clear hw ha h1 h2 hl
    go_enter Tryd.func25, Tryd.ntmps25
    go_wp2_with fail
    refine HC.out.mono ?_
    rintro e w1 ⟨N, rfl, -, -, hb⟩
    have HE := Lib.hid (show Ext w w1 from hb)
    clear hb HC
    go_wp2
    go_ret
    exact ⟨by rw [HY.out]; rfl, HE.out⟩
theorem extract_strI (s : List UInt8) (a b : Nat) : (str s).extract a b = str ((s.take b).drop a) := by
  unfold str
  rw [ByteArray.extract_mk]
  congr 1
  apply Array.toList_inj.1
  simp [List.drop_take]
/-- The index of a byte. -/
theorem idxByte_at (a r : List UInt8) (c : UInt8) (h : ∀ d, d ∈ a → d ≠ c) : Lib.indexByte (a ++ c :: r) c = (a.length : Int) := by rw [← Lib.index_one]; exact Fm.index_one a r c h
theorem idxByte_no (a : List UInt8) (c : UInt8) (h : ∀ d, d ∈ a → d ≠ c) : Lib.indexByte a c = -1 := by rw [← Lib.index_one]; exact index_none a c h
set_option maxHeartbeats 1000000 in
theorem slCut_at (a r : List UInt8) (c : UInt8) (h : ∀ d, d ∈ a → d ≠ c) (hl : (a ++ c :: r).length ≤ 1000000) (w : World) :
    Calls Tryd.prog 66 #[.string (str (a ++ c :: r)), .string (str [c])] w fun e w' => e = .returned (.tuple #[.string (str a), .string (str r), .bool true]) ∧ Ext w w' := by
  have hI := Lib.hid (Tryd.stringslite_Index_one (str (a ++ c :: r)) c w)
  have hsz := str_size (a ++ c :: r)
  have hsc : (str [c]).size = 1 := str_size [c]
  have hi := idxByte_at a r c h
  rw [str_list] at hI
  rw [hi] at hI
  have e1 : (str (a ++ c :: r)).extract 0 a.length = str a := by rw [extract_strI, List.drop_zero, List.take_left' rfl]
  have e2 : (str (a ++ c :: r)).extract (a.length + 1) (str (a ++ c :: r)).size = str r := by rw [hsz, extract_strI, List.take_length, show a ++ c :: r = (a ++ [c]) ++ r by simp]; exact congrArg str (List.drop_left' (by simp))
  have hal : a.length + 1 ≤ (a ++ c :: r).length := by simp
  have E1 := Lib.hid e1
  have E2 := Lib.hid e2
  clear hi h e1 e2
  rw [hsz] at E2
  generalize (a ++ c :: r).length = N at *
  generalize str (a ++ c :: r) = S at *
  go_enter Tryd.func66, Tryd.ntmps66
  go_wp2_with fail
  refine hI.out.mono ?_
  rintro e w1 ⟨rfl, rfl⟩
  have hw : IntKind.i64.wrap ((a.length : Int) + 1) = (a.length : Int) + 1 := IntWalk.i64_in _ (by omega)
  have h0 : (0 : Int) ≤ (a.length : Int) + 1 := by omega
  have ht : ((a.length : Int) + 1).toNat = a.length + 1 := by omega
  go_wp2_with fail
  go_quiet (fail)
  go_wp2
  go_ret3
  exact ⟨by rw [← E1.out, ← E2.out]; rfl, (Ext.refl _).drewN nq⟩
set_option maxHeartbeats 1000000 in
theorem slCut_no (a : List UInt8) (c : UInt8) (h : ∀ d, d ∈ a → d ≠ c) (w : World) :
    Calls Tryd.prog 66 #[.string (str a), .string (str [c])] w fun e w' => e = .returned (.tuple #[.string (str a), .string (str []), .bool false]) ∧ Ext w w' := by
  have hI := Lib.hid (Tryd.stringslite_Index_one (str a) c w)
  have hi := idxByte_no a c h
  rw [str_list] at hI
  rw [hi] at hI
  clear hi h
  go_enter Tryd.func66, Tryd.ntmps66
  go_wp2_with fail
  refine hI.out.mono ?_
  rintro e w1 ⟨rfl, rfl⟩
  go_wp2
  go_ret3
  exact ⟨rfl, Ext.refl _⟩
/-- strings.Cut at one byte. -/
def CutPost (s : List UInt8) (c : UInt8) (w : World) (e : Ending) (w' : World) : Prop := e = .returned (.tuple #[.string (str (Lib.cut s [c]).1), .string (str (Lib.cut s [c]).2.1), .bool (Lib.cut s [c]).2.2]) ∧ Ext w w'
theorem slCut_any (s : List UInt8) (c : UInt8) (hs : s.length ≤ 1000000) (w : World) :
    Calls Tryd.prog 66 #[.string (str s), .string (str [c])] w (CutPost s c w) := by
  by_cases h : c ∈ s
  · obtain ⟨a, r, rfl, hk⟩ := first_of c s h
    refine (slCut_at a r c hk hs w).mono ?_
    rintro e w' ⟨h1, h2⟩
    unfold CutPost
    rw [cut_at a r c hk]
    exact ⟨h1, h2⟩
  · refine (slCut_no s c (fun d hd e => h (e ▸ hd)) w).mono ?_
    rintro e w' ⟨h1, h2⟩
    unfold CutPost
    rw [cut_no s c (fun d hd e => h (e ▸ hd))]
    exact ⟨h1, h2⟩
set_option maxHeartbeats 1000000 in
theorem cut_any (s : List UInt8) (c : UInt8) (hs : s.length ≤ 1000000) (w : World) :
    Calls Tryd.prog 48 #[.string (str s), .string (str [c])] w (CutPost s c w) := by
  have HC := Lib.hid (slCut_any s c hs w)
  go_enter Tryd.func48, Tryd.ntmps48
  go_wp2_with fail
  refine HC.out.mono ?_
  rintro e w1 ⟨rfl, hE⟩
  have HE := Lib.hid hE
  clear hE
  go_wp2
  go_ret3
  exact ⟨rfl, HE.out⟩
end Go.Proofs.YtpcgpcjleedilaaDoor

open Go.RowKit Go.Shelf
namespace Go.Proofs.YtpcgpcjleedilaaDoor
open Go Go.Proofs Fm

set_option maxHeartbeats 1000000 in
theorem fplace_any (l : List Nd) (i : Int) (w : World) (v : Value) (h : ndE.Row w l v) :
    Calls Tryd.prog 39 #[v, .int .i64 i] w fun e w' => e = .returned (.bool (placeF l i)) ∧ w = w' := by
  obtain ⟨a, c, rfl, hc1, hc2⟩ := h.slice
  have HX := Lib.hid (show placeF l i = (decide (0 ≤ i) && decide (i < l.length)) from rfl)
  clear h
  by_cases h0 : 0 ≤ i
  · go_enter Tryd.func39, Tryd.ntmps39
    go_wp2
    go_ret
    exact ⟨by rw [HX.out]; simp [h0], rfl⟩
  · go_enter Tryd.func39, Tryd.ntmps39
    go_wp2
    go_ret
    exact ⟨by rw [HX.out]; simp; omega, rfl⟩
theorem u8_one {k : UInt8} (c : UInt8) : ((k.toNat : Int) == (c.toNat : Int)) = decide (k = c) := by
  rw [Bool.eq_iff_iff, beq_iff_eq, decide_eq_true_iff]
  constructor
  · intro h; exact UInt8.toNat_inj.1 (by exact_mod_cast h)
  · intro h; rw [h]
set_option maxRecDepth 100000 in
set_option maxHeartbeats 2000000 in
theorem fmaps_any (n : Nd) (w : World) (v : Value) (h : NdV w n v) :
    Calls Tryd.prog 56 #[v] w fun e w' => e = .returned (.bool (mapsF n)) ∧ Ext w w' := by
  obtain ⟨a, m, c, k, N, s, l, rfl, hr, hl, hb⟩ := h
  obtain ⟨a', c', e, hc1, hc2⟩ := hr.slice
  injection e with e1 e2 e3
  subst e1 e2 e3
  have HX := Lib.hid (show mapsF n = (decide (n.kind = 1) && decide (n.after ≠ [])) from rfl)
  have hk := u8_one (k := n.kind) 1
  rw [show (((1 : UInt8).toNat : Nat) : Int) = 1 from rfl] at hk
  have HB := Lib.hid (BoxL.new w (ndCells n (.slice a n.after.length c) k N s l) 54)
  have HE := Lib.hid ((Ext.refl w).alloc (.cells (ndCells n (.slice a n.after.length c) k N s l).toArray 54))
  clear hr hl hb
  unfold ndCells at HB HE ⊢
  generalize (n.kind.toNat : Int) = K at *
  go_enter Tryd.func56, Tryd.ntmps56
  go_upto_region 1 with (fail)
  generalize w.alloc _ = W1 at *
  have p2 := HB.out.cell 2 _ rfl
  have p6 := HB.out.cell 6 _ rfl
  by_cases h1 : n.kind = 1
  · have f1 : (K == 1) = true := by rw [hk]; simpa using h1
    have HY := Lib.hid (show mapsF n = decide (0 < n.after.length) by
      rw [HX.out, h1]
      cases n.after <;> simp)
    clear hk h1 HB HX
    go_wp2
    go_ret
    exact ⟨by rw [HY.out]; rfl, HE.out⟩
  · have f1 : (K == 1) = false := by rw [hk]; simpa using h1
    have HY := Lib.hid (show mapsF n = false by rw [HX.out]; simp [h1])
    clear hk h1 HB HX
    go_wp2
    go_ret
    exact ⟨by rw [HY.out]; rfl, HE.out⟩
set_option maxRecDepth 100000 in
set_option maxHeartbeats 2000000 in
theorem fanFits_any (t : Tr) (width : Int) (w : World) (v : Value) (h : Lies w t v) :
    Calls Tryd.prog 58 #[v, .int .i64 width] w fun e w' => e = .returned (.int .i64 (fitsF t width)) ∧ Ext w w' := by
  obtain ⟨kk, nn, ss, l⟩ := t
  obtain ⟨d, rfl, hn, hs, hl⟩ := h.parts
  obtain ⟨a, cap, rfl, hc1, hc2, -⟩ := hl
  have HX := Lib.hid (show fitsF (.node kk nn ss l) width = if kk ≠ 2 then 26 else if width < (l.length : Nat) then 24 else 0 from rfl)
  have hk := u8_one (k := kk) 2
  rw [show (((2 : UInt8).toNat : Nat) : Int) = 2 from rfl] at hk
  have HB := Lib.hid (BoxL.new w [.int .u8 (kk.toNat : Int), .int .i64 nn, .string (str ss), .slice a l.length cap] 46)
  have HE := Lib.hid ((Ext.refl w).alloc (.cells #[.int .u8 (kk.toNat : Int), .int .i64 nn, .string (str ss), .slice a l.length cap] 46))
  clear h hn hs
  generalize (kk.toNat : Int) = K at *
  go_enter Tryd.func58, Tryd.ntmps58
  go_upto_region 1 with (fail)
  generalize w.alloc _ = W1 at *
  have p0 := HB.out.cell 0 _ rfl
  have p3 := HB.out.cell 3 _ rfl
  by_cases h1 : kk = 2
  · have f1 : (K == 2) = true := by rw [hk]; simpa using h1
    have f2 : (K != 2) = false := by rw [bne, f1]; rfl
    have HY := Lib.hid (show fitsF (.node kk nn ss l) width = if width < (l.length : Nat) then 24 else 0 by rw [HX.out, if_neg (by simp [h1])])
    clear hk h1 HB HX
    by_cases h2 : width < (l.length : Int)
    · have HZ := Lib.hid (show fitsF (.node kk nn ss l) width = 24 by rw [HY.out, if_pos h2])
      clear HY
      go_wp2
      go_ret
      exact ⟨by rw [HZ.out]; rfl, HE.out⟩
    · have HZ := Lib.hid (show fitsF (.node kk nn ss l) width = 0 by rw [HY.out, if_neg h2])
      clear HY
      go_wp2
      go_ret
      exact ⟨by rw [HZ.out]; rfl, HE.out⟩
  · have f1 : (K == 2) = false := by rw [hk]; simpa using h1
    have f2 : (K != 2) = true := by rw [bne, f1]; rfl
    have HY := Lib.hid (show fitsF (.node kk nn ss l) width = 26 by rw [HX.out, if_pos h1])
    clear hk h1 HB HX
    go_wp2
    go_ret
    exact ⟨by rw [HY.out]; rfl, HE.out⟩
end Go.Proofs.YtpcgpcjleedilaaDoor

open Go.RowKit Go.Shelf
namespace Go.Proofs.YtpcgpcjleedilaaDoor
open Go Go.Proofs Fm

/-- What Copy comes to. -/
def CopyPost (w : World) (t : Tr) (e : Ending) (w' : World) : Prop := ∃ v, e = .returned v ∧ Ext w w' ∧ OwnT 46 w' w.heap.size t v
theorem CopyPost.two {w : World} {k : UInt8} {n : Int} {s : List UInt8} {l : List Tr} {e : Ending} {w' : World} (h : CopyPost w (.node k n s l) e w') :
    ∃ (a4 : Option Addr) (n4 c4 : Nat), e = .returned (.agg #[.int .u8 (k.toNat : Int), .int .i64 n, .string (str s), .slice a4 n4 c4]) ∧ Ext w w' ∧
      OwnT 46 w' w.heap.size (.node k n s l) (.agg #[.int .u8 (k.toNat : Int), .int .i64 n, .string (str s), .slice a4 n4 c4]) := by
  obtain ⟨v, he, h1, F, h3⟩ := h
  obtain ⟨d, rfl, _, _, h4⟩ := h3.parts
  obtain ⟨a, c, rfl⟩ := h4.slice
  exact ⟨a, _, c, he, h1, F, h3⟩

set_option maxRecDepth 100000 in
set_option maxHeartbeats 4000000 in
theorem copy_any (t : Tr) : ∀ (w : World) (v : Value), Lies w t v → partsT t ≤ 1000000 → Calls Tryd.prog 41 #[v] w (CopyPost w t) := by
  induction t using Tr.ind with
  | h k n s l ih =>
  intro w v hv hp
  have IH := Lib.hid ih
  obtain ⟨d, rfl, hn, hs, hl⟩ := hv.parts
  have ⟨a, cap, hd, h1, h2, h3, C, h4, h5⟩ := hl
  subst hd
  rw [partsT_node] at hp
  have hll : l.length ≤ 1000000 := by have := partsL_len l; omega
  have H4 := Lib.hid h4; have H5 := Lib.hid h5
  have HN := Lib.hid hn; have HS := Lib.hid hs
  clear h1 h2 h3 h4 h5 hl hn hv hs ih
  generalize hK : (k.toNat : Int) = K at *
  have HK := Lib.hid hK
  clear hK
  go_enter Tryd.func41, Tryd.ntmps41
  go_wp2_with fail
  have hE0 : Ext w ((w.alloc (.cells #[.int .u8 K, .int .i64 n, .string (str s), .slice none 0 0] 46)).alloc (.cells #[.int .u8 0, .int .i64 0, .string { data := #[] }, .slice none 0 0] 46)) := ((Ext.refl w).alloc _).alloc _
  have hz0 : ((w.alloc (.cells #[.int .u8 K, .int .i64 n, .string (str s), .slice none 0 0] 46)).alloc (.cells #[.int .u8 0, .int .i64 0, .string { data := #[] }, .slice none 0 0] 46)).heap.size = w.heap.size + 2 := by simp
  have hb0 : Box4 ((w.alloc (.cells #[.int .u8 K, .int .i64 n, .string (str s), .slice none 0 0] 46)).alloc (.cells #[.int .u8 0, .int .i64 0, .string { data := #[] }, .slice none 0 0] 46)) w.heap.size (.int .u8 K) (.int .i64 n) (.string (str s)) (.slice none 0 0) := (Box4.new w _ _ _ _).ext ((Ext.refl _).alloc _)
  have hB0 : Box4 ((w.alloc (.cells #[.int .u8 K, .int .i64 n, .string (str s), .slice none 0 0] 46)).alloc (.cells #[.int .u8 0, .int .i64 0, .string { data := #[] }, .slice none 0 0] 46)) (w.heap.size + 1) (.int .u8 0) (.int .i64 0) (.string { data := #[] }) (.slice none 0 0) := by
    have := Box4.new (w.alloc (.cells #[.int .u8 K, .int .i64 n, .string (str s), .slice none 0 0] 46)) (.int .u8 0) (.int .i64 0) (.string { data := #[] }) (.slice none 0 0)
    rw [show (w.alloc (.cells #[.int .u8 K, .int .i64 n, .string (str s), .slice none 0 0] 46)).heap.size = w.heap.size + 1 by simp] at this
    exact this
  generalize (w.alloc (.cells #[.int .u8 K, .int .i64 n, .string (str s), .slice none 0 0] 46)).alloc (.cells #[.int .u8 0, .int .i64 0, .string { data := #[] }, .slice none 0 0] 46) = W at *
  go_loopw [11] (fun i wr => ∃ (j : Nat) (d : Value), j ≤ l.length ∧ i = .int .i64 j ∧ Ext w wr ∧ Box4 wr w.heap.size (.int .u8 K) (.int .i64 n) (.string (str s)) d ∧ Box4 wr (w.heap.size + 1) (.int .u8 0) (.int .i64 0) (.string { data := #[] }) (.slice none 0 0) ∧
    Hid (OwnL 46 wr (w.heap.size + 2) (l.take j) d) ∧ w.heap.size + 2 ≤ wr.heap.size) (fun i _ => l.length - (intOf i).toNat)
  case atStart => exact ⟨0, _, by omega, rfl, hE0, hb0, hB0, Lib.hid (by rw [List.take_zero]; exact OwnL.nil _ _ _), by omega⟩
  case round =>
    obtain ⟨j, d, hj, rfl, hE, hb, hB, HO, hbr⟩ := hrel
    clear hE0 hb0 hB0 hz0
    have hlt0 := hb.lt
    obtain ⟨ad, cd, rfl⟩ : ∃ a cap, d = .slice a j cap := by
      obtain ⟨F, h⟩ := HO.out
      obtain ⟨a, c, h⟩ := h.slice
      rw [List.length_take, Nat.min_eq_left hj] at h
      exact ⟨a, c, h⟩
    by_cases hlt : j < l.length
    · obtain ⟨b, off, rfl, hbb, hc⟩ := H4.out (by omega)
      obtain ⟨k0, n0, s0, a0, m0, c0, e0, e1, e2, e3, hx⟩ := elem4 hE hbb hc H5.out j hlt
      obtain ⟨b0, b1, b2, b3⟩ := hb.cells
      obtain ⟨z0, z1, z2, z3⟩ := hb.frozen
      have hpj : partsT l[j] ≤ 1000000 := by
        have h1 := partsL_at l j hlt
        have h2 := partsL_take_le l (j + 1)
        omega
      obtain ⟨xsr, hrow⟩ := HO.out.row
      have hrow0 : wr.ownsRow (w.heap.size + 2) 46 4 (.slice ad j cd) j xsr := by
        rw [List.length_take, Nat.min_eq_left hj] at hrow; exact hrow
      have hRo : ∀ k, (Value.slice ad j cd).ownBlock = some k → w.heap.size + 2 ≤ k := fun k hk => (hrow0.lt k hk).1
      have HRow := Lib.hid hrow0
      have HRo := Lib.hid hRo
      obtain ⟨i0, hi0, hz0, hz1, hz2⟩ := info_parts info_val
      have HL1 : Hid (j + 1 ≤ maxLen) := Lib.hid (by unfold maxLen; omega)
      obtain ⟨tt, htt⟩ : ∃ tt, tt = l[j] := ⟨_, rfl⟩
      have HTK : Hid (l.take j ++ [tt] = l.take (j + 1)) := Lib.hid (by rw [htt, List.take_add_one, List.getElem?_eq_getElem hlt]; rfl)
      have hm : tt ∈ l := by rw [htt]; exact List.getElem_mem hlt
      rw [← htt] at hx hpj
      clear htt
      have IHj := Lib.hid (IH.out tt hm)
      clear hm
      obtain ⟨kt, nt, st, lt⟩ := tt
      have IH2 : Hid (∀ wx, Ext wr wx → Calls Tryd.prog 41 #[.agg #[.int .u8 k0, .int .i64 n0, .string s0, .slice a0 m0 c0]] wx (fun e w' =>
          ∃ (a4 : Option Addr) (n4 c4 : Nat), e = .returned (.agg #[.int .u8 (kt.toNat : Int), .int .i64 nt, .string (str st), .slice a4 n4 c4]) ∧ Ext wx w' ∧
            OwnT 46 w' wx.heap.size (.node kt nt st lt) (.agg #[.int .u8 (kt.toNat : Int), .int .i64 nt, .string (str st), .slice a4 n4 c4]))) :=
        Lib.hid (fun wx hE => (IHj.out wx _ (hx.ext hE) hpj).mono (fun e w' h => CopyPost.two h))
      have hXE : Hid (∀ o : Obj, Ext wr (wr.alloc o)) := Lib.hid (fun o => (Ext.refl wr).alloc o)
      have hzW : ∀ o : Obj, (wr.alloc o).heap.size = wr.heap.size + 1 := fun o => by simp
      have HZW := Lib.hid hzW
      clear hrow hrow0 hRo hx hc hzW
      go_wp2_with fail
      go_region_law (first
        | (refine step_append_lies _ (by rfl) _ _ _ (by rfl) (w.heap.size + 2) 46 i0 _ 4 56 Tryd.underlying44 hi0 hz0 hz1 hz2 rfl (by omega) (.slice ad j cd) j xsr (by rfl) HR6.out ⟨w4.heap.size, 0, none⟩ 1 1 [.int .u8 (kt.toNat : Int), .int .i64 nt, .string (str st), .slice a4 n4 c4] (by rfl) (by rfl) (World.news_of_block (cs := #[.int .u8 (kt.toNat : Int), .int .i64 nt, .string (str st), .slice a4 n4 c4]) (t := 46) (fr := (0, 0)) (heap_alloc_new w4 _)) (by simp [Value.oneCell']) (by omega) HL1.out (by omega) (by simp; omega) (w4.heap.size + 1) (by simp) ?_
           intro gg cap6 w6 hown6 hgrow6 hat6 hlt6
           have S6 := (hgrow6.cell_far ⟨w.heap.size, 3, none⟩ (by simp; omega) (fun e => by have := HRo.out _ e.symm; simp at this; omega)).trans ((((Ext.refl w4).alloc _).cell (p := ⟨w.heap.size, 3, none⟩) hV4).trans S4)
           have S6' := (hgrow6.frozen_far ⟨w.heap.size, 3, none⟩ (by simp; omega) (fun e => by have := HRo.out _ e.symm; simp at this; omega)).trans ((((Ext.refl w4).alloc _).frozen (p := ⟨w.heap.size, 3, none⟩) hV4).trans S4'))
        | (go_simp
           go_at_call 41
           refine (IH2.out _ ?_).mono ?_
           · exact (hXE.out _).drew
           rintro e w4 ⟨a4, n4, c4, rfl, hE4', ho4⟩
           have hE4 := ((hXE.out (.cells #[.int .u8 k0, .int .i64 n0, .string s0, .slice a0 m0 c0] 46)).drew).trans hE4'
           have hV4 : w.heap.size < w4.heap.size := Nat.lt_of_lt_of_le hlt0 hE4.size
           have S4 := (hE4.cell (p := ⟨w.heap.size, 3, none⟩) hlt0).trans b3
           have S4' := (hE4.frozen (p := ⟨w.heap.size, 3, none⟩) hlt0).trans z3
           have hbr4 := hE4.size
           have HR6 : Hid ((w4.alloc (.cells #[.int .u8 (kt.toNat : Int), .int .i64 nt, .string (str st), .slice a4 n4 c4] 46)).ownsRow (w.heap.size + 2) 46 4 (.slice ad j cd) j xsr) := Lib.hid ((hE4.own HRow.out).alloc _)
           have HO4 := Lib.hid ho4
           clear ho4 hE4'))
      all_goals
        obtain ⟨y1, y2, y3, y4, y5⟩ := list_step2 (V := w.heap.size) (Pb := w.heap.size + 1) (base := w.heap.size + 2) (by omega) (by omega) (by omega) (Nat.le_refl _) hE hb hB (by rw [List.length_take]; omega) HO.out hbr hE4
          (by have := HZW.out (.cells #[.int .u8 k0, .int .i64 n0, .string s0, .slice a0 m0 c0] 46); show wr.heap.size ≤ (wr.alloc (.cells #[.int .u8 k0, .int .i64 n0, .string s0, .slice a0 m0 c0] 46)).heap.size; omega) HO4.out HR6.out hown6 hgrow6 hat6
        have Y4 : Hid (OwnL 46 (w6.setCell ⟨w.heap.size, 3, none⟩ (.slice (some ⟨gg, 0, none⟩) (j + 1) cap6)) (w.heap.size + 2) (l.take (j + 1)) (.slice (some ⟨gg, 0, none⟩) (j + 1) cap6)) := Lib.hid (by rw [← HTK.out]; exact y4)
        have Y5 : w.heap.size + 2 ≤ (w6.setCell ⟨w.heap.size, 3, none⟩ (.slice (some ⟨gg, 0, none⟩) (j + 1) cap6)).heap.size := by omega
        clear y4 y5 S6 S6' S4 S4' HR6 HO4 hown6 hgrow6 hat6 hlt6 hV4 hE4 hbr4 HRow HRo HO IH2 IHj b0 b1 b2 b3 z0 z1 z2 z3 hb hB hE e0 e1 e2 e3 hXE HZW HTK
        go_wp2
        go_roundw
        case rel => exact ⟨j + 1, _, by omega, by go_num, y1, y2, y3, Y4, Y5⟩
        case measure => simp [intOf]; omega
    · obtain rfl : j = l.length := by omega
      obtain ⟨d0, d1, d2, d3⟩ := hb.cells
      obtain ⟨e0, e1, e2, e3⟩ := hb.frozen
      obtain ⟨p0, p1, p2, p3⟩ := hB.cells
      obtain ⟨q0, q1, q2, q3⟩ := hB.frozen
      have HE := Lib.hid hE
      have HBB := Lib.hid hB
      clear hb hB hE H4
      go_wp2
      change bodyPost _ _ _ _ _ (set4W wr (w.heap.size + 1) (.int .u8 K) (.int .i64 n) (.string (str s)) (.slice ad l.length cd))
      obtain ⟨hE2, hb2, hg2⟩ := set4_facts (k := .int .u8 K) (n := .int .i64 n) (s := .string (str s)) (d := .slice ad l.length cd) HE.out HBB.out (by omega)
      have hO2 := HO.out.grown hg2 (fun b hb => by injection hb with hb; omega)
      generalize set4W wr (w.heap.size + 1) (.int .u8 K) (.int .i64 n) (.string (str s)) (.slice ad l.length cd) = W3 at *
      obtain ⟨y0, y1, y2, y3⟩ := hb2.cells
      refine bodyPost_ret (v := .agg #[.int .u8 K, .int .i64 n, .string (str s), .slice ad l.length cd]) (by simp [results, Tryd.results41, go_sem, y0, y1, y2, y3]) rfl ?_
      rw [List.take_length] at hO2
      have hO3 := (OwnT.mk (k := k) HN.out HS.out hO2).mono (show w.heap.size ≤ w.heap.size + 2 by omega)
      rw [HK.out] at hO3
      exact ⟨_, rfl, hE2, hO3⟩
end Go.Proofs.YtpcgpcjleedilaaDoor

open Go.RowKit Go.Shelf
namespace Go.Proofs.YtpcgpcjleedilaaDoor
open Go Go.Proofs Fm

/-- What copies comes to. -/
def CopiesPost (w : World) (l : List Tr) (e : Ending) (w' : World) : Prop := ∃ d, e = .returned d ∧ Ext w w' ∧ OwnL 46 w' w.heap.size l d
set_option maxRecDepth 100000 in
set_option maxHeartbeats 2000000 in
theorem fcopies_any (l : List Tr) (hp : partsT (listV l) ≤ 1000000) (w : World) (d : Value) (h : LiesS w l d) :
    Calls Tryd.prog 59 #[d] w (CopiesPost w l) := by
  have hL : Lies w (listV l) (.agg #[.int .u8 (2 : UInt8).toNat, .int .i64 0, .string (str []), d]) := Lies.mk (by unfold isI64; omega) (by simp) h
  have HC := Lib.hid (copy_any (listV l) w _ hL hp)
  obtain ⟨a, cap, rfl, -⟩ := h
  clear hL hp
  go_enter Tryd.func59, Tryd.ntmps59
  go_wp2_with fail
  refine HC.out.mono ?_
  intro e w1 hc
  obtain ⟨a4, n4, c4, rfl, hE, F, hO⟩ := CopyPost.two hc
  have HO := Lib.hid hO
  have HE := Lib.hid hE
  have hfd : (Instr.field 46 (.agg #[.int .u8 2, .int .i64 0, .string (str []), .slice a4 n4 c4]) 3).run Tryd.prog w1 = .ok (.slice a4 n4 c4) w1 := by
    simp [Instr.field, run_underlying Tryd.underlying46, asAgg, part, isAgg, run_underlying Tryd.underlying44]
  clear hc hE hO
  go_wp2
  go_ret
  obtain ⟨d2, e2, -, -, h4⟩ := HO.out.parts
  refine ⟨_, rfl, HE.out, F, ?_⟩
  injection e2 with e2
  simp at e2
  rw [← e2] at h4
  exact h4
/-- What List comes to. -/
def ListPost (w : World) (l : List Nd) (m : Int) (e : Ending) (w' : World) : Prop := ∃ d, e = .returned (.tuple #[d, .int .i64 (listF l m).2]) ∧ Ext w w' ∧ OwnL 46 w' w.heap.size (listF l m).1 d
theorem list_fin {w w' : World} {l : List Nd} {m : Int} {r : List Tr} {fv : Int} {d : Value} (h : listF l m = (r, fv)) (hE : Ext w w') (hO : OwnL 46 w' w.heap.size r d) : ListPost w l m (.returned (.tuple #[d, .int .i64 fv])) w' := by
  unfold ListPost
  rw [h]
  exact ⟨d, rfl, hE, hO⟩
theorem ownL_mono {e : TypeId} {w : World} {base base' : Nat} {l : List Tr} {d : Value} (h : OwnL e w base l d) (hb : base' ≤ base) : OwnL e w base' l d := by
  obtain ⟨F, h2⟩ := (OwnT.mk (k := 2) (n := 0) (s := []) (by unfold isI64; omega) (by simp) h).mono hb
  obtain ⟨d2, e2, -, -, h4⟩ := h2.parts
  injection e2 with e2
  simp at e2
  rw [e2]
  exact ⟨F, h4⟩
theorem place_iff {l : List Nd} {m : Int} : placeF l m = true ↔ 0 ≤ m ∧ m < l.length := by unfold placeF; simp
theorem nth_at {l : List Nd} {i : Nat} (h : i < l.length) : nthF l (i : Int) = l[i] := by unfold nthF; simp [h]
theorem kids_parts (t : Tr) : partsT (listV (kidsV t)) = partsT t := by
  obtain ⟨k, n, s, l⟩ := t
  unfold listV kidsV
  rw [partsT_node, partsT_node]
theorem head_at {l : List Int} (h : 0 < l.length) : l.headD 0 = l[0] := by
  cases l with
  | nil => cases h
  | cons _ _ => rfl
theorem nd_parts {w : World} {n : Nd} {a : Option Addr} {m c : Nat} {k N s l : Value} (h : NdV w n (.agg (ndCells n (.slice a m c) k N s l).toArray)) : intE.Row w n.after (.slice a m c) ∧ Lies w n.val (.agg #[k, N, s, l]) ∧ isI64 n.width := by
  obtain ⟨a', m', c', k', N', s', l', h1, h2, h3, h4⟩ := h
  simp only [ndCells] at h1
  injection h1 with h1
  simp at h1
  obtain ⟨⟨rfl, rfl, rfl⟩, rfl, rfl, rfl, rfl⟩ := h1
  exact ⟨h2, h3, h4.2.2.2.2.2.1⟩
set_option maxRecDepth 100000 in
set_option maxHeartbeats 4000000 in
theorem flist_any (l : List Nd) (m : Int) (hp : ∀ x, x ∈ l → partsT x.val ≤ 1000000) (w : World) (v : Value) (h : ndE.Row w l v) :
    Calls Tryd.prog 44 #[v, .int .i64 m] w (ListPost w l m) := by
  have HX := Lib.hid (show listF l m = if placeF l m && mapsF (nthF l m) && placeF l ((nthF l m).after.headD 0) then
    if fitsF (nthF l ((nthF l m).after.headD 0)).val (nthF l m).width = 0 then (kidsV (nthF l ((nthF l m).after.headD 0)).val, 0)
    else ([], fitsF (nthF l ((nthF l m).after.headD 0)).val (nthF l m).width)
  else ([], 2) from rfl)
  have HP := Lib.hid hp
  have HR := Lib.hid h
  obtain ⟨a, c, rfl, hc1, hc2⟩ := h.slice
  clear hp h
  have bad : ∀ w', Ext w w' → listF l m = ([], 2) → ListPost w l m (.returned (.tuple #[.slice none 0 0, .int .i64 2])) w' := fun w' hE e => by
    unfold ListPost
    rw [e]
    exact ⟨_, rfl, hE, OwnL.nil _ _ _⟩
  have BAD := Lib.hid bad
  clear bad
  cases hpl : placeF l m with
  | false =>
    have HY := Lib.hid (show listF l m = ([], 2) by rw [HX.out, hpl]; rfl)
    have HC := Lib.hid (fplace_any l m w _ HR.out)
    rw [hpl] at HC
    clear HX hpl
    go_enter Tryd.func44, Tryd.ntmps44
    go_wp2_with fail
    refine HC.out.mono ?_
    rintro e w1 ⟨rfl, rfl⟩
    go_wp2
    go_ret2
    exact BAD.out _ (Ext.refl _) HY.out
  | true =>
    obtain ⟨hm0, hm1⟩ := place_iff.1 hpl
    obtain ⟨i, rfl⟩ : ∃ i : Nat, m = (i : Int) := ⟨m.toNat, by omega⟩
    have hi : i < l.length := by omega
    have HC := Lib.hid (fplace_any l i w _ HR.out)
    rw [hpl] at HC
    have HX := Lib.hid (show listF l i = if mapsF l[i] && placeF l (l[i].after.headD 0) then
      if fitsF (nthF l (l[i].after.headD 0)).val l[i].width = 0 then (kidsV (nthF l (l[i].after.headD 0)).val, 0)
      else ([], fitsF (nthF l (l[i].after.headD 0)).val l[i].width)
      else ([], 2) by rw [HX.out, hpl, nth_at hi]; simp)
    obtain ⟨b, off, rfl, hb, aa, ma, ca, k, N, s, d, ⟨c0, x1, x2, c3, c4, c5, c6, c7, c8, c9, c10, c11, c12, c13, c14, c15⟩, hnv⟩ := nd_at16 HR.out (Ext.refl w) i hi
    have HNV := Lib.hid hnv
    clear hpl hm0 hm1 hnv
    go_enter Tryd.func44, Tryd.ntmps44
    go_wp2_with fail
    refine HC.out.mono ?_
    rintro e w1 ⟨rfl, rfl⟩
    go_wp2_with fail
    refine (fmaps_any l[i] w _ HNV.out).mono ?_
    rintro e w2 ⟨rfl, hE2⟩
    have HE2 := Lib.hid hE2
    clear hE2
    cases hmp : mapsF l[i] with
    | false =>
      have HY := Lib.hid (show listF l i = ([], 2) by rw [HX.out, hmp]; rfl)
      clear hmp HX
      go_wp2
      go_ret2
      exact BAD.out _ HE2.out HY.out
    | true =>
      have hne : l[i].after ≠ [] := by
        unfold mapsF at hmp
        simp only [Bool.and_eq_true, decide_eq_true_eq] at hmp
        exact hmp.2
      obtain ⟨hrow, -, hwd⟩ := nd_parts HNV.out
      have hal : 0 < l[i].after.length := List.length_pos_iff.2 hne
      obtain ⟨b3, o3, rfl, hb3, k0, hk0⟩ := int_at hrow HE2.out 0 hal
      rw [Nat.add_zero] at k0
      have hml : ma = l[i].after.length := by
        obtain ⟨_, _, e, _⟩ := hrow.slice
        injection e
      have hhd : l[i].after.headD 0 = l[i].after[0] := head_at hal
      have HX := Lib.hid (show listF l i = if placeF l l[i].after[0] then
        if fitsF (nthF l l[i].after[0]).val l[i].width = 0 then (kidsV (nthF l l[i].after[0]).val, 0)
        else ([], fitsF (nthF l l[i].after[0]).val l[i].width)
        else ([], 2) by rw [HX.out, hmp, hhd]; simp)
      have d6 := (HE2.out.cell (p := ⟨b, off + i * 16 + 6, none⟩) hb).trans c6
      have d7 := (HE2.out.cell (p := ⟨b, off + i * 16 + 7, none⟩) hb).trans c7
      subst hml
      have HWD := Lib.hid hwd
      clear hmp hne hrow hhd hwd c0 x1 x2 c3 c4 c5 c6 c7 c8 c9 c10 c11 c12 c13 c14 c15
      have HC2 := Lib.hid (fplace_any l l[i].after[0] w2 _ (HR.out.ext HE2.out))
      obtain ⟨a0, ha0⟩ : ∃ a0, a0 = l[i].after[0] := ⟨_, rfl⟩
      rw [← ha0] at k0 hk0 HX HC2
      clear ha0
      go_wp2_with fail
      refine HC2.out.mono ?_
      rintro e w3 ⟨rfl, rfl⟩
      cases hpa : placeF l a0 with
      | false =>
        have HY := Lib.hid (show listF l i = ([], 2) by rw [HX.out, hpa]; rfl)
        clear hpa HX
        go_wp2
        go_ret2
        exact BAD.out _ HE2.out HY.out
      | true =>
        obtain ⟨hm0, hm1⟩ := place_iff.1 hpa
        obtain ⟨j, rfl⟩ : ∃ j : Nat, a0 = (j : Int) := ⟨a0.toNat, by omega⟩
        have hj : j < l.length := by omega
        obtain ⟨b', off', e', hb', aa', ma', ca', K', N', S', D', ⟨y0, y1, y2, y3, y4, y5, y6, y7, y8, y9, y10, y11, y12, y13, y14, y15⟩, hnv'⟩ := nd_at16 HR.out HE2.out j hj
        injection e' with e'
        injection e' with e1 e2
        subst e1 e2
        obtain ⟨-, hlv, -⟩ := nd_parts hnv'
        have HX := Lib.hid (show listF l i = if fitsF l[j].val l[i].width = 0 then (kidsV l[j].val, 0) else ([], fitsF l[j].val l[i].width) by rw [HX.out, hpa, nth_at hj]; simp)
        have HPT := Lib.hid (HP.out l[j] (List.getElem_mem hj))
        clear hpa hm0 hm1 y0 y1 y2 y3 y4 y5 y6 y7 y8 y9 y10 y11 hnv' hb' BAD
        generalize l[j].val = tv at *
        generalize l[i].width = wd at *
        obtain ⟨kk, nn, ss, ls⟩ := tv
        have HLV := Lib.hid hlv
        obtain ⟨dd, e, hnn, hss, hls⟩ := hlv.parts
        obtain ⟨av, capv, rfl, hcv1, hcv2, -⟩ := hls
        simp at e
        obtain ⟨rfl, rfl, rfl, rfl⟩ := e
        have hE4 := HE2.out.alloc (.cells #[.int .u8 (kk.toNat : Int), .int .i64 nn, .string (str ss), .slice av ls.length capv] 46)
        have hb4 := BoxL.new w2 [.int .u8 (kk.toNat : Int), .int .i64 nn, .string (str ss), .slice av ls.length capv] 46
        have d7' := (((Ext.refl w2).alloc (.cells #[.int .u8 (kk.toNat : Int), .int .i64 nn, .string (str ss), .slice av ls.length capv] 46)).cell (p := ⟨b, off + i * 16 + 7, none⟩) (Nat.lt_of_lt_of_le hb HE2.out.size)).trans d7
        have HLV4 := Lib.hid (HLV.out.ext hE4)
        have HE4 := Lib.hid hE4
        clear hlv hnn hss HC HC2
        go_upto_region 4 with (fail)
        generalize w2.alloc (.cells #[.int .u8 (kk.toNat : Int), .int .i64 nn, .string (str ss), .slice av ls.length capv] 46) = W4 at *
        generalize w2.heap.size = B4 at *
        have HS : Hid (∀ w', Ext W4 w' → (w'.cell? ⟨B4, 0, none⟩ = some (.int .u8 (kk.toNat : Int)) ∧ w'.cell? ⟨B4, 1, none⟩ = some (.int .i64 nn) ∧ w'.cell? ⟨B4, 2, none⟩ = some (.string (str ss)) ∧ w'.cell? ⟨B4, 3, none⟩ = some (.slice av ls.length capv) ∧ w'.cell? ⟨b, off + i * 16 + 7, none⟩ = some (.int .i64 wd))) := Lib.hid (fun w' hE =>
          ⟨(hb4.ext hE).cell 0 _ rfl, (hb4.ext hE).cell 1 _ rfl, (hb4.ext hE).cell 2 _ rfl, (hb4.ext hE).cell 3 _ rfl, (hE.cell (p := ⟨b, off + i * 16 + 7, none⟩) (Nat.lt_of_lt_of_le hb HE4.out.size)).trans d7'⟩)
        have HFT := Lib.hid (fun w' (hE : Ext W4 w') => fanFits_any (.node kk nn ss ls) wd w' _ (HLV4.out.ext hE))
        have HCP := Lib.hid (fun (hq : partsT (listV ls) ≤ 1000000) w' (hE : Ext W4 w') => fcopies_any ls hq w' (.slice av ls.length capv) (by
          obtain ⟨dd, e, -, -, hls⟩ := (HLV4.out.ext hE).parts
          injection e with e
          simp at e
          rw [e]; exact hls))
        have HD := Lib.hid (Ext.refl W4).drew
        generalize (kk.toNat : Int) = KK at *
        clear hb4 d7' d6 d7 k0 hk0
        go_region_held3 (fun w' => w'.cell? ⟨B4, 0, none⟩ = some (.int .u8 KK) ∧ w'.cell? ⟨B4, 1, none⟩ = some (.int .i64 nn) ∧ w'.cell? ⟨B4, 2, none⟩ = some (.string (str ss)) ∧ w'.cell? ⟨B4, 3, none⟩ = some (.slice av ls.length capv) ∧ w'.cell? ⟨b, off + i * 16 + 7, none⟩ = some (.int .i64 wd))
          (first | exact HS.out _ HD.out | exact HS.out _ E1.out)
          ((
            go_at_call 58
            refine (HFT.out _ HD.out).mono ?_
            rintro e z1 ⟨rfl, hE⟩
            have E1 := Lib.hid (HD.out.trans hE)
            clear hE))
        have HX := Lib.hid (show listF l i = if fitsF (.node kk nn ss ls) wd = 0 then (ls, 0) else ([], fitsF (.node kk nn ss ls) wd) from HX.out)
        have hpt : partsT (listV ls) ≤ 1000000 := by rw [← kids_parts] at HPT; exact HPT.out
        have HCP := Lib.hid (HCP.out hpt)
        clear hpt HS HFT HPT
        generalize fitsF (.node kk nn ss ls) wd = fv at *
        by_cases hfv : fv = 0
        · subst hfv
          have HY := Lib.hid (show listF l i = (ls, 0) by rw [HX.out]; rfl)
          clear HX
          go_wp2_with fail
          refine (HCP.out _ E1.out).mono ?_
          rintro e z2 ⟨d2, rfl, hE, hO⟩
          have HE5 := Lib.hid ((HE4.out.trans E1.out).trans hE)
          have HO := Lib.hid hO
          have hz := (HE4.out.trans E1.out).size
          clear hE hO
          go_wp2
          go_ret2
          exact list_fin HY.out HE5.out (ownL_mono HO.out hz)
        · have HY := Lib.hid (show listF l i = ([], fv) by rw [HX.out, if_neg hfv])
          have hb1 : (fv != 0) = true := by simp [hfv]
          have HE5 := Lib.hid (HE4.out.trans E1.out)
          clear HX hfv HCP
          go_wp2
          go_ret2
          exact list_fin HY.out HE5.out (OwnL.nil _ _ _)
end Go.Proofs.YtpcgpcjleedilaaDoor

open Go.RowKit Go.Shelf
namespace Fm
open Go Go.RowKit
theorem LiesS.take {w : World} {l : List Tr} {a : Option Addr} {n c : Nat} (h : LiesS w l (.slice a n c)) {k : Nat} (hk : k ≤ l.length) : LiesS w (l.take k) (.slice a k c) := by
  obtain ⟨a', cap, e, h1, h2, h3, C, h4, h5⟩ := h
  injection e with e1 e2 e3
  subst e1 e2 e3
  have hl : (l.take k).length = k := by rw [List.length_take]; omega
  refine ⟨a, c, by rw [hl], by omega, h2, h3, C, fun h0 => ?_, fun i hi => ?_⟩
  · obtain ⟨b, off, e, hb, hc⟩ := h4 (by omega)
    exact ⟨b, off, e, hb, fun i j hi hj => hc i j (by omega) hj⟩
  · rw [List.getElem_take]; exact h5 i (by omega)
end Fm
namespace Go.Proofs.YtpcgpcjleedilaaDoor
open Go Go.Proofs Fm

set_option maxRecDepth 100000 in
set_option maxHeartbeats 1000000 in
theorem num18_any (n : Int) (w : World) :
    Calls Tryd.prog 19 #[.int .i64 n] w fun e w' => e = .returned (.agg #[.int .u8 0, .int .i64 n, .string { data := #[] }, .slice none 0 0]) ∧ Ext w w' := by
  have hB := Box4.new w (.int .u8 0) (.int .i64 0) (.string { data := #[] }) (.slice none 0 0)
  have hE := (Ext.refl w).alloc (.cells #[.int .u8 0, .int .i64 0, .string { data := #[] }, .slice none 0 0] 46)
  go_enter Tryd.func19, Tryd.ntmps19
  go_upto_region 1 with (fail)
  generalize w.alloc (.cells #[.int .u8 0, .int .i64 0, .string { data := #[] }, .slice none 0 0] 46) = W1 at *
  have ⟨p0, p1, p2, p3⟩ := hB.cells
  have ⟨z0, z1, z2, z3⟩ := hB.frozen
  have HB := Lib.hid hB
  have HE := Lib.hid hE
  clear hB hE
  go_wp2
  change bodyPost _ _ _ _ _ (set4W W1 w.heap.size (.int .u8 0) (.int .i64 n) (.string { data := #[] }) (.slice none 0 0))
  obtain ⟨hE2, hb2, -⟩ := set4_facts (k := .int .u8 0) (n := .int .i64 n) (s := .string { data := #[] }) (d := .slice none 0 0) HE.out HB.out (Nat.le_refl _)
  generalize set4W W1 w.heap.size (.int .u8 0) (.int .i64 n) (.string { data := #[] }) (.slice none 0 0) = W3 at *
  obtain ⟨y0, y1, y2, y3⟩ := hb2.cells
  refine bodyPost_ret (v := .agg #[.int .u8 0, .int .i64 n, .string { data := #[] }, .slice none 0 0]) (by simp [results, Tryd.results19, go_sem, y0, y1, y2, y3]) rfl ?_
  exact ⟨rfl, hE2⟩
theorem num18_own {n : Int} (hn : isI64 n) (w : World) (base : Nat) : OwnT 46 w base (numT n) (.agg #[.int .u8 0, .int .i64 n, .string { data := #[] }, .slice none 0 0]) := OwnT.mk (k := 0) (s := []) hn (by simp) (OwnL.nil _ _ _)
set_option maxRecDepth 100000 in
set_option maxHeartbeats 1000000 in
theorem list18_any (a : Option Addr) (m c : Nat) (w : World) :
    Calls Tryd.prog 37 #[.slice a m c] w fun e w' => e = .returned (.agg #[.int .u8 2, .int .i64 0, .string { data := #[] }, .slice a m c]) ∧ Ext w w' := by
  have hB := Box4.new w (.int .u8 0) (.int .i64 0) (.string { data := #[] }) (.slice none 0 0)
  have hE := (Ext.refl w).alloc (.cells #[.int .u8 0, .int .i64 0, .string { data := #[] }, .slice none 0 0] 46)
  go_enter Tryd.func37, Tryd.ntmps37
  go_upto_region 1 with (fail)
  generalize w.alloc (.cells #[.int .u8 0, .int .i64 0, .string { data := #[] }, .slice none 0 0] 46) = W1 at *
  have ⟨p0, p1, p2, p3⟩ := hB.cells
  have ⟨z0, z1, z2, z3⟩ := hB.frozen
  have HB := Lib.hid hB
  have HE := Lib.hid hE
  clear hB hE
  go_wp2
  change bodyPost _ _ _ _ _ (set4W W1 w.heap.size (.int .u8 2) (.int .i64 0) (.string { data := #[] }) (.slice a m c))
  obtain ⟨hE2, hb2, -⟩ := set4_facts (k := .int .u8 2) (n := .int .i64 0) (s := .string { data := #[] }) (d := .slice a m c) HE.out HB.out (Nat.le_refl _)
  generalize set4W W1 w.heap.size (.int .u8 2) (.int .i64 0) (.string { data := #[] }) (.slice a m c) = W3 at *
  obtain ⟨y0, y1, y2, y3⟩ := hb2.cells
  refine bodyPost_ret (v := .agg #[.int .u8 2, .int .i64 0, .string { data := #[] }, .slice a m c]) (by simp [results, Tryd.results37, go_sem, y0, y1, y2, y3]) rfl ?_
  exact ⟨rfl, hE2⟩
theorem list18_lies {w : World} {l : List Tr} {a : Option Addr} {m c : Nat} (h : LiesS w l (.slice a m c)) : Lies w (listV l) (.agg #[.int .u8 2, .int .i64 0, .string { data := #[] }, .slice a m c]) := Lies.mk (k := 2) (s := []) (by unfold isI64; omega) (by simp) h
set_option maxRecDepth 100000 in
set_option maxHeartbeats 1000000 in
theorem values18_any (l l' : List Tr) (a a' : Option Addr) (m m' c c' : Nat) (w : World) (h : LiesS w l (.slice a m c)) (h' : LiesS w l' (.slice a' m' c')) :
    Calls Tryd.prog 43 #[.slice a m c, .slice a' m' c'] w fun e w' => e = .returned (.bool (eqT (listV l) (listV l'))) ∧ Ext w w' := by
  have HL := Lib.hid (list18_lies h)
  have HL' := Lib.hid (list18_lies h')
  clear h h'
  go_enter Tryd.func43, Tryd.ntmps43
  go_wp2_with fail
  refine (list18_any a m c w).mono ?_
  rintro e w1 ⟨rfl, hE1⟩
  go_wp2_with fail
  refine (list18_any a' m' c' w1).mono ?_
  rintro e w2 ⟨rfl, hE2⟩
  have HE2 := Lib.hid (hE1.trans hE2)
  clear hE1 hE2
  go_wp2_with fail
  refine (rsame_any _ _ w2 _ _ (HL.out.ext HE2.out) (HL'.out.ext HE2.out)).mono ?_
  rintro e w3 ⟨rfl, hE3⟩
  have HE3 := Lib.hid (HE2.out.trans hE3)
  clear hE3
  go_wp2
  go_ret
  exact ⟨rfl, HE3.out⟩
end Go.Proofs.YtpcgpcjleedilaaDoor
