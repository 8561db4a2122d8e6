/- Rows of numbers and of values out of a row's reading. -/
import Derived.Test.YtgclfmdpapadnaaDoorRi
import Derived.Test.YtgclfmdpapadnaaDoorPlQ
import Derived.Deep.RegionHeld3
import Derived.Test.YtgclfmdpapadnaaDoorVaA
import Derived.Test.YtgclfmdpapadnaaDoorProg
open Go.RowKit Go.Shelf
namespace Go.Proofs.YtgclfmdpapadnaaDoor
open Go Go.Proofs Fm
attribute [local go_sem] Oper.semAt_some

set_option maxRecDepth 100000 in
set_option maxHeartbeats 4000000 in
theorem rrefers20_any (nd : List Nd) (items : List It) (hO : RightO nd) (hl : nd.length ≤ 1000000) (ow : Int) (w : World) (nv iv : Value) (hN : ndE.Row w nd nv) (hI : itE.Row w items iv) :
    Calls Tryd.prog 34 #[nv, .int .i64 ow, iv] w fun e w' => e = .returned (.bool (refersF nd ow items)) ∧ Ext w w' := by
  have HR := Lib.hid hI
  have HNb := Lib.hid (fun (s : List UInt8) (hs : s.length ≤ 9223372036854775807) X (hX : Ext w X) => rnobody20_any nd items hO hl ow s hs X nv iv (hN.ext hX) (hI.ext hX))
  have HX := Lib.hid (show refersF nd ow items = items.any (fun x => x.after.any (lostF nd ow items) || (isMapI x && lostF nd ow items x.over)) from rfl)
  obtain ⟨an, cn, rfl, hn1, hn2⟩ := hN.slice
  obtain ⟨a, c, rfl, hc1, hc2⟩ := hI.slice
  obtain ⟨LN, hLN⟩ : ∃ LN, LN = items.length := ⟨_, rfl⟩
  rw [← hLN] at hc1 HR HNb ⊢
  have HLN := Lib.hid hLN
  clear hI hN hLN hO
  go_enter Tryd.func34, Tryd.ntmps34
  go_wp2_with fail
  go_loopw [7] (fun i wr => ∃ j : Nat, j ≤ LN ∧ i = .int .i64 j ∧ Hid (Ext w wr) ∧ Hid ((items.take j).any (fun x => x.after.any (lostF nd ow items) || (isMapI x && lostF nd ow items x.over)) = false)) (fun i _ => LN - (intOf i).toNat)
  case atStart => exact ⟨0, by omega, rfl, Lib.hid (Ext.refl w), Lib.hid (by simp)⟩
  case round =>
    obtain ⟨j, hj, rfl, HE, HU⟩ := hrel
    by_cases hlt : j < LN
    case neg =>
      have HY := Lib.hid (show refersF nd ow items = false by rw [HX.out, any_end (by rw [← HLN.out]; omega) HU.out])
      clear HU HX
      go_wp2
      go_ret
      exact ⟨by rw [HY.out]; rfl, HE.out⟩
    have hi : j < items.length := by have := HLN.out; omega
    have HT := Lib.hid (any_take (p := fun x => x.after.any (lostF nd ow items) || (isMapI x && lostF nd ow items x.over)) hi)
    obtain ⟨b, off, rfl, hb, aa, ma, ca, x0, x1, x2, x3, x4, x5, hit⟩ := it_at HR.out HE.out j hi
    obtain ⟨x, hx⟩ : ∃ x, x = items[j] := ⟨_, rfl⟩
    rw [← hx] at x0 x1 x3 x4 x5 hit HT
    have HHit := Lib.hid (show refersF nd ow items = false → (x.after.any (lostF nd ow items) || (isMapI x && lostF nd ow items x.over)) = false from fun h => by
      rw [HX.out, List.any_eq_false] at h
      have := h x (by rw [hx]; exact List.getElem_mem hi)
      simpa using this)
    obtain rfl := hit.len
    have HRow := Lib.hid (hit.ext HE.out).row
    have hlo : x.over.length ≤ 9223372036854775807 := by obtain ⟨_, _, _, _, _, _, lo, _, _⟩ := hit; exact lo
    have hE2 := (HE.out).alloc (.cells #[.string (str x.name), .int .u8 (x.kind.toNat : Int), .slice aa x.after.length ca, .string (str x.over), .int .i64 x.width, .int .i64 x.quota] 27)
    have hB2 := BoxL.new wr [.string (str x.name), .int .u8 (x.kind.toNat : Int), .slice aa x.after.length ca, .string (str x.over), .int .i64 x.width, .int .i64 x.quota] 27
    have HG2 := Lib.hid ((Ext.refl wr).alloc (.cells #[.string (str x.name), .int .u8 (x.kind.toNat : Int), .slice aa x.after.length ca, .string (str x.over), .int .i64 x.width, .int .i64 x.quota] 27))
    have HE2 := Lib.hid hE2
    have HB2 := Lib.hid hB2
    obtain ⟨hca1, hca2⟩ : x.after.length ≤ ca ∧ ca ≤ 9223372036854775807 := by
      obtain ⟨_, _, hsl, h1, h2⟩ := HRow.out.slice
      injection hsl with _ _ hsl
      subst hsl
      exact ⟨h1, h2⟩
    have hj0 : (0 : Int) ≤ (j : Int) := by omega
    have hj1 : (j : Int) < (LN : Int) := by omega
    clear hit hE2 hB2 hx
    go_wp2_with fail
    generalize wr.alloc (.cells #[.string (str x.name), .int .u8 (x.kind.toNat : Int), .slice aa x.after.length ca, .string (str x.over), .int .i64 x.width, .int .i64 x.quota] 27) = W2 at *
    go_loopw [9] (fun i wq => ∃ k : Nat, k ≤ x.after.length ∧ i = .int .i64 k ∧ Hid (Ext W2 wq) ∧ Hid ((x.after.take k).any (lostF nd ow items) = false)) (fun i _ => x.after.length - (intOf i).toNat)
    case atStart => exact ⟨0, by omega, rfl, Lib.hid (Ext.refl W2), Lib.hid (by simp)⟩
    case round =>
      obtain ⟨k, hk, rfl, HE3, HV⟩ := hrel
      have hEw := HE2.out.trans HE3.out
      have y2 := (HB2.out.ext HE3.out).cell 2 _ rfl
      by_cases hlk : k < x.after.length
      case neg =>
        have HVx := Lib.hid (any_end (by omega) HV.out)
        have y1 := (HB2.out.ext HE3.out).cell 1 _ rfl
        have y3 := (HB2.out.ext HE3.out).cell 3 _ rfl
        have hkd := u8_oneC (k := x.kind) 1
        rw [show (((1 : UInt8).toNat : Nat) : Int) = 1 from rfl, show decide (x.kind = 1) = isMapI x from rfl] at hkd
        obtain ⟨K, hK⟩ : ∃ K, K = (x.kind.toNat : Int) := ⟨_, rfl⟩
        simp only [← hK] at hkd y1
        clear hK HV
        cases hm : isMapI x with
        | false =>
          have HU1 := Lib.hid (show (items.take (j + 1)).any (fun x => x.after.any (lostF nd ow items) || (isMapI x && lostF nd ow items x.over)) = false by rw [HT.out, HU.out, HVx.out, hm]; rfl)
          rw [hm] at hkd
          clear hm HU HT HHit
          have HEw := Lib.hid hEw
          clear hEw
          go_wp2
          go_roundw
          case rel => exact ⟨j + 1, by omega, by go_num, HEw, HU1⟩
          case measure => simp [intOf]; omega
        | true =>
          rw [hm] at hkd
          have HEw := Lib.hid hEw
          clear hEw
          have HNc := Lib.hid (HNb.out x.over hlo _ HEw.out)
          go_wp2_with fail
          refine HNc.out.mono ?_
          rintro e w4 ⟨rfl, hE4⟩
          have HE4 := Lib.hid (HEw.out.trans hE4)
          clear hE4 HNc HEw y1 y2 y3
          cases hq : lostF nd ow items x.over with
          | true =>
            have HY := Lib.hid (show refersF nd ow items = true by
              cases h : refersF nd ow items with
              | true => rfl
              | false => have := HHit.out h; rw [hm, hq] at this; simp at this)
            clear hm hq HU HT HHit
            go_wp2
            go_ret
            exact ⟨by rw [HY.out]; rfl, HE4.out⟩
          | false =>
            have HU1 := Lib.hid (show (items.take (j + 1)).any (fun x => x.after.any (lostF nd ow items) || (isMapI x && lostF nd ow items x.over)) = false by rw [HT.out, HU.out, HVx.out, hm, hq]; rfl)
            clear hm hq HU HT HHit
            go_wp2
            go_roundw
            case rel => exact ⟨j + 1, by omega, by go_num, HE4, HU1⟩
            case measure => simp [intOf]; omega
      obtain ⟨b2, o2, rfl, hb2, s0, hsl⟩ := str_at HRow.out (Ext.trans HG2.out HE3.out) k hlk
      obtain ⟨s, hs⟩ : ∃ s, s = x.after[k] := ⟨_, rfl⟩
      rw [← hs] at s0 hsl
      have HV2 := Lib.hid (any_take (p := lostF nd ow items) hlk)
      have HEw := Lib.hid hEw
      have HNc := Lib.hid (HNb.out s hsl _ HEw.out)
      have hk0 : (0 : Int) ≤ (k : Int) := by omega
      have hk1 : (k : Int) < (x.after.length : Int) := by omega
      clear hEw
      cases hq : lostF nd ow items s with
      | true =>
        have HY := Lib.hid (show refersF nd ow items = true by
          cases h : refersF nd ow items with
          | true => rfl
          | false => have := HHit.out h; rw [any_hit hlk (by rw [← hs]; exact hq)] at this; simp at this)
        have HQ := Lib.hid hq
        clear hq HU HT HHit HV HV2 hs
        go_wp2_with fail
        refine HNc.out.mono ?_
        rw [HQ.out]
        rintro e w4 ⟨rfl, hE4⟩
        have HE4 := Lib.hid (HEw.out.trans hE4)
        clear hE4 HNc HEw y2 s0
        go_wp2
        go_ret
        exact ⟨by rw [HY.out]; rfl, HE4.out⟩
      | false =>
        have HV1 := Lib.hid (show (x.after.take (k + 1)).any (lostF nd ow items) = false by rw [HV2.out, HV.out, ← hs, hq]; rfl)
        have HQ := Lib.hid hq
        clear hq HU HT HHit HV HV2 hs
        go_wp2_with fail
        refine HNc.out.mono ?_
        rw [HQ.out]
        rintro e w4 ⟨rfl, hE4⟩
        have HE4 := Lib.hid (HE3.out.trans hE4)
        clear hE4 HNc HEw y2 s0
        go_wp2
        go_roundw
        case rel => exact ⟨k + 1, by omega, by go_num, HE4, HV1⟩
        case measure => simp [intOf]; omega
end Go.Proofs.YtgclfmdpapadnaaDoor

open Go.RowKit Go.Shelf
namespace Go.Proofs.YtgclfmdpapadnaaDoor
open Go Go.Proofs Fm
attribute [local go_sem] Oper.semAt_some

set_option maxRecDepth 100000 in
set_option maxHeartbeats 4000000 in
theorem rover20_any (nd : List Nd) (items : List It) (hO : RightO nd) (hl : nd.length ≤ 1000000) (ow : Int) (w : World) (nv iv : Value) (hN : ndE.Row w nd nv) (hI : itE.Row w items iv) :
    Calls Tryd.prog 35 #[nv, .int .i64 ow, iv] w fun e w' => e = .returned (.bool (overF nd ow items)) ∧ Ext w w' := by
  have HR := Lib.hid hI
  have HNR := Lib.hid hN
  have HNb := Lib.hid (fun (s : List UInt8) (hs : s.length ≤ 9223372036854775807) X (hX : Ext w X) => rrefs20_any nd items hO hl ow s hs X nv iv (hN.ext hX) (hI.ext hX))
  have HX := Lib.hid (show overF nd ow items = items.any (overOne nd ow items) from rfl)
  obtain ⟨an, cn, rfl, hn1, hn2⟩ := hN.slice
  obtain ⟨a, c, rfl, hc1, hc2⟩ := hI.slice
  obtain ⟨LN, hLN⟩ : ∃ LN, LN = items.length := ⟨_, rfl⟩
  rw [← hLN] at hc1 HR HNb ⊢
  have HLN := Lib.hid hLN
  clear hI hN hLN hO
  go_enter Tryd.func35, Tryd.ntmps35
  go_wp2_with fail
  go_loopw [7] (fun i wr => ∃ j : Nat, j ≤ LN ∧ i = .int .i64 j ∧ Hid (Ext w wr) ∧ Hid ((items.take j).any (overOne nd ow items) = false)) (fun i _ => LN - (intOf i).toNat)
  case atStart => exact ⟨0, by omega, rfl, Lib.hid (Ext.refl w), Lib.hid (by simp)⟩
  case round =>
    obtain ⟨j, hj, rfl, HE, HU⟩ := hrel
    by_cases hlt : j < LN
    case neg =>
      have HY := Lib.hid (show overF nd ow items = false by rw [HX.out, any_end (by rw [← HLN.out]; omega) HU.out])
      clear HU HX
      go_wp2
      go_ret
      exact ⟨by rw [HY.out]; rfl, HE.out⟩
    have hi : j < items.length := by have := HLN.out; omega
    have HT := Lib.hid (any_take (p := overOne nd ow items) hi)
    obtain ⟨b, off, rfl, hb, aa, ma, ca, x0, x1, x2, x3, x4, x5, hit⟩ := it_at HR.out HE.out j hi
    obtain ⟨x, hx⟩ : ∃ x, x = items[j] := ⟨_, rfl⟩
    rw [← hx] at x0 x1 x3 x4 x5 hit HT
    have HHit := Lib.hid (show overOne nd ow items x = true → overF nd ow items = true from fun h => by
      rw [HX.out]
      exact any_hit hi (by rw [← hx]; exact h))
    have HMiss := Lib.hid (show overOne nd ow items x = false → (items.take (j + 1)).any (overOne nd ow items) = false from fun h => by rw [HT.out, HU.out, h]; rfl)
    have HO1 := Lib.hid (show overOne nd ow items x = (isMapI x && (if 0 ≤ (refsF nd ow items x.over).1 then isMapI (items.getD (refsF nd ow items x.over).1.toNat ⟨[], 0, [], [], 0, 0⟩) && decide (x.width < (items.getD (refsF nd ow items x.over).1.toNat ⟨[], 0, [], [], 0, 0⟩).width)
      else if 0 ≤ (refsF nd ow items x.over).2 then decide ((nthF nd (refsF nd ow items x.over).2).kind = 1) && decide (x.width < (nthF nd (refsF nd ow items x.over).2).width) else false)) from rfl)
    obtain rfl := hit.len
    have hlo : x.over.length ≤ 9223372036854775807 := by obtain ⟨_, _, _, _, _, _, lo, _, _⟩ := hit; exact lo
    have hE2 := (HE.out).alloc (.cells #[.string (str x.name), .int .u8 (x.kind.toNat : Int), .slice aa x.after.length ca, .string (str x.over), .int .i64 x.width, .int .i64 x.quota] 27)
    have hB2 := BoxL.new wr [.string (str x.name), .int .u8 (x.kind.toNat : Int), .slice aa x.after.length ca, .string (str x.over), .int .i64 x.width, .int .i64 x.quota] 27
    have HG2 := Lib.hid ((Ext.refl wr).alloc (.cells #[.string (str x.name), .int .u8 (x.kind.toNat : Int), .slice aa x.after.length ca, .string (str x.over), .int .i64 x.width, .int .i64 x.quota] 27))
    have HE2 := Lib.hid hE2
    have HB2 := Lib.hid hB2
    have hj0 : (0 : Int) ≤ (j : Int) := by omega
    have hj1 : (j : Int) < (LN : Int) := by omega
    clear hit hE2 hB2 hx HU HT
    go_upto_region 5 with (fail)
    generalize wr.alloc (.cells #[.string (str x.name), .int .u8 (x.kind.toNat : Int), .slice aa x.after.length ca, .string (str x.over), .int .i64 x.width, .int .i64 x.quota] 27) = W2 at *
    have y1 := HB2.out.cell 1 _ rfl
    have y3 := HB2.out.cell 3 _ rfl
    have hkd := u8_oneC (k := x.kind) 1
    rw [show (((1 : UInt8).toNat : Nat) : Int) = 1 from rfl, show decide (x.kind = 1) = isMapI x from rfl] at hkd
    obtain ⟨K, hK⟩ : ∃ K, K = (x.kind.toNat : Int) := ⟨_, rfl⟩
    simp only [← hK] at hkd y1
    have hkd2 : (K != 1) = !(isMapI x) := by unfold bne; rw [hkd]
    cases hm : isMapI x with
    | false =>
      have HU1 := Lib.hid (HMiss.out (by rw [HO1.out, hm]; rfl))
      rw [hm] at hkd hkd2
      simp only [Bool.not_false] at hkd2
      clear hm HMiss HHit HO1 hK
      go_wp2
      go_roundw
      case rel => exact ⟨j + 1, by omega, by go_num, Lib.hid (HE2.out), HU1⟩
      case measure => simp [intOf]; omega
    | true =>
      rw [hm] at hkd HO1 hkd2
      simp only [Bool.not_true] at hkd2
      have HNc := Lib.hid (HNb.out x.over hlo _ HE2.out)
      clear hm
      go_wp2_with fail
      refine HNc.out.mono ?_
      rintro e w4 ⟨rfl, hE4⟩
      have HE4 := Lib.hid (HE2.out.trans hE4)
      have y4 := (HB2.out.ext hE4).cell 4 _ rfl
      clear hE4 HNc y1 y3 x0 x1 x3 x4 x5 x2 hkd hkd2 hK
      obtain ⟨wx, hwx⟩ : ∃ wx, wx = x.width := ⟨_, rfl⟩
      rw [← hwx] at HO1
      simp only [← hwx] at y4
      rcases refsF_cases nd ow items x.over with ⟨i, hi2, hrf, -⟩ | ⟨-, ⟨k, -, hsn, hrf⟩ | ⟨-, hrf⟩⟩
      · rw [hrf] at HO1 ⊢
        have HP := Lib.hid (show overOne nd ow items x = (isMapI items[i] && decide (wx < items[i].width)) by
          rw [HO1.out]; simp [hi2])
        obtain ⟨g, o2, hgo, hg, aa2, ma2, ca2, x0, x1, x2, x3, x4, x5, -⟩ := it_at HR.out HE4.out i hi2
        simp only [Option.some.injEq, Addr.mk.injEq] at hgo
        obtain ⟨rfl, rfl, -⟩ := hgo
        have hi0 : (0 : Int) ≤ (i : Int) := by omega
        have hi1 : (i : Int) < (LN : Int) := by have := HLN.out; omega
        obtain ⟨wi, hwi⟩ : ∃ wi, wi = items[i].width := ⟨_, rfl⟩
        rw [← hwi] at x4 HP
        have hkd := u8_oneC (k := items[i].kind) 1
        rw [show (((1 : UInt8).toNat : Nat) : Int) = 1 from rfl, show decide (items[i].kind = 1) = isMapI items[i] from rfl] at hkd
        obtain ⟨K2, hK2⟩ : ∃ K, K = (items[i].kind.toNat : Int) := ⟨_, rfl⟩
        rw [← hK2] at hkd x1
        clear x0 x2 x3 x5 hK2 hwi hrf hwx
        cases hmi : isMapI items[i] with
        | false =>
          rw [hmi] at hkd HP
          clear hmi
          have HU1 := Lib.hid (HMiss.out (by rw [HP.out]; rfl))
          clear HMiss HHit HO1 HP
          go_wp2_with fail
          go_quiet (fail)
          go_wp2_with fail
          go_quiet (fail)
          go_wp2
          go_roundw
          case rel => exact ⟨j + 1, by omega, by go_num, Lib.hid (HE4.out.drewN _), HU1⟩
          case measure => simp [intOf]; omega
        | true =>
          rw [hmi] at hkd HP
          clear hmi
          cases hd : decide (wx < wi) with
          | false =>
            have HU1 := Lib.hid (HMiss.out (by rw [HP.out, hd]; rfl))
            clear HMiss HHit HO1 HP
            go_wp2_with fail
            go_quiet (fail)
            go_wp2_with fail
            go_quiet (fail)
            go_wp2
            go_roundw
            case rel => exact ⟨j + 1, by omega, by go_num, Lib.hid (HE4.out.drewN _), HU1⟩
            case measure => simp [intOf]; omega
          | true =>
            have HY := Lib.hid (HHit.out (by rw [HP.out, hd]; rfl))
            clear HMiss HHit HO1 HP
            go_wp2_with fail
            go_quiet (fail)
            go_wp2
            go_ret
            exact ⟨by rw [HY.out]; rfl, HE4.out.drewN _⟩
      · rw [hrf] at HO1 ⊢
        obtain ⟨hk, -⟩ := seenF_some hsn
        have hk0 : (0 : Int) ≤ (k : Int) := by omega
        have hk1 : (k : Int) < (nd.length : Int) := by omega
        have HP := Lib.hid (show overOne nd ow items x = (decide (nd[k].kind = 1) && decide (wx < nd[k].width)) by
          rw [HO1.out]; simp [nthF_at hk])
        obtain ⟨g, o2, rfl, hg, aa2, ma2, ca2, K', N', S', D', ⟨x0, x1, x2, x3, x4, x5, x6, x7, x8, x9, x10, x11, x12, x13, x14, x15⟩, -⟩ := nd_at16 HNR.out HE4.out k hk
        have hkd := u8_oneC (k := nd[k].kind) 1
        rw [show (((1 : UInt8).toNat : Nat) : Int) = 1 from rfl] at hkd
        obtain ⟨wi, hwi⟩ : ∃ wi, wi = nd[k].width := ⟨_, rfl⟩
        rw [← hwi] at x7 HP
        obtain ⟨K2, hK2⟩ : ∃ K, K = (nd[k].kind.toNat : Int) := ⟨_, rfl⟩
        rw [← hK2] at hkd x2
        clear x0 x1 x3 x4 x5 x6 x8 x9 x10 x11 x12 x13 x14 x15 hK2 hwi hrf hsn hwx
        cases hmi : decide (nd[k].kind = 1) with
        | false =>
          rw [hmi] at hkd HP
          clear hmi
          have HU1 := Lib.hid (HMiss.out (by rw [HP.out]; rfl))
          clear HMiss HHit HO1 HP
          go_wp2_with fail
          go_quiet (fail)
          go_wp2_with fail
          go_quiet (fail)
          go_wp2
          go_roundw
          case rel => exact ⟨j + 1, by omega, by go_num, Lib.hid (HE4.out.drewN _), HU1⟩
          case measure => simp [intOf]; omega
        | true =>
          rw [hmi] at hkd HP
          clear hmi
          cases hd : decide (wx < wi) with
          | false =>
            have HU1 := Lib.hid (HMiss.out (by rw [HP.out, hd]; rfl))
            clear HMiss HHit HO1 HP
            go_wp2_with fail
            go_quiet (fail)
            go_wp2_with fail
            go_quiet (fail)
            go_wp2
            go_roundw
            case rel => exact ⟨j + 1, by omega, by go_num, Lib.hid (HE4.out.drewN _), HU1⟩
            case measure => simp [intOf]; omega
          | true =>
            have HY := Lib.hid (HHit.out (by rw [HP.out, hd]; rfl))
            clear HMiss HHit HO1 HP
            go_wp2_with fail
            go_quiet (fail)
            go_wp2_with fail
            go_quiet (fail)
            go_wp2
            go_ret
            exact ⟨by rw [HY.out]; rfl, (HE4.out.drewN _).drewN _⟩
      · rw [hrf] at HO1 ⊢
        clear hrf hwx
        have HU1 := Lib.hid (HMiss.out (by rw [HO1.out]; rfl))
        clear HMiss HHit HO1
        go_wp2_with fail
        go_quiet (fail)
        go_wp2_with fail
        go_quiet (fail)
        go_wp2
        go_roundw
        case rel => exact ⟨j + 1, by omega, by go_num, Lib.hid (HE4.out.drewN _), HU1⟩
        case measure => simp [intOf]; omega
end Go.Proofs.YtgclfmdpapadnaaDoor

open Go.RowKit Go.Shelf
namespace Go.Proofs.YtgclfmdpapadnaaDoor
open Go Go.Proofs Fm
attribute [local go_sem] Oper.semAt_some

set_option maxRecDepth 100000 in
set_option maxHeartbeats 4000000 in
theorem rfrag20_any (nd : List Nd) (items : List It) (hO : RightO nd) (hl : nd.length ≤ 1000000) (hi : items.length ≤ 1000) (k0 k1 k2 k3 k4 ow q : Int) (w : World) (nv iv : Value) (hN : ndE.Row w nd nv) (hI : itE.Row w items iv) :
    Calls Tryd.prog 15 #[.agg #[.int .i64 k0, .int .i64 k1, .int .i64 k2, .int .i64 k3, .int .i64 k4], nv, .int .i64 ow, .int .i64 q, iv] w fun e w' => e = .returned (.int .i64 (checkF k1 k2 nd ow q items)) ∧ Ext w w' := by
  have HRi := Lib.hid (fun X (hX : Ext w X) => rfright_any items X iv (hI.ext hX))
  have HWi := Lib.hid (fun X (hX : Ext w X) => rwide20_any items k0 k1 k2 k3 k4 X iv (hI.ext hX))
  have HTw := Lib.hid (fun X (hX : Ext w X) => rtwice20_any items X iv (hI.ext hX))
  have HDe := Lib.hid (fun X (hX : Ext w X) => rdeep20_any nd items hO hl ow k0 k1 k2 k3 k4 X nv iv (hN.ext hX) (hI.ext hX))
  have HRe := Lib.hid (fun X (hX : Ext w X) => rrefers20_any nd items hO hl ow X nv iv (hN.ext hX) (hI.ext hX))
  have HTo := Lib.hid (fun (hb : fragB items = true) X (hX : Ext w X) => rtotal20_any items (fair_of hb) hi X iv (hI.ext hX))
  have HOv := Lib.hid (fun X (hX : Ext w X) => rover20_any nd items hO hl ow X nv iv (hN.ext hX) (hI.ext hX))
  unfold cfgA at HWi HDe
  have HX := Lib.hid (show checkF k1 k2 nd ow q items = (if fragB items = false then 2 else if wideF k2 items then 24 else if twiceF items then 20 else if deepB k1 nd ow items then 23 else if refersF nd ow items then 21 else if q < totalF items then 22 else if overF nd ow items then 24 else 0) from rfl)
  obtain ⟨an, cn, rfl, hn1, hn2⟩ := hN.slice
  obtain ⟨ai, ci, rfl, hi1, hi2⟩ := hI.slice
  have hE1 := (Ext.refl w).alloc (.cells #[.int .i64 k0, .int .i64 k1, .int .i64 k2, .int .i64 k3, .int .i64 k4] 32)
  have HB := Lib.hid (BoxL.new w [.int .i64 k0, .int .i64 k1, .int .i64 k2, .int .i64 k3, .int .i64 k4] 32)
  have HE1 := Lib.hid hE1
  clear hI hN hE1 hO
  go_enter Tryd.func15, Tryd.ntmps15
  go_upto_region 1 with (fail)
  generalize w.alloc (.cells #[.int .i64 k0, .int .i64 k1, .int .i64 k2, .int .i64 k3, .int .i64 k4] 32) = W1 at *
  go_wp2_with fail
  refine (HRi.out W1 HE1.out).mono ?_
  clear HRi
  rintro e W2 ⟨rfl, hE2⟩
  have HB2 := Lib.hid (HB.out.ext hE2)
  have HE2 := Lib.hid (HE1.out.trans hE2)
  clear hE2 HE1 HB
  cases hb : fragB items with
  | false =>
    have HY := Lib.hid (show checkF k1 k2 nd ow q items = 2 by rw [HX.out, hb]; rfl)
    clear hb HX HTo
    go_wp2
    go_ret
    exact ⟨by rw [HY.out]; rfl, HE2.out⟩
  | true =>
  have HTt := Lib.hid (HTo.out hb)
  have HX := Lib.hid (HX.out.trans (if_neg (by rw [hb]; decide)))
  clear hb HTo
  have ⟨c0, c1, c2, c3, c4⟩ : W2.cell? ⟨w.heap.size, 0, none⟩ = some (.int .i64 k0) ∧ W2.cell? ⟨w.heap.size, 1, none⟩ = some (.int .i64 k1) ∧ W2.cell? ⟨w.heap.size, 2, none⟩ = some (.int .i64 k2) ∧ W2.cell? ⟨w.heap.size, 3, none⟩ = some (.int .i64 k3) ∧ W2.cell? ⟨w.heap.size, 4, none⟩ = some (.int .i64 k4) := ⟨HB2.out.cell 0 _ rfl, HB2.out.cell 1 _ rfl, HB2.out.cell 2 _ rfl, HB2.out.cell 3 _ rfl, HB2.out.cell 4 _ rfl⟩
  go_wp2_with fail
  refine (HWi.out W2 HE2.out).mono ?_
  clear HWi c0 c1 c2 c3 c4
  rintro e W3 ⟨rfl, hE3⟩
  have HB3 := Lib.hid (HB2.out.ext hE3)
  have HE3 := Lib.hid (HE2.out.trans hE3)
  clear hE3 HE2 HB2
  cases hb : wideF k2 items with
  | true =>
    have HY := Lib.hid (show checkF k1 k2 nd ow q items = 24 from HX.out.trans (if_pos hb))
    clear hb HX
    go_wp2
    go_ret
    exact ⟨by rw [HY.out]; rfl, HE3.out⟩
  | false =>
  have HX := Lib.hid (HX.out.trans (if_neg (by rw [hb]; decide)))
  clear hb
  go_wp2_with fail
  refine (HTw.out W3 HE3.out).mono ?_
  clear HTw
  rintro e W4 ⟨rfl, hE4⟩
  have HB4 := Lib.hid (HB3.out.ext hE4)
  have HE4 := Lib.hid (HE3.out.trans hE4)
  clear hE4 HE3 HB3
  cases hb : twiceF items with
  | true =>
    have HY := Lib.hid (show checkF k1 k2 nd ow q items = 20 from HX.out.trans (if_pos hb))
    clear hb HX
    go_wp2
    go_ret
    exact ⟨by rw [HY.out]; rfl, HE4.out⟩
  | false =>
  have HX := Lib.hid (HX.out.trans (if_neg (by rw [hb]; decide)))
  clear hb
  have ⟨c0, c1, c2, c3, c4⟩ : W4.cell? ⟨w.heap.size, 0, none⟩ = some (.int .i64 k0) ∧ W4.cell? ⟨w.heap.size, 1, none⟩ = some (.int .i64 k1) ∧ W4.cell? ⟨w.heap.size, 2, none⟩ = some (.int .i64 k2) ∧ W4.cell? ⟨w.heap.size, 3, none⟩ = some (.int .i64 k3) ∧ W4.cell? ⟨w.heap.size, 4, none⟩ = some (.int .i64 k4) := ⟨HB4.out.cell 0 _ rfl, HB4.out.cell 1 _ rfl, HB4.out.cell 2 _ rfl, HB4.out.cell 3 _ rfl, HB4.out.cell 4 _ rfl⟩
  go_wp2_with fail
  refine (HDe.out W4 HE4.out).mono ?_
  clear HDe c0 c1 c2 c3 c4
  rintro e W5 ⟨rfl, hE5⟩
  have HB5 := Lib.hid (HB4.out.ext hE5)
  have HE5 := Lib.hid (HE4.out.trans hE5)
  clear hE5 HE4 HB4
  cases hb : deepB k1 nd ow items with
  | true =>
    have HY := Lib.hid (show checkF k1 k2 nd ow q items = 23 from HX.out.trans (if_pos hb))
    clear hb HX
    go_wp2
    go_ret
    exact ⟨by rw [HY.out]; rfl, HE5.out⟩
  | false =>
  have HX := Lib.hid (HX.out.trans (if_neg (by rw [hb]; decide)))
  clear hb
  go_wp2_with fail
  refine (HRe.out W5 HE5.out).mono ?_
  clear HRe
  rintro e W6 ⟨rfl, hE6⟩
  have HB6 := Lib.hid (HB5.out.ext hE6)
  have HE6 := Lib.hid (HE5.out.trans hE6)
  clear hE6 HE5 HB5
  cases hb : refersF nd ow items with
  | true =>
    have HY := Lib.hid (show checkF k1 k2 nd ow q items = 21 from HX.out.trans (if_pos hb))
    clear hb HX
    go_wp2
    go_ret
    exact ⟨by rw [HY.out]; rfl, HE6.out⟩
  | false =>
  have HX := Lib.hid (HX.out.trans (if_neg (by rw [hb]; decide)))
  clear hb
  go_wp2_with fail
  refine (HTt.out W6 HE6.out).mono ?_
  clear HTt
  rintro e W7 ⟨rfl, hE7⟩
  have HB7 := Lib.hid (HB6.out.ext hE7)
  have HE7 := Lib.hid (HE6.out.trans hE7)
  clear hE7 HE6 HB6
  by_cases hb : q < totalF items
  · have HY := Lib.hid (show checkF k1 k2 nd ow q items = 22 from HX.out.trans (if_pos hb))
    clear HX
    go_wp2
    go_ret
    exact ⟨by rw [HY.out]; rfl, HE7.out⟩
  have HX := Lib.hid (HX.out.trans (if_neg hb))
  go_wp2_with fail
  refine (HOv.out W7 HE7.out).mono ?_
  clear HOv
  rintro e W8 ⟨rfl, hE8⟩
  have HB8 := Lib.hid (HB7.out.ext hE8)
  have HE8 := Lib.hid (HE7.out.trans hE8)
  clear hE8 HE7 HB7
  cases hb : overF nd ow items with
  | true =>
    have HY := Lib.hid (show checkF k1 k2 nd ow q items = 24 from HX.out.trans (if_pos hb))
    clear hb HX
    go_wp2
    go_ret
    exact ⟨by rw [HY.out]; rfl, HE8.out⟩
  | false =>
  have HX := Lib.hid (HX.out.trans (if_neg (by rw [hb]; decide)))
  clear hb
  go_wp2
  go_ret
  exact ⟨by rw [HX.out]; rfl, HE8.out⟩
end Go.Proofs.YtgclfmdpapadnaaDoor

open Go.RowKit Go.Shelf
namespace Go.Proofs.YtgclfmdpapadnaaDoor
open Go Go.Proofs Fm
attribute [local go_sem] Oper.semAt_some

set_option maxRecDepth 100000 in
set_option maxHeartbeats 4000000 in
theorem checkTells_any (w : World) (c : Cfg) (cv : Value) (hcv : CfgV w c cv) (l : List Int) (lv : Value) (hlv : intE.Row w l lv) (at' : Int) (_hat : isI64 at') (q : Int) (_hq : isI64 q) (items : List It) (iv : Value) (hiv : itE.Row w items iv) (s : List UInt8) (hsl : s.length ≤ 9223372036854775807) :
    Calls Tryd.prog 4 #[cv, lv, .int .i64 at', .int .i64 q, iv, .string (str s)] w fun e w' => e = .returned (.bool true) ∧ Ext w w' := by
  obtain ⟨rfl, -⟩ := hcv
  obtain ⟨k0, k1, k2, k3, k4⟩ := c
  obtain ⟨al, cl, rfl, hl1, hl2⟩ := hlv.slice
  obtain ⟨ai, ci, rfl, hi1, hi2⟩ := hiv.slice
  obtain ⟨IN, hIN⟩ : ∃ IN, IN = min items.length 30 := ⟨_, rfl⟩
  have hmin : min (items.length : Int) 30 = (IN : Int) := by omega
  have hs := slice_it_upto ai items.length ci IN (by omega)
  obtain ⟨I, hI⟩ : ∃ I, I = items.take IN := ⟨_, rfl⟩
  have HI := Lib.hid (show itE.Row w I (.slice ai IN ci) by rw [hI]; exact hiv.take (by omega))
  have HIn := Lib.hid (show I.length = IN by rw [hI, List.length_take]; omega)
  have hi30 : IN ≤ 30 := by omega
  have HR := Lib.hid hlv
  have hE1 := (Ext.refl w).alloc (.cells #[.int .i64 k0, .int .i64 k1, .int .i64 k2, .int .i64 k3, .int .i64 k4] 32)
  have hB1 := BoxL.new w [.int .i64 k0, .int .i64 k1, .int .i64 k2, .int .i64 k3, .int .i64 k4] 32
  have HE1 := Lib.hid hE1
  have HB1 := Lib.hid hB1
  have HSl := Lib.hid hsl
  clear hI hIN hlv hiv hl1 hi1 hE1 hB1
  simp only
  go_enter Tryd.func4, Tryd.ntmps4
  go_upto_region 1 with (fail)
  generalize w.alloc (.cells #[.int .i64 k0, .int .i64 k1, .int .i64 k2, .int .i64 k3, .int .i64 k4] 32) = W1 at *
  generalize w.heap.size = CB at *
  go_wp2_with fail
  refine (owned_any l at' W1 _ (HR.out.ext HE1.out)).mono ?_
  rintro e w2 ⟨v2, rfl, hN2, hE2⟩
  obtain ⟨A2, C2, rfl⟩ := hN2.slice
  obtain ⟨L, hL⟩ : ∃ L, L = ownedF l := ⟨_, rfl⟩
  have hO : RightO L := by rw [hL]; exact ownedF_right l
  have hLl : L.length ≤ 60 := by rw [hL, ownedF_len]; omega
  obtain ⟨OW, hOW⟩ : ∃ OW, OW = ownerF l at' := ⟨_, rfl⟩
  rw [← hL] at hN2
  rw [← hL, ← hOW]
  have HO := Lib.hid hO
  have HLl := Lib.hid hLl
  have HN2 := Lib.hid hN2.row
  have HE2 := Lib.hid (HE1.out.trans hE2)
  have HB2 := Lib.hid (HB1.out.ext hE2)
  clear hL hOW hO hLl hN2 hE2 HR HB1 HE1
  go_upto_region 3 with (fail)
  clear hmin hs
  go_wp2_with fail
  refine (few09_any I w2 _ (HI.out.ext HE2.out)).mono ?_
  cases hfw : fewF I with
  | false =>
    rintro e w3 ⟨rfl, hE3⟩
    have HE3 := Lib.hid hE3
    clear hfw hE3
    go_wp2_with fail
    refine (awake20_any w3).mono ?_
    rintro e w4 ⟨rfl, hE4⟩
    have HE4 := Lib.hid ((HE2.out.trans HE3.out).trans hE4)
    clear hE4
    go_wp2
    go_ret
    exact ⟨rfl, HE4.out⟩
  | true =>
  rintro e w3 ⟨rfl, hE3⟩
  have HE3 := Lib.hid hE3
  clear hfw hE3
  by_cases h100 : 100 < ((str s).size : Int)
  · go_wp2_with fail
    refine (awake20_any w3).mono ?_
    rintro e w4 ⟨rfl, hE4⟩
    have HE4 := Lib.hid ((HE2.out.trans HE3.out).trans hE4)
    clear hE4
    go_wp2
    go_ret
    exact ⟨rfl, HE4.out⟩
  go_wp2_with fail
  clear h100
  obtain ⟨X, hX⟩ : ∃ X, X = checkF k1 k2 L OW q I := ⟨_, rfl⟩
  have HF1 := Lib.hid (fun Y (hY : Ext w3 Y) => (show Calls Tryd.prog 14 #[.agg #[.int .i64 k0, .int .i64 k1, .int .i64 k2, .int .i64 k3, .int .i64 k4], .slice A2 L.length C2, .int .i64 OW, .int .i64 q, .slice ai IN ci] Y fun e w' => e = .returned (.int .i64 X) ∧ Ext Y w' by
    rw [hX]
    exact cFrag_any L I HO.out (by have := HLl.out; omega) (by rw [HIn.out]; omega) k0 k1 k2 k3 k4 OW q Y _ _ (HN2.out.ext (HE3.out.trans hY)) (HI.out.ext ((HE2.out.trans HE3.out).trans hY))))
  have HF2 := Lib.hid (fun Y (hY : Ext w3 Y) => (show Calls Tryd.prog 15 #[.agg #[.int .i64 k0, .int .i64 k1, .int .i64 k2, .int .i64 k3, .int .i64 k4], .slice A2 L.length C2, .int .i64 OW, .int .i64 q, .slice ai IN ci] Y fun e w' => e = .returned (.int .i64 X) ∧ Ext Y w' by
    rw [hX]
    exact rfrag20_any L I HO.out (by have := HLl.out; omega) (by rw [HIn.out]; omega) k0 k1 k2 k3 k4 OW q Y _ _ (HN2.out.ext (HE3.out.trans hY)) (HI.out.ext ((HE2.out.trans HE3.out).trans hY))))
  obtain ⟨r1, r2, hr⟩ : ∃ r1 r2, refsF L OW I s = (r1, r2) := ⟨_, _, rfl⟩
  obtain ⟨b, hb⟩ : ∃ b, b = !lostF L OW I s := ⟨_, rfl⟩
  have HR1 := Lib.hid (fun Y (hY : Ext w3 Y) => (show Calls Tryd.prog 16 #[.slice A2 L.length C2, .int .i64 OW, .slice ai IN ci, .string (str s)] Y fun e w' => e = .returned (.tuple #[.int .i64 r1, .int .i64 r2, .bool b]) ∧ Ext Y w' by
    have := cRefs_any L I HO.out (by have := HLl.out; omega) OW s HSl.out Y _ _ (HN2.out.ext (HE3.out.trans hY)) (HI.out.ext ((HE2.out.trans HE3.out).trans hY))
    rw [hr, ← hb] at this
    exact this))
  have HR2 := Lib.hid (fun Y (hY : Ext w3 Y) => (show Calls Tryd.prog 17 #[.slice A2 L.length C2, .int .i64 OW, .slice ai IN ci, .string (str s)] Y fun e w' => e = .returned (.tuple #[.int .i64 r1, .int .i64 r2]) ∧ Ext Y w' by
    have := rrefs20_any L I HO.out (by have := HLl.out; omega) OW s HSl.out Y _ _ (HN2.out.ext (HE3.out.trans hY)) (HI.out.ext ((HE2.out.trans HE3.out).trans hY))
    rw [hr] at this
    exact this))
  have hkey : (0 ≤ r1 ∧ b = true) ∨ (r1 < 0 ∧ 0 ≤ r2 ∧ b = true) ∨ (r1 < 0 ∧ r2 < 0 ∧ b = false) := by
    have e : b = !(decide (r1 < 0) && decide (r2 < 0)) := by rw [hb]; unfold lostF; rw [hr]
    rw [e]
    by_cases h1 : 0 ≤ r1
    · exact .inl ⟨h1, by simp [Int.not_lt.2 h1]⟩
    · by_cases h2 : 0 ≤ r2
      · exact .inr (.inl ⟨by omega, h2, by simp [Int.not_lt.2 h2]⟩)
      · exact .inr (.inr ⟨by omega, by omega, by simp; omega⟩)
  have HRi := Lib.hid (fun Y (hY : Ext w3 Y) => fright_any I Y _ (HI.out.ext ((HE2.out.trans HE3.out).trans hY)))
  have HT1 := Lib.hid (fun (h : fragB I = true) Y (hY : Ext w3 Y) => ctotal_any I (fair_of h) (by rw [HIn.out]; omega) Y _ (HI.out.ext ((HE2.out.trans HE3.out).trans hY)))
  have HT2 := Lib.hid (fun (h : fragB I = true) Y (hY : Ext w3 Y) => rtotal20_any I (fair_of h) (by rw [HIn.out]; omega) Y _ (HI.out.ext ((HE2.out.trans HE3.out).trans hY)))
  have hxx : (X != X) = false := by simp
  have h11 : (r1 != r1) = false := by simp
  have h22 : (r2 != r2) = false := by simp
  have HS : Hid (∀ w', Ext w3 w' → w'.cell? ⟨CB, 0, none⟩ = some (.int .i64 k0) ∧ w'.cell? ⟨CB, 1, none⟩ = some (.int .i64 k1) ∧ w'.cell? ⟨CB, 2, none⟩ = some (.int .i64 k2) ∧ w'.cell? ⟨CB, 3, none⟩ = some (.int .i64 k3) ∧ w'.cell? ⟨CB, 4, none⟩ = some (.int .i64 k4)) := Lib.hid (fun w' hE =>
    have hb := HB2.out.ext (HE3.out.trans hE)
    ⟨hb.cell 0 _ rfl, hb.cell 1 _ rfl, hb.cell 2 _ rfl, hb.cell 3 _ rfl, hb.cell 4 _ rfl⟩)
  have HD0 := Lib.hid (Ext.refl w3).drew
  have HEf := Lib.hid (fun Y (hY : Ext w3 Y) => (HE2.out.trans HE3.out).trans hY)
  clear hX hr hb HB2 HE3 HE2 HN2 HO HLl
  go_region_held3 (fun w' => w'.cell? ⟨CB, 0, none⟩ = some (.int .i64 k0) ∧ w'.cell? ⟨CB, 1, none⟩ = some (.int .i64 k1) ∧ w'.cell? ⟨CB, 2, none⟩ = some (.int .i64 k2) ∧ w'.cell? ⟨CB, 3, none⟩ = some (.int .i64 k3) ∧ w'.cell? ⟨CB, 4, none⟩ = some (.int .i64 k4))
    (first | exact HS.out _ (Ext.refl _) | exact HS.out _ HD0.out | exact HS.out _ E1.out | exact HS.out _ E2.out)
    (first
      | (go_at_call 14
         refine (HF1.out _ HD0.out).mono ?_
         rintro e y1 ⟨rfl, hE1⟩
         have E1 := Lib.hid (HD0.out.trans hE1)
         clear hE1)
      | (go_at_call 15
         refine (HF2.out _ E1.out).mono ?_
         rintro e y2 ⟨rfl, hE2⟩
         have E2 := Lib.hid (E1.out.trans hE2)
         clear hE2))
  go_wp2_with fail
  refine (HR1.out _ E2.out).mono ?_
  rintro e y3 ⟨rfl, hE3⟩
  have E3 := Lib.hid (E2.out.trans hE3)
  clear hE3 HR1 HF1 HF2 HS HD0 E1
  go_wp2_with fail
  refine (HR2.out _ E3.out).mono ?_
  rintro e y4 ⟨rfl, hE4⟩
  have E4 := Lib.hid (E3.out.trans hE4)
  clear hE4 HR2 E2 E3
  rcases hkey with ⟨g1, rfl⟩ | ⟨g1, g2, rfl⟩ | ⟨g1, g2, rfl⟩
  all_goals
    go_wp2_with fail
    refine (HRi.out _ E4.out).mono ?_
    cases hfr : fragB I with
    | false =>
      rintro e y5 ⟨rfl, hE5⟩
      have E5 := Lib.hid (E4.out.trans hE5)
      clear hE5 HRi hfr HT1 HT2 E4
      go_wp2_with fail
      refine (awake20_any _).mono ?_
      rintro e y6 ⟨rfl, hE6⟩
      have E6 := Lib.hid (E5.out.trans hE6)
      clear hE6
      go_wp2
      go_ret
      exact ⟨rfl, HEf.out _ E6.out⟩
    | true =>
      have HT1 := Lib.hid (HT1.out hfr)
      have HT2 := Lib.hid (HT2.out hfr)
      rintro e y5 ⟨rfl, hE5⟩
      have E5 := Lib.hid (E4.out.trans hE5)
      clear hE5 HRi hfr E4
      generalize totalF I = T at *
      have htt : (T == T) = true := by simp
      go_wp2_with fail
      refine (HT1.out _ E5.out).mono ?_
      rintro e y6 ⟨rfl, hE6⟩
      have E6 := Lib.hid (E5.out.trans hE6)
      clear hE6 HT1 E5
      go_wp2_with fail
      refine (HT2.out _ E6.out).mono ?_
      rintro e y7 ⟨rfl, hE7⟩
      have E7 := Lib.hid (E6.out.trans hE7)
      clear hE7 HT2 E6
      go_wp2_with fail
      refine (awake20_any _).mono ?_
      rintro e y8 ⟨rfl, hE8⟩
      have E8 := Lib.hid (E7.out.trans hE8)
      clear hE8
      go_wp2
      go_ret
      exact ⟨rfl, HEf.out _ E8.out⟩
end Go.Proofs.YtgclfmdpapadnaaDoor

namespace Go.Proofs.YtgclfmdpapadnaaDoor
open Go Go.Proofs Fm Go.RowKit Go.ChangeShapes Go.WideShapes Go.ChangeAt

set_option maxRecDepth 100000 in
theorem fields6 : Tryd.prog.underlying 27 = some (.struct #[⟨"Name", 9, 0, false, "", "", 0⟩, ⟨"Kind", 5, 1, false, "", "", 16⟩, ⟨"After", 25, 2, false, "", "", 24⟩, ⟨"Over", 9, 3, false, "", "", 48⟩, ⟨"Width", 3, 4, false, "", "", 64⟩, ⟨"Quota", 3, 5, false, "", "", 72⟩]) := by kernel_rfl
theorem cells_item : Tryd.prog.cellsOf 27 = 6 := by kernel_rfl
theorem cells_str : Tryd.prog.cellsOf 9 = 1 := by kernel_rfl
theorem cells_u8 : Tryd.prog.cellsOf 5 = 1 := by kernel_rfl
theorem cells_int : Tryd.prog.cellsOf 3 = 1 := by kernel_rfl
theorem cells_strs : Tryd.prog.cellsOf 25 = 1 := by kernel_rfl
theorem reads_strs : (rowE strE).Reads Tryd.prog 25 := reads_slice Tryd.underlying25 cells_str (reads_str Tryd.underlying9) (by decide)

set_option maxRecDepth 100000 in
theorem reads_it : itE.Reads Tryd.prog 27 := by
  intro H enc W base spare held fuel cs x h
  obtain ⟨xs, n, hfuel, hx, hlen, hxs, hf⟩ := DataW.trod_struct fields6 h
  rw [cells_item] at hlen
  match cs, hlen with
  | [v0, v1, v2, v3, v4, v5], _ =>
  have g0 : DataW.trod enc Tryd.prog W base spare held n 9 (([v0, v1, v2, v3, v4, v5].drop 0).take (Tryd.prog.cellsOf 9)) = xs[0]? := hf 0 _ rfl
  have g1 : DataW.trod enc Tryd.prog W base spare held n 5 (([v0, v1, v2, v3, v4, v5].drop 1).take (Tryd.prog.cellsOf 5)) = xs[1]? := hf 1 _ rfl
  have g2 : DataW.trod enc Tryd.prog W base spare held n 25 (([v0, v1, v2, v3, v4, v5].drop 2).take (Tryd.prog.cellsOf 25)) = xs[2]? := hf 2 _ rfl
  have g3 : DataW.trod enc Tryd.prog W base spare held n 9 (([v0, v1, v2, v3, v4, v5].drop 3).take (Tryd.prog.cellsOf 9)) = xs[3]? := hf 3 _ rfl
  have g4 : DataW.trod enc Tryd.prog W base spare held n 3 (([v0, v1, v2, v3, v4, v5].drop 4).take (Tryd.prog.cellsOf 3)) = xs[4]? := hf 4 _ rfl
  have g5 : DataW.trod enc Tryd.prog W base spare held n 3 (([v0, v1, v2, v3, v4, v5].drop 5).take (Tryd.prog.cellsOf 3)) = xs[5]? := hf 5 _ rfl
  rw [cells_str] at g0 g3
  rw [cells_u8] at g1
  rw [cells_strs] at g2
  rw [cells_int] at g4 g5
  match xs, hxs with
  | [y0, y1, y2, y3, y4, y5], _ =>
  obtain ⟨a0, r0, l0⟩ := reads_str Tryd.underlying9 enc W base spare held n [v0] y0 g0
  obtain ⟨a1, r1⟩ := reads_u8 Tryd.underlying5 enc W base spare held n [v1] y1 g1
  obtain ⟨a2, r2⟩ := reads_strs enc W base spare held n [v2] y2 g2
  obtain ⟨a3, r3, l3⟩ := reads_str Tryd.underlying9 enc W base spare held n [v3] y3 g3
  obtain ⟨a4, r4, l4⟩ := reads_int Tryd.underlying3 enc W base spare held n [v4] y4 g4
  obtain ⟨a5, r5, l5⟩ := reads_int Tryd.underlying3 enc W base spare held n [v5] y5 g5
  exact ⟨⟨a0, a1, a2, a3, a4, a5⟩, r0, r1, r2, r3, r4, r5, l0, l3, l4, l5⟩
theorem reads_items : (rowE itE).Reads Tryd.prog 22 := reads_slice Tryd.underlying22 cells_item reads_it (by decide)
end Go.Proofs.YtgclfmdpapadnaaDoor

namespace Fm
open Go Go.RowKit
end Fm
namespace Go.Proofs.YtgclfmdpapadnaaDoor
open Go Go.Proofs Fm Go.RowKit Go.ChangeShapes Go.WideShapes Go.ChangeAt
theorem cells_intN : Tryd.prog.cellsOf 3 = 1 := by kernel_rfl
theorem reads_intsN : (rowE intE).Reads Tryd.prog 33 := reads_slice Tryd.underlying33 cells_intN (reads_int Tryd.underlying3) (by decide)
end Go.Proofs.YtgclfmdpapadnaaDoor
