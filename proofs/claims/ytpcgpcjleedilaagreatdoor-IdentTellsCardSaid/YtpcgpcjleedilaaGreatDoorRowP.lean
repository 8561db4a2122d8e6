/- From a row's reading of a path to its parts. -/
import Derived.Test.YtpcgpcjleedilaaGreatDoorIdRc
import Derived.Test.YtpcgpcjleedilaaGreatDoorIdY
import Derived.Deep.RegionHeld3
import Derived.Test.YtpcgpcjleedilaaGreatDoorVaA
import Derived.ProofKit
import Derived.OpenShut
import Derived.ShutString
import Derived.ChangeOld
import Derived.Test.YtpcgpcjleedilaaGreatDoorIdC
import Derived.LaidLaws
import Derived.Lib.LaidTab
import Derived.Test.YtpcgpcjleedilaaGreatDoorProg
open Go.RowKit Go.Shelf
namespace Go.Proofs.YtpcgpcjleedilaaGreatDoor
open Go Go.Proofs Fm

set_option maxRecDepth 100000 in
set_option maxHeartbeats 2000000 in
theorem rowner12_any (s : List UInt8) (hs : s.length ≤ 9223372036854775807) (w : World) :
    Calls Tryz.prog 12 #[.string (str s)] w (OwnerPost s w) := by
  have HC := Lib.hid (rparse12_any s hs w)
  go_enter Tryz.func12, Tryz.ntmps12
  go_wp2_with fail
  refine HC.out.mono ?_
  rintro e w1 ⟨v, rfl, hE1, hN, hS⟩
  cases hp : parseP s with
  | none =>
    have HX := Lib.hid (show ownerS s = none by unfold ownerS; rw [hp]; rfl)
    obtain rfl := hN hp
    have HE1 := Lib.hid (hE1.alloc (.cells #[.int .i64 0, .slice none 0 0] 24))
    have hb := BoxL.new w1 [.int .i64 0, .slice none 0 0] 24
    clear hN hS hp hE1
    go_upto_region 2 with (fail)
    generalize w1.alloc (.cells #[.int .i64 0, .slice none 0 0] 24) = W2 at *
    have p0 := hb.cell 0 _ rfl
    have p1 := hb.cell 1 _ rfl
    clear hb
    go_wp2
    go_ret2
    exact ⟨by rw [HX.out]; rfl, HE1.out⟩
  | some p =>
    have HX := Lib.hid (show ownerS s = (upP p).map showP by unfold ownerS; rw [hp]; rfl)
    obtain ⟨a, m, c, rfl, hO, hfl⟩ := hS p hp
    have hlen := parse_steps hp
    have HPB := Lib.hid (pthB_iff.1 (parseP_iff.1 hp).1).2
    obtain ⟨rfl, hb1, hb2⟩ := ownSt_bounds hO
    have hb := BoxL.new w1 [.int .i64 p.flow, .slice a p.steps.length c] 24
    have hE2 := hE1.alloc (.cells #[.int .i64 p.flow, .slice a p.steps.length c] 24)
    have hO2 := hO.ext ((Ext.refl w1).alloc (.cells #[.int .i64 p.flow, .slice a p.steps.length c] 24))
    have HF := Lib.hid hfl
    have hzw := hE1.size
    clear hN hS hp hE1 hO hfl
    go_upto_region 2 with (fail)
    generalize w1.alloc (.cells #[.int .i64 p.flow, .slice a p.steps.length c] 24) = W2 at *
    have p0 := hb.cell 0 _ rfl
    have p1 := hb.cell 1 _ rfl
    have hz2 := hb.lt
    have HB := Lib.hid hb
    have HE := Lib.hid hE2
    have HO := Lib.hid hO2
    clear hb hE2 hO2
    rcases snoc_cases p.steps with hst | ⟨l, x, hst⟩
    · have HY := Lib.hid (show ownerS s = none by rw [HX.out, upP_nil hst]; rfl)
      have h0 : p.steps.length = 0 := by rw [hst]; rfl
      rw [h0] at p1 hb1
      clear HX hst h0 HO HB HPB
      go_wp2
      go_ret2
      exact ⟨by rw [HY.out]; rfl, HE.out⟩
    · have h1 : p.steps.length = l.length + 1 := by rw [hst]; simp
      have HXs := Lib.hid (show ownerS s = some (showP ⟨p.flow, l ++ upS x⟩) by rw [HX.out, upP_snoc hst]; rfl)
      have hxp := (stpB_iff.1 (HPB.out x (by rw [hst]; simp))).2
      have hO := HO.out
      rw [h1, hst] at hO
      rw [h1] at p1 hb1 HB hlen
      have HWF := Lib.hid hO.2
      have HSR := Lib.hid (fun (W : World) (h : Ext W2 W) => src_st hO.row h)
      clear HX h1 hst HO HPB
      obtain ⟨g, cap, he⟩ := ownsRow_succ (show W2.ownsRow w.heap.size 27 2 (.slice a (l.length + 1) c) (l.length + 1) (stpsCells (l ++ [x])) by have := hO.1; rwa [List.length_append, List.length_singleton] at this)
      injection he with e1 e2 e3
      subst e1 e3
      clear hO
      go_upto_region 5 with (fail)
      have hE3 := (Ext.refl W2).alloc (.cells #[] 27)
      have HB3 := Lib.hid (HB.out.ext hE3)
      have HE3 := Lib.hid (HE.out.trans hE3)
      have HSR3 := Lib.hid (HSR.out _ hE3)
      have HMK := Lib.hid (made_st W2)
      have HZ := Lib.hid hE3.size
      have hll : (l ++ [x]).length = l.length + 1 := by simp
      rw [hll] at HSR3
      clear p0 p1 hE3 HSR
      have p0 := HB3.out.cell 0 _ rfl
      have p1 := HB3.out.cell 1 _ rfl
      go_wp2_with (at_builtin; refine wpList_appAt _ elem_step rfl _ _ 22 rfl W2.heap.size _ 0 [] rfl HMK.out _ (l.length + 1) (stpsCells (l ++ [x])) rfl HSR3.out ?c1 ?c2 HZ.out ?_)
      case c1 => unfold maxLen; omega
      case c2 => omega
      intro v' w5 hown' hgrow hat
      have hO5 : OwnSt 27 W2.heap.size w5 v' (l ++ [x]) := ⟨by rw [hll]; simpa using hown', HWF.out⟩
      have hrow5 : w5.ownsRow W2.heap.size 27 2 v' (l.length + 1) (stpsCells (l ++ [x])) := by simpa using hown'
      obtain ⟨g5, cap5, rfl⟩ := ownsRow_succ hrow5
      have hcap := (ownSt_bounds hO5).2
      rw [hll] at hcap
      obtain ⟨hcap1, hcap2⟩ := hcap
      have HB5 := Lib.hid (HB3.out.kept hgrow (fun e => by have e : W2.heap.size = w1.heap.size := by injection e
                                                           omega))
      have HE5 := Lib.hid (HE3.out.grown hgrow (fun k e => by have e : W2.heap.size = k := by injection e
                                                              omega))
      have hg5 := hO5.lt g5 rfl
      obtain ⟨y0, y1, hO6⟩ := hO5.setLast (-1) (by unfold isI64; omega)
      clear hgrow hat hown' hrow5 HB HE HB3 HE3 HSR3 HMK HZ p0 p1 hll
      by_cases hpl : x.place = -1
      · have HY := Lib.hid (show ownerS s = some (showP ⟨p.flow, l⟩) by rw [HXs.out]; unfold upS; rw [if_pos hpl, List.append_nil])
        have ht : ¬ 0 ≤ x.place := by omega
        have hOf := hO5.front
        have q0 := HB5.out.cell 0 _ rfl
        have q1 := HB5.out.cell 1 _ rfl
        have q2 := HB5.out.free 1
        have hgs := grown_set w5 w1.heap.size 1 (.slice (some ⟨g5, 0, none⟩) l.length cap5)
        have HB7 := Lib.hid (HB5.out.set 1 (by simp) (.slice (some ⟨g5, 0, none⟩) l.length cap5))
        have HE7 := Lib.hid (HE5.out.setCell (p := ⟨w1.heap.size, 1, none⟩) (by show w.heap.size ≤ w1.heap.size; omega) (.slice (some ⟨g5, 0, none⟩) l.length cap5))
        have hO7 := (show OwnSt 27 W2.heap.size (w5.setCell ⟨w1.heap.size, 1, none⟩ (.slice (some ⟨g5, 0, none⟩) l.length cap5)) (.slice (some ⟨g5, 0, none⟩) l.length cap5) l from
          ⟨World.ownsRow.kept hOf.1 hgs (.inr (fun e => by injection e with e; have e : g5 = w1.heap.size := e; omega)), hOf.2⟩)
        have HV := Lib.hid (show PthV (w5.setCell ⟨w1.heap.size, 1, none⟩ (.slice (some ⟨g5, 0, none⟩) l.length cap5)) ⟨p.flow, l⟩ (.agg #[.int .i64 p.flow, .slice (some ⟨g5, 0, none⟩) l.length cap5]) from ⟨_, _, _, rfl, hO7.row, HF.out⟩)
        have hs0 : (0 : Int) ≤ (l.length : Int) := by omega
        have hs1 : (l.length : Int) ≤ (cap5 : Int) := by omega
        clear hgs hO7 hOf hO5 hO6 HB5 HE5 hpl hxp HXs
        go_upto_region 10 with (fail)
        generalize w5.setCell ⟨w1.heap.size, 1, none⟩ (.slice (some ⟨g5, 0, none⟩) l.length cap5) = W7 at *
        clear q0 q1 q2 y0 y1
        have q0 := HB7.out.cell 0 _ rfl
        have q1 := HB7.out.cell 1 _ rfl
        go_wp2_with fail
        refine (rshow12_any ⟨p.flow, l⟩ (by show l.length ≤ _; omega) _ _ HV.out).mono ?_
        rintro e w9 ⟨rfl, hE9⟩
        have HE9 := Lib.hid (HE7.out.trans hE9)
        clear hE9
        go_wp2
        go_ret2
        exact ⟨by rw [HY.out]; rfl, HE9.out⟩
      · have HY := Lib.hid (show ownerS s = some (showP ⟨p.flow, l ++ [⟨x.name, -1⟩]⟩) by rw [HXs.out]; unfold upS; rw [if_neg hpl])
        have ht : 0 ≤ x.place := by omega
        have HB6 := Lib.hid (HB5.out.kept (grown_set w5 g5 (l.length * 2 + 1) (.int .i64 (-1))) (fun e => by injection e; omega))
        have HE6 := Lib.hid (HE5.out.setCell (p := ⟨g5, l.length * 2 + 1, none⟩) (by show w.heap.size ≤ g5; omega) (.int .i64 (-1)))
        have HO6 := Lib.hid hO6
        clear hO5 HB5 HE5 hO6 hpl hxp HXs
        go_upto_region 9 with (fail)
        generalize w5.setCell ⟨g5, l.length * 2 + 1, none⟩ (.int .i64 (-1)) = W6 at *
        clear y0 y1
        have q0 := HB6.out.cell 0 _ rfl
        have q1 := HB6.out.cell 1 _ rfl
        have q2 := HB6.out.free 1
        have hgs := grown_set W6 w1.heap.size 1 (.slice (some ⟨g5, 0, none⟩) (l.length + 1) cap5)
        have HB7 := Lib.hid (HB6.out.set 1 (by simp) (.slice (some ⟨g5, 0, none⟩) (l.length + 1) cap5))
        have HE7 := Lib.hid (HE6.out.setCell (p := ⟨w1.heap.size, 1, none⟩) (by show w.heap.size ≤ w1.heap.size; omega) (.slice (some ⟨g5, 0, none⟩) (l.length + 1) cap5))
        have hO7 := (show OwnSt 27 W2.heap.size (W6.setCell ⟨w1.heap.size, 1, none⟩ (.slice (some ⟨g5, 0, none⟩) (l.length + 1) cap5)) (.slice (some ⟨g5, 0, none⟩) (l.length + 1) cap5) (l ++ [⟨x.name, -1⟩]) from
          ⟨World.ownsRow.kept HO6.out.1 hgs (.inr (fun e => by injection e with e; have e : g5 = w1.heap.size := e; omega)), HO6.out.2⟩)
        have HV := Lib.hid (show PthV (W6.setCell ⟨w1.heap.size, 1, none⟩ (.slice (some ⟨g5, 0, none⟩) (l.length + 1) cap5)) ⟨p.flow, l ++ [⟨x.name, -1⟩]⟩ (.agg #[.int .i64 p.flow, .slice (some ⟨g5, 0, none⟩) (l.length + 1) cap5]) from ⟨_, _, _, rfl, hO7.row, HF.out⟩)
        clear hgs hO7 HO6 HB6 HE6
        go_upto_region 10 with (fail)
        generalize W6.setCell ⟨w1.heap.size, 1, none⟩ (.slice (some ⟨g5, 0, none⟩) (l.length + 1) cap5) = W7 at *
        clear q0 q1 q2
        have q0 := HB7.out.cell 0 _ rfl
        have q1 := HB7.out.cell 1 _ rfl
        go_wp2_with fail
        refine (rshow12_any ⟨p.flow, l ++ [⟨x.name, -1⟩]⟩ (by simp; omega) _ _ HV.out).mono ?_
        rintro e w9 ⟨rfl, hE9⟩
        have HE9 := Lib.hid (HE7.out.trans hE9)
        clear hE9
        go_wp2
        go_ret2
        exact ⟨by rw [HY.out]; rfl, HE9.out⟩
theorem owner12_of {q : Pth} (h : parseP (pthS q) = some q) : ownerS (pthS q) = (upP q).map showP := by unfold ownerS; rw [h, Option.bind_some]
/-- So many owners are met, from p on. -/
def OwnR (p : Pth) (k : Nat) (up ok : Value) : Prop := ∃ q, parseP (pthS q) = some q ∧ deepP q + k = deepP p ∧ up = .string (str (((upP q).map showP).getD [])) ∧ ok = .bool (upP q).isSome
set_option maxRecDepth 100000 in
set_option maxHeartbeats 2000000 in
theorem rdeep12_any (s : List UInt8) (hs : s.length ≤ 9223372036854775807) (w : World) :
    Calls Tryz.prog 23 #[.string (str s)] w fun e w' => e = .returned (.int .i64 (deepS s : Nat)) ∧ Ext w w' := by
  have HC := Lib.hid (rowner12_any s hs w)
  go_enter Tryz.func23, Tryz.ntmps23
  go_wp2_with fail
  refine HC.out.mono ?_
  rintro e w1 ⟨rfl, hE1⟩
  have HE1 := Lib.hid hE1
  clear hE1
  cases hp : parseP s with
  | none =>
    have HX := Lib.hid (show ((deepS s : Nat) : Int) = 0 by rw [deepS_none hp]; rfl)
    have ho : ownerS s = none := by unfold ownerS; rw [hp]; rfl
    rw [ho, show ((none : Option (List UInt8)).isSome) = false from rfl, show (none : Option (List UInt8)).getD [] = [] from rfl]
    clear hp ho
    go_wp2
    refine wp_loop_rounds 1 ?_
    rw [rounds_succ]
    go_wp2
    go_ret
    exact ⟨by rw [HX.out]; rfl, HE1.out⟩
  | some p =>
    have HX := Lib.hid (deepS_some hp)
    have HD := Lib.hid (deepP_le hp)
    have hps := (parseP_show hp).2.2.1
    have HR0 := Lib.hid (show OwnR p 0 (.string (str ((ownerS s).getD []))) (.bool (ownerS s).isSome) from by
      refine ⟨p, by rw [hps]; exact hp, by omega, ?_, ?_⟩
      · unfold ownerS; rw [hp]; rfl
      · unfold ownerS; rw [hp]; simp)
    clear hps hp
    generalize (ownerS s).getD [] = u0 at *
    generalize (ownerS s).isSome = b0 at *
    go_wp2_with fail
    go_loopw [3, 4, 5] (fun n up ok wr => ∃ (k : Nat) (u : List UInt8) (b : Bool), n = .int .i64 k ∧ up = .string (str u) ∧ ok = .bool b ∧ Hid (OwnR p k (.string (str u)) (.bool b)) ∧ Hid (Ext w wr)) (fun n _ _ _ => 1000 - (intOf n).toNat)
    case atStart => exact ⟨0, u0, b0, rfl, rfl, rfl, HR0, HE1⟩
    case round =>
      clear HR0 HE1
      obtain ⟨k, u, b, rfl, rfl, rfl, HR, HEr⟩ := hrel
      obtain ⟨q, hpq, hdk, hu, hb⟩ := HR.out
      have hd4 := HD.out
      have hk : k ≤ 400 := by omega
      have hu' : u = ((upP q).map showP).getD [] := by injection hu with hu; exact str_inj hu
      have hb' : b = (upP q).isSome := by injection hb
      clear hu hb HR
      subst hu' hb'
      cases hq : upP q with
      | none =>
        have hk2 : k = deepS s := by
          have := deepP_zero.2 (upP_none.1 hq)
          rw [HX.out]; omega
        have HK := Lib.hid hk2
        clear hq hk2 hdk hpq
        rw [show (none : Option Pth).isSome = false from rfl]
        go_wp2
        go_ret
        exact ⟨by rw [← HK.out]; rfl, HEr.out⟩
      | some r =>
        have hrp := parseP_up hpq hq
        have hrs : ((some r).map showP).getD [] = pthS r := hrp.2
        have hrl : (pthS r).length ≤ 400 := (parseP_show hrp.1).2.2.2.1
        have hdr := upP_deep hq
        have HRP := Lib.hid hrp.1
        have HO := Lib.hid (rowner12_any (pthS r) (by omega) wr)
        rw [hrs, show (some r).isSome = true from rfl]
        clear hq hrp hrs
        go_wp2_with fail
        refine HO.out.mono ?_
        rintro e w5 ⟨rfl, hE5⟩
        have HE5 := Lib.hid (HEr.out.trans hE5)
        have HR5 := Lib.hid (show OwnR p (k + 1) (.string (str ((ownerS (pthS r)).getD []))) (.bool (ownerS (pthS r)).isSome) from
          ⟨r, HRP.out, by omega, by rw [owner12_of HRP.out], by rw [owner12_of HRP.out]; simp⟩)
        clear hE5 HO hdr hdk
        generalize (ownerS (pthS r)).getD [] = u5 at *
        generalize (ownerS (pthS r)).isSome = b5 at *
        go_wp2_with fail
        go_roundw
        case rel => exact ⟨k + 1, u5, b5, by go_num, rfl, rfl, HR5, HE5⟩
        case measure => simp [intOf]; omega
/-- A text's length. -/
def strLen : Value → Nat | .string s => s.size | _ => 0
/-- The owners that were met are not a. -/
def AbvR (a : List UInt8) (p : Pth) (up ok : Value) : Prop := ∃ (ds : List Pth) (q : Pth), chainP p = ds ++ chainP q ∧ a ∉ ds.map pthS ∧ parseP (pthS q) = some q ∧ up = .string (str (((upP q).map showP).getD [])) ∧ ok = .bool (upP q).isSome
set_option maxRecDepth 100000 in
set_option maxHeartbeats 2000000 in
theorem rabove12_any (a s : List UInt8) (hs : s.length ≤ 9223372036854775807) (w : World) :
    Calls Tryz.prog 25 #[.string (str a), .string (str s)] w fun e w' => e = .returned (.bool (aboveS a s)) ∧ Ext w w' := by
  have HC := Lib.hid (rowner12_any s hs w)
  go_enter Tryz.func25, Tryz.ntmps25
  go_wp2_with fail
  refine HC.out.mono ?_
  rintro e w1 ⟨rfl, hE1⟩
  have HE1 := Lib.hid hE1
  clear hE1
  cases hp : parseP s with
  | none =>
    have HX := Lib.hid (aboveS_right (a := a) hp)
    have ho : ownerS s = none := by unfold ownerS; rw [hp]; rfl
    rw [ho, show ((none : Option (List UInt8)).isSome) = false from rfl, show (none : Option (List UInt8)).getD [] = [] from rfl]
    clear hp ho
    go_wp2
    refine wp_loop_rounds 1 ?_
    rw [rounds_succ]
    go_wp2
    go_ret
    exact ⟨by rw [HX.out]; rfl, HE1.out⟩
  | some p =>
    have HX := Lib.hid (@chainS_above s a p hp)
    have hps := (parseP_show hp).2.2.1
    have HR0 := Lib.hid (show AbvR a p (.string (str ((ownerS s).getD []))) (.bool (ownerS s).isSome) from by
      refine ⟨[], p, rfl, by simp, by rw [hps]; exact hp, ?_, ?_⟩
      · unfold ownerS; rw [hp]; rfl
      · unfold ownerS; rw [hp]; simp)
    clear hps hp
    generalize (ownerS s).getD [] = u0 at *
    generalize (ownerS s).isSome = b0 at *
    go_wp2_with fail
    go_loopw [5, 6] (fun up ok wr => ∃ (u : List UInt8) (b : Bool), up = .string (str u) ∧ ok = .bool b ∧ Hid (AbvR a p (.string (str u)) (.bool b)) ∧ Hid (Ext w wr)) (fun up _ _ => strLen up)
    case atStart => exact ⟨u0, b0, rfl, rfl, HR0, HE1⟩
    case round =>
      clear HR0 HE1
      obtain ⟨u, b, rfl, rfl, HR, HEr⟩ := hrel
      obtain ⟨ds, q, hch, hna, hpq, hu, hb⟩ := HR.out
      have hu' : u = ((upP q).map showP).getD [] := by injection hu with hu; exact str_inj hu
      have hb' : b = (upP q).isSome := by injection hb
      clear hu hb HR
      subst hu' hb'
      cases hq : upP q with
      | none =>
        have HK := Lib.hid (show aboveS a s = false by
          cases h : aboveS a s with
          | false => rfl
          | true =>
            have := HX.out.1 h
            unfold chainS at this
            rw [hch, chainP_none hq, List.append_nil] at this
            exact absurd this hna)
        clear hq hch hna hpq
        rw [show (none : Option Pth).isSome = false from rfl]
        go_wp2
        go_ret
        exact ⟨by rw [HK.out]; rfl, HEr.out⟩
      | some r =>
        have hrp := parseP_up hpq hq
        have hrs : ((some r).map showP).getD [] = pthS r := hrp.2
        have hrl : (pthS r).length ≤ 400 := (parseP_show hrp.1).2.2.2.1
        have HRP := Lib.hid hrp.1
        have HO := Lib.hid (rowner12_any (pthS r) (by omega) wr)
        have hbe := str_beq (pthS r) a
        have hcr := chainP_some hq
        have HCH := Lib.hid (show chainP p = (ds ++ [r]) ++ chainP r by rw [hch, hcr, List.append_assoc]; rfl)
        rw [hrs, show (some r).isSome = true from rfl]
        by_cases hra : pthS r = a
        · have HK := Lib.hid (show aboveS a s = true from HX.out.2 (by
            unfold chainS
            rw [HCH.out, ← hra]
            exact List.mem_map_of_mem (by simp)))
          have hd : ((str (pthS r)).toList == (str a).toList) = true := by rw [hbe]; simp [hra]
          clear hq hrp hrs hbe hch hna hcr HCH hra HO
          go_wp2
          go_ret
          exact ⟨by rw [HK.out]; rfl, HEr.out⟩
        · have HNA := Lib.hid (show a ∉ (ds ++ [r]).map pthS by
            rw [List.map_append, List.mem_append]
            rintro (h | h)
            · exact hna h
            · rw [List.map_cons, List.map_nil, List.mem_singleton] at h; exact hra h.symm)
          have hd : ((str (pthS r)).toList == (str a).toList) = false := by rw [hbe]; simp [hra]
          have HSH := Lib.hid (show ((ownerS (pthS r)).getD []).length < (pthS r).length by
            rw [owner12_of HRP.out]
            cases hu2 : upP r with
            | none =>
              have := pthS_ne r
              cases h : pthS r with
              | nil => exact absurd h this
              | cons _ _ => simp
            | some t =>
              have h1 := (chainP_mem (p := r) (q := t) (by rw [chainP_some hu2]; exact List.mem_cons_self ..)).2.2.1
              have h2 : ((some t).map showP).getD [] = pthS t := (parseP_up HRP.out hu2).2
              rw [h2]; exact h1)
          clear hq hrp hrs hbe hch hna hcr hra
          go_wp2_with fail
          refine HO.out.mono ?_
          rintro e w5 ⟨rfl, hE5⟩
          have HE5 := Lib.hid (HEr.out.trans hE5)
          have HR5 := Lib.hid (show AbvR a p (.string (str ((ownerS (pthS r)).getD []))) (.bool (ownerS (pthS r)).isSome) from
            ⟨ds ++ [r], r, HCH.out, HNA.out, HRP.out, by rw [owner12_of HRP.out], by rw [owner12_of HRP.out]; simp⟩)
          clear hE5 HO
          generalize (ownerS (pthS r)).getD [] = u5 at *
          generalize (ownerS (pthS r)).isSome = b5 at *
          go_wp2_with fail
          go_roundw
          case rel => exact ⟨u5, b5, rfl, rfl, HR5, HE5⟩
          case measure => have := HSH.out; simp [strLen, str_size]; omega
end Go.Proofs.YtpcgpcjleedilaaGreatDoor

open Go.RowKit Go.Shelf
namespace Go.Proofs.YtpcgpcjleedilaaGreatDoor
open Go Go.Proofs Fm

theorem cmpB_ne {x y : List UInt8} (h : x ≠ y) : cmpB x y ≠ 0 ∧ decide (cmpB x y < 0) = decide (x < y) := by
  unfold cmpB
  by_cases h1 : x < y
  · rw [if_pos h1]; simp [h1]
  · rw [if_neg h1]
    have h2 : y < x := by
      rcases lt_tri x y with h3 | h3 | h3
      · exact absurd h3 h1
      · exact absurd h3 h
      · exact h3
    rw [if_pos h2]
    simp [h1]
theorem cmpI_ne {x y : Int} (h : x ≠ y) : cmpI x y ≠ 0 ∧ decide (cmpI x y < 0) = decide (x < y) := by
  unfold cmpI
  by_cases h1 : x < y
  · rw [if_pos h1]; simp [h1]
  · rw [if_neg h1, if_pos (by omega)]; simp [h1]
set_option maxRecDepth 100000 in
set_option maxHeartbeats 4000000 in
theorem rless12_some (a b : List UInt8) (p q : Pth) (hp : parseP a = some p) (hq : parseP b = some q) (ha : a.length ≤ 9223372036854775807) (hb : b.length ≤ 9223372036854775807) (w : World) :
    Calls Tryz.prog 27 #[.string (str a), .string (str b)] w fun e w' => e = .returned (.bool (lessS a b)) ∧ Ext w w' := by
  have HC := Lib.hid (rparse12_any a ha w)
  have HC2 := Lib.hid (fun w' => rparse12_any b hb w')
  have HX := Lib.hid (show lessS a b = decide (thanP p q < 0) by unfold lessS; rw [hp, hq])
  have hlp := parse_steps hp
  have hlq := parse_steps hq
  have HP := Lib.hid hp
  have HQ := Lib.hid hq
  clear hp hq
  go_enter Tryz.func27, Tryz.ntmps27
  go_wp2_with fail
  refine HC.out.mono ?_
  intro e w1 hpo
  obtain ⟨v, rfl, hE1, a1, m1, c1, rfl, hO, -⟩ := PathPost.path hpo
  rw [pthOr_some HP.out] at hO ⊢
  rw [show (parseP a).isSome = true by rw [HP.out]; rfl]
  obtain ⟨rfl, hb1, hb2⟩ := ownSt_bounds hO
  have hE2 := hE1.alloc (.cells #[.int .i64 p.flow, .slice a1 p.steps.length c1] 24)
  have HB := Lib.hid (BoxL.new w1 [.int .i64 p.flow, .slice a1 p.steps.length c1] 24)
  have HR := Lib.hid (hO.ext ((Ext.refl w1).alloc (.cells #[.int .i64 p.flow, .slice a1 p.steps.length c1] 24))).row
  have HE2 := Lib.hid hE2
  clear hpo hO hE1 hE2 HC
  go_upto_region 2 with (fail)
  generalize w1.alloc (.cells #[.int .i64 p.flow, .slice a1 p.steps.length c1] 24) = W2 at *
  generalize w1.heap.size = P at *
  go_wp2_with fail
  refine (HC2.out W2).mono ?_
  intro e w3 hpo
  obtain ⟨v, rfl, hE3, a2, m2, c2, rfl, hO, -⟩ := PathPost.path hpo
  rw [pthOr_some HQ.out] at hO ⊢
  rw [show (parseP b).isSome = true by rw [HQ.out]; rfl]
  obtain ⟨rfl, hb3, hb4⟩ := ownSt_bounds hO
  have hE4 := hE3.alloc (.cells #[.int .i64 q.flow, .slice a2 q.steps.length c2] 24)
  have HB2 := Lib.hid (BoxL.new w3 [.int .i64 q.flow, .slice a2 q.steps.length c2] 24)
  have HB1 := Lib.hid (HB.out.ext hE4)
  have HR2 := Lib.hid (hO.ext ((Ext.refl w3).alloc (.cells #[.int .i64 q.flow, .slice a2 q.steps.length c2] 24))).row
  have HR1 := Lib.hid (HR.out.ext hE4)
  have HE4 := Lib.hid (HE2.out.trans hE4)
  clear hpo hO hE3 hE4 HC2 HE2 HB HR
  go_upto_region 3 with (fail)
  generalize w3.alloc (.cells #[.int .i64 q.flow, .slice a2 q.steps.length c2] 24) = W4 at *
  generalize w3.heap.size = Q at *
  have p0 := HB1.out.cell 0 _ rfl
  have p1 := HB1.out.cell 1 _ rfl
  have q0 := HB2.out.cell 0 _ rfl
  have q1 := HB2.out.cell 1 _ rfl
  have HT := Lib.hid (show thanP p q = orI (cmpI p.flow q.flow) (cmpL p.steps q.steps) from rfl)
  obtain ⟨fp, ps⟩ := p
  obtain ⟨fq, qs⟩ := q
  simp only at p0 p1 q0 q1 hlp hlq hb1 hb2 hb3 hb4
  have HT := Lib.hid (show lessS a b = decide (orI (cmpI fp fq) (cmpL ps qs) < 0) by rw [HX.out, HT.out])
  have HR1 := Lib.hid (show stpE.Row W4 ps (.slice a1 ps.length c1) from HR1.out)
  have HR2 := Lib.hid (show stpE.Row W4 qs (.slice a2 qs.length c2) from HR2.out)
  have HB1 := Lib.hid (show BoxL W4 P [.int .i64 fp, .slice a1 ps.length c1] from HB1.out)
  have HB2 := Lib.hid (show BoxL W4 Q [.int .i64 fq, .slice a2 qs.length c2] from HB2.out)
  clear HX HP HQ
  by_cases hf : fp = fq
  case neg =>
    have hn : (fp != fq) = true := by simp [hf]
    have HK := Lib.hid (show lessS a b = decide (fp < fq) by
      rw [HT.out]
      obtain ⟨h1, h2⟩ := cmpI_ne hf
      unfold orI; rw [if_neg h1]; exact h2)
    clear hf HT HR1 HR2
    go_wp2
    go_ret
    exact ⟨by rw [HK.out]; rfl, HE4.out⟩
  have hn : (fp != fq) = false := by simp [hf]
  have HT := Lib.hid (show lessS a b = decide (cmpL (ps.drop 0) (qs.drop 0) < 0) by
    rw [HT.out, hf]; unfold orI; rw [if_pos (cmpI_good.self _)]; rfl)
  clear hf
  go_wp2_with fail
  clear p0 p1 q0 q1
  go_loopw [9, 10, 11] (fun i _ _ wr => ∃ k : Nat, k ≤ 400 ∧ k ≤ ps.length ∧ i = .int .i64 k ∧ Hid (lessS a b = decide (cmpL (ps.drop k) (qs.drop k) < 0)) ∧ Hid (Ext W4 wr)) (fun i _ _ _ => 500 - (intOf i).toNat)
  case atStart => exact ⟨0, by omega, by omega, rfl, HT, Lib.hid (Ext.refl W4)⟩
  case round =>
    clear HT
    obtain ⟨k, hk, hkl, rfl, HT, HEk⟩ := hrel
    have HKL := Lib.hid hkl
    have p1 := (HB1.out.ext HEk.out).cell 1 _ rfl
    have q1 := (HB2.out.ext HEk.out).cell 1 _ rfl
    by_cases h1 : k < ps.length
    case neg =>
      have hpk : k ≥ ps.length := by omega
      have HK := Lib.hid (show lessS a b = decide (ps.length < qs.length) by
        have := HKL.out
        rw [HT.out, List.drop_eq_nil_of_le hpk]
        by_cases h2 : k < qs.length
        · rw [List.drop_eq_getElem_cons h2]
          simp only [cmpL]
          simp; omega
        · rw [List.drop_eq_nil_of_le (by omega)]
          simp only [cmpL]
          simp; omega)
      have HE := Lib.hid (HE4.out.trans HEk.out)
      clear HT hpk
      go_wp2
      go_ret
      exact ⟨by rw [HK.out]; rfl, HE.out⟩
    by_cases h2 : k < qs.length
    case neg =>
      have hqk : k ≥ qs.length := by omega
      have HK := Lib.hid (show lessS a b = decide (ps.length < qs.length) by
        rw [HT.out, List.drop_eq_nil_of_le hqk, List.drop_eq_getElem_cons h1]
        simp only [cmpL]
        simp; omega)
      have HE := Lib.hid (HE4.out.trans HEk.out)
      clear HT hqk
      go_wp2
      go_ret
      exact ⟨by rw [HK.out]; rfl, HE.out⟩
    have hz1 := HB1.out.lt
    have hz2 := HB2.out.lt
    obtain ⟨b1, o1, rfl, hbb1, x0, x1, hs1⟩ := stp_at HR1.out (Ext.refl W4) k h1
    obtain ⟨b2, o2, rfl, hbb2, y0, y1, hs2⟩ := stp_at HR2.out (Ext.refl W4) k h2
    have HS := Lib.hid (cmpL_lt h1 h2)
    have HT2 := Lib.hid (show lessS a b = decide (orI (cmpS ps[k] qs[k]) (cmpL (ps.drop (k + 1)) (qs.drop (k + 1))) < 0) by rw [HT.out, HS.out])
    generalize ps[k] = x at *
    generalize qs[k] = y at *
    obtain ⟨nx, px⟩ := x
    obtain ⟨ny, py⟩ := y
    simp only at x0 x1 y0 y1
    have HC : Hid (∀ w', Ext wr w' → (w'.cell? ⟨P, 1, none⟩ = some (.slice (some ⟨b1, o1, none⟩) ps.length c1) ∧ w'.cell? ⟨Q, 1, none⟩ = some (.slice (some ⟨b2, o2, none⟩) qs.length c2) ∧ w'.cell? ⟨b1, o1 + k * 2, none⟩ = some (.string (str nx)) ∧ w'.cell? ⟨b1, o1 + k * 2 + 1, none⟩ = some (.int .i64 px) ∧ w'.cell? ⟨b2, o2 + k * 2, none⟩ = some (.string (str ny)) ∧ w'.cell? ⟨b2, o2 + k * 2 + 1, none⟩ = some (.int .i64 py))) := Lib.hid (fun w' h =>
      have h := HEk.out.trans h
      ⟨(HB1.out.ext h).cell 1 _ rfl, (HB2.out.ext h).cell 1 _ rfl, (h.cell (p := ⟨b1, _, none⟩) hbb1).trans x0, (h.cell (p := ⟨b1, _, none⟩) hbb1).trans x1, (h.cell (p := ⟨b2, _, none⟩) hbb2).trans y0, (h.cell (p := ⟨b2, _, none⟩) hbb2).trans y1⟩)
    clear x0 x1 y0 y1 hs1 hs2 HT HS hbb1 hbb2 hz1 hz2
    go_upto_region 10 with (fail)
    clear p1 q1
    go_cut [10, 11] from 38 to 81 (fun p q w' => ∃ X1 X2 : Nat, p = .pointer (some ⟨X1, 0, none⟩) ∧ q = .pointer (some ⟨X2, 0, none⟩) ∧ Hid (Ext wr w' ∧ BoxL w' X1 [.string (str nx), .int .i64 px] ∧ BoxL w' X2 [.string (str ny), .int .i64 py]))
    case first =>
      go_region_held3 (fun w' => w'.cell? ⟨P, 1, none⟩ = some (.slice (some ⟨b1, o1, none⟩) ps.length c1) ∧ w'.cell? ⟨Q, 1, none⟩ = some (.slice (some ⟨b2, o2, none⟩) qs.length c2) ∧ w'.cell? ⟨b1, o1 + k * 2, none⟩ = some (.string (str nx)) ∧ w'.cell? ⟨b1, o1 + k * 2 + 1, none⟩ = some (.int .i64 px) ∧ w'.cell? ⟨b2, o2 + k * 2, none⟩ = some (.string (str ny)) ∧ w'.cell? ⟨b2, o2 + k * 2 + 1, none⟩ = some (.int .i64 py))
        ((refine HC.out _ ?_; repeat (first | exact Ext.refl _ | refine Ext.drew ?_ | refine Ext.alloc ?_ _ | refine Ext.setCell ?_ (by simp) _)))
        (fail)
      all_goals go_wp2_with fail
      all_goals go_meet
      all_goals (case rel =>
        first
          | exact ⟨_, _, rfl, rfl, Lib.hid ⟨(((Ext.refl wr).alloc _).alloc _).drew, BoxL.ext (BoxL.new wr _ 27) ((Ext.refl _).alloc _).drew, by
              have := BoxL.new (wr.alloc (.cells #[.string (str nx), .int .i64 px] 27)) [.string (str ny), .int .i64 py] 27
              rw [show (wr.alloc (.cells #[.string (str nx), .int .i64 px] 27)).heap.size = wr.heap.size + 1 by simp] at this
              exact this.ext (Ext.refl _).drew⟩⟩
          | exact ⟨_, _, rfl, rfl, Lib.hid ⟨(((Ext.refl wr).alloc _).alloc _).drew, by
              have := BoxL.new (wr.alloc (.cells #[.string (str ny), .int .i64 py] 27)) [.string (str nx), .int .i64 px] 27
              rw [show (wr.alloc (.cells #[.string (str ny), .int .i64 py] 27)).heap.size = wr.heap.size + 1 by simp] at this
              exact this.ext (Ext.refl _).drew, BoxL.ext (BoxL.new wr _ 27) ((Ext.refl _).alloc _).drew⟩⟩)
    case rest =>
    obtain ⟨X1, X2, rfl, rfl, HCut⟩ := hcut
    have p0 := HCut.out.2.1.cell 0 _ rfl
    have p1 := HCut.out.2.1.cell 1 _ rfl
    have q0 := HCut.out.2.2.cell 0 _ rfl
    have q1 := HCut.out.2.2.cell 1 _ rfl
    have HEc := Lib.hid (HEk.out.trans HCut.out.1)
    have HE := Lib.hid (HE4.out.trans HEc.out)
    have es : ((str nx).toList == (str ny).toList) = decide (nx = ny) := str_beq _ _
    have el := bytesLt nx ny
    clear HC HCut
    by_cases hn : nx = ny
    case neg =>
      have f0 : ((str nx).toList == (str ny).toList) = false := by rw [es]; simpa using hn
      have HK := Lib.hid (show lessS a b = Op.bytesLess (str nx).toList (str ny).toList by
        rw [HT2.out, el]
        obtain ⟨h1, h2⟩ := cmpB_ne hn
        have h3 : cmpS ⟨nx, px⟩ ⟨ny, py⟩ = cmpB nx ny := by unfold cmpS orI; rw [if_neg h1]
        rw [h3]
        unfold orI
        rw [if_neg h1, h2])
      clear es hn HT2 el
      go_wp2
      go_ret
      exact ⟨by rw [HK.out]; rfl, HE.out⟩
    subst hn
    have f0 : ((str nx).toList == (str nx).toList) = true := by rw [es]; simp
    have h3 : cmpS ⟨nx, px⟩ ⟨nx, py⟩ = cmpI px py := by unfold cmpS orI; rw [if_pos (cmpB_good.self nx)]
    have HT3 := Lib.hid (show lessS a b = decide (orI (cmpI px py) (cmpL (ps.drop (k + 1)) (qs.drop (k + 1))) < 0) by rw [HT2.out, h3])
    clear es HT2 el h3
    by_cases hpp : px = py
    case neg =>
      have hn : (px != py) = true := by simp [hpp]
      have HK := Lib.hid (show lessS a b = decide (px < py) by
        rw [HT3.out]
        obtain ⟨h1, h2⟩ := cmpI_ne hpp
        unfold orI; rw [if_neg h1]; exact h2)
      clear hpp HT3
      go_wp2
      go_ret
      exact ⟨by rw [HK.out]; rfl, HE.out⟩
    have hn : (px != py) = false := by simp [hpp]
    have HK := Lib.hid (show lessS a b = decide (cmpL (ps.drop (k + 1)) (qs.drop (k + 1)) < 0) by
      rw [HT3.out, hpp]; unfold orI; rw [if_pos (cmpI_good.self _)])
    clear hpp HT3
    go_wp2_with fail
    go_roundw
    case rel => exact ⟨k + 1, by omega, by omega, by go_num, HK, HEc⟩
    case measure => simp [intOf]; omega
set_option maxRecDepth 100000 in
set_option maxHeartbeats 4000000 in
theorem rless12_none (a b : List UInt8) (h : parseP a = none ∨ parseP b = none) (ha : a.length ≤ 9223372036854775807) (hb : b.length ≤ 9223372036854775807) (w : World) :
    Calls Tryz.prog 27 #[.string (str a), .string (str b)] w fun e w' => e = .returned (.bool (lessS a b)) ∧ Ext w w' := by
  have HC := Lib.hid (rparse12_any a ha w)
  have HC2 := Lib.hid (fun w' => rparse12_any b hb w')
  have HX := Lib.hid (show lessS a b = false by
    unfold lessS
    rcases h with h | h
    · rw [h]
    · rw [h]
      cases parseP a <;> rfl)
  have hc : ((parseP a).isSome = false) ∨ ((parseP a).isSome = true ∧ (parseP b).isSome = false) := by
    rcases h with h | h
    · left; rw [h]; rfl
    · cases ha : parseP a with
      | none => left; rfl
      | some _ => right; rw [h]; exact ⟨rfl, rfl⟩
  clear h
  go_enter Tryz.func27, Tryz.ntmps27
  go_wp2_with fail
  refine HC.out.mono ?_
  intro e w1 hpo
  obtain ⟨v, rfl, hE1, a1, m1, c1, rfl, -, -⟩ := PathPost.path hpo
  have HE2 := Lib.hid (hE1.alloc (.cells #[.int .i64 (pthOr a).flow, .slice a1 m1 c1] 24))
  clear hpo hE1 HC
  go_upto_region 2 with (fail)
  generalize w1.alloc (.cells #[.int .i64 (pthOr a).flow, .slice a1 m1 c1] 24) = W2 at *
  go_wp2_with fail
  refine (HC2.out W2).mono ?_
  intro e w3 hpo
  obtain ⟨v, rfl, hE3, a2, m2, c2, rfl, -, -⟩ := PathPost.path hpo
  have HE4 := Lib.hid (HE2.out.trans (hE3.alloc (.cells #[.int .i64 (pthOr b).flow, .slice a2 m2 c2] 24)))
  clear hpo hE3 HC2 HE2
  rcases hc with hc | ⟨hc, hc2⟩
  · rw [hc]
    clear hc
    go_wp2
    go_ret
    exact ⟨by rw [HX.out]; rfl, HE4.out⟩
  · rw [hc, hc2]
    clear hc hc2
    go_wp2
    go_ret
    exact ⟨by rw [HX.out]; rfl, HE4.out⟩
theorem rless12_any (a b : List UInt8) (ha : a.length ≤ 9223372036854775807) (hb : b.length ≤ 9223372036854775807) (w : World) :
    Calls Tryz.prog 27 #[.string (str a), .string (str b)] w fun e w' => e = .returned (.bool (lessS a b)) ∧ Ext w w' := by
  cases hp : parseP a with
  | none => exact rless12_none a b (.inl hp) ha hb w
  | some p =>
    cases hq : parseP b with
    | none => exact rless12_none a b (.inr hq) ha hb w
    | some q => exact rless12_some a b p q hp hq ha hb w
end Go.Proofs.YtpcgpcjleedilaaGreatDoor

open Go.RowKit Go.Shelf
namespace Go.Proofs.YtpcgpcjleedilaaGreatDoor
open Go Go.Proofs Fm

set_option maxRecDepth 100000 in
set_option maxHeartbeats 8000000 in
theorem identTells_way (w : World) (p : Pth) (v : Value) (hv : PthV w p v) (a b nm : List UInt8) (k : Int) (hl : p.steps.length ≤ 30) (ha : a.length ≤ 500) (hb : b.length ≤ 500) (hn : nm.length ≤ 100) (hk : isI64 k) (hw : KW w) :
    Calls Tryz.prog 3 #[v, .string (str a), .string (str b), .string (str nm), .int .i64 k] w fun e w' => e = .returned (.bool true) ∧ Ext w w' := by
  obtain ⟨av, mv, cv, rfl, hr, hi⟩ := hv
  obtain ⟨av', cv', e, hcv1, hcv2⟩ := hr.slice
  injection e with e1 e2 e3
  subst e1 e2 e3
  have HV := Lib.hid (show PthV w p (.agg #[.int .i64 p.flow, .slice av p.steps.length cv]) from ⟨av, _, cv, rfl, hr, hi⟩)
  have HR := Lib.hid hr
  have HW := Lib.hid hw
  have HK := Lib.hid hk
  have s0 := str_size a
  have s1 := str_size b
  have s2 := str_size nm
  have d0 : ¬ (30 : Int) < (p.steps.length : Int) := by omega
  have d1 : ¬ (500 : Int) < (a.length : Int) := by omega
  have d2 : ¬ (500 : Int) < (b.length : Int) := by omega
  have d3 : ¬ (100 : Int) < (nm.length : Int) := by omega
  have HB := Lib.hid (BoxL.new w [.int .i64 p.flow, .slice av p.steps.length cv] 24)
  have HE0 := Lib.hid ((Ext.refl w).alloc (.cells #[.int .i64 p.flow, .slice av p.steps.length cv] 24))
  clear hr hi hw hk
  go_enter Tryz.func3, Tryz.ntmps3
  go_upto_region 1 with (fail)
  generalize w.alloc (.cells #[.int .i64 p.flow, .slice av p.steps.length cv] 24) = W1 at *
  have p0 := HB.out.cell 0 _ rfl
  have p1 := HB.out.cell 1 _ rfl
  go_wp2_with fail
  go_loopw [44, 12] (fun i _ wr => ∃ j : Nat, j ≤ p.steps.length ∧ i = .int .i64 j ∧ Hid (Ext W1 wr)) (fun i _ _ => p.steps.length - (intOf i).toNat)
  case atStart => exact ⟨0, by omega, rfl, Lib.hid (Ext.refl W1)⟩
  case round =>
    clear p0 p1
    obtain ⟨j, hj, rfl, HEk⟩ := hrel
    by_cases hlt : j < p.steps.length
    case pos =>
      obtain ⟨bb, off, rfl, hbb, c0, c1, hs⟩ := stp_at HR.out (HE0.out.trans HEk.out) j hlt
      generalize p.steps[j] = x at *
      obtain ⟨xn, xp⟩ := x
      simp only at c0 c1
      have sx := str_size xn
      have hEa := (Ext.refl wr).alloc (.cells #[.string (str xn), .int .i64 xp] 27)
      have hxb := BoxL.new wr [.string (str xn), .int .i64 xp] 27
      have HEa := Lib.hid (HEk.out.trans hEa)
      clear hs hEa HEk
      go_upto_region 6 with (fail)
      generalize wr.heap.size = XB at *
      generalize wr.alloc (.cells #[.string (str xn), .int .i64 xp] 27) = Wa at *
      clear c0 c1
      have x0 := hxb.cell 0 _ rfl
      have x1 := hxb.cell 1 _ rfl
      clear hxb
      by_cases hxl : xn.length ≤ 100
      · have hd : ¬ (100 : Int) < (xn.length : Int) := by omega
        go_wp2_with fail
        go_roundw
        case rel => exact ⟨j + 1, by omega, by go_num, HEa⟩
        case measure => simp [intOf]; omega
      · have hd : (100 : Int) < (xn.length : Int) := by omega
        go_wp2_with fail
        refine (awake12_any Wa (HW.out.ext (HE0.out.trans HEa.out))).mono ?_
        rintro e w5 ⟨rfl, hE5⟩
        have HE5 := Lib.hid ((HE0.out.trans HEa.out).trans hE5)
        clear hE5
        go_wp2
        go_ret
        exact ⟨rfl, HE5.out⟩
    case neg =>
      have HEw := Lib.hid (HE0.out.trans HEk.out)
      go_wp2_with fail
      refine (idParse_any a (by omega) wr (HW.out.ext HEw.out)).mono ?_
      intro e w1 hpo
      obtain ⟨v, rfl, hE1, a1, m1, c1, rfl, hO, hfl⟩ := PathPost.path hpo
      have hV1 : PthV w1 (pthOr a) (.agg #[.int .i64 (pthOr a).flow, .slice a1 m1 c1]) := ⟨a1, m1, c1, rfl, hO.row, hfl⟩
      have hE2 := hE1.alloc (.cells #[.int .i64 (pthOr a).flow, .slice a1 m1 c1] 24)
      have HX1 := Lib.hid (BoxL.new w1 [.int .i64 (pthOr a).flow, .slice a1 m1 c1] 24)
      have HV1 := Lib.hid (hV1.ext ((Ext.refl w1).alloc (.cells #[.int .i64 (pthOr a).flow, .slice a1 m1 c1] 24)))
      have HE2 := Lib.hid (HEk.out.trans hE2)
      clear hpo hE1 hO hfl hE2 hV1 HEw
      generalize hpa : pthOr a = pa at *
      generalize hfa : pa.flow = fa at *
      go_upto_region 10 with (fail)
      generalize w1.alloc (.cells #[.int .i64 fa, .slice a1 m1 c1] 24) = W2 at *
      generalize w1.heap.size = X1 at *
      go_wp2_with fail
      refine (rparse12_any a (by omega) W2).mono ?_
      intro e w3 hpo
      obtain ⟨v, rfl, hE3, a2, m2, c2, rfl, hO, hfl⟩ := PathPost.path hpo
      rw [hpa] at hO hfl ⊢
      rw [hfa] at hfl ⊢
      have hV2 : PthV w3 pa (.agg #[.int .i64 fa, .slice a2 m2 c2]) := ⟨a2, m2, c2, by rw [hfa], hO.row, by rw [hfa]; exact hfl⟩
      have hE4 := hE3.alloc (.cells #[.int .i64 fa, .slice a2 m2 c2] 24)
      have HX2 := Lib.hid (BoxL.new w3 [.int .i64 fa, .slice a2 m2 c2] 24)
      have HV2 := Lib.hid (hV2.ext ((Ext.refl w3).alloc (.cells #[.int .i64 fa, .slice a2 m2 c2] 24)))
      have HX1b := Lib.hid (HX1.out.ext hE4)
      have HV1b := Lib.hid (HV1.out.ext hE4)
      have HE4 := Lib.hid (HE2.out.trans hE4)
      clear hpo hE3 hO hfl hE4 hV2 HE2 HX1 HV1 hpa hfa
      go_upto_region 11 with (fail)
      generalize w3.alloc (.cells #[.int .i64 fa, .slice a2 m2 c2] 24) = W4 at *
      generalize w3.heap.size = X2 at *
      go_wp2_with fail
      refine (idOwner_any a (by omega) W4 (HW.out.ext (HE0.out.trans HE4.out))).mono ?_
      unfold OwnerPost
      rintro e w5 ⟨rfl, hE5⟩
      have HE5 := Lib.hid (HE4.out.trans hE5)
      have HX2b := Lib.hid (HX2.out.ext hE5)
      have HV2b := Lib.hid (HV2.out.ext hE5)
      have HX1c := Lib.hid (HX1b.out.ext hE5)
      have HV1c := Lib.hid (HV1b.out.ext hE5)
      clear hE5 HE4 HX2 HV2 HX1b HV1b
      go_wp2_with fail
      refine (rowner12_any a (by omega) w5).mono ?_
      unfold OwnerPost
      rintro e w6 ⟨rfl, hE6⟩
      have HE6 := Lib.hid (HE5.out.trans hE6)
      have HX2 := Lib.hid (HX2b.out.ext hE6)
      have HV2 := Lib.hid (HV2b.out.ext hE6)
      have HX1 := Lib.hid (HX1c.out.ext hE6)
      have HV1 := Lib.hid (HV1c.out.ext hE6)
      have HX0 := Lib.hid (HB.out.ext HE6.out)
      clear hE6 HE5 HX2b HV2b HX1c HV1c
      generalize (ownerS a).getD [] = ow at *
      generalize (ownerS a).isSome = ob at *
      generalize (parseP a).isSome = pb at *
      have hE6w := HE0.out.trans HE6.out
      have hss := sameP_true.2 (show pa = pa from rfl)
      have T1 := Lib.hid (fun w' (h : Ext w6 w') => idRight_any p w' _ (HV.out.ext (hE6w.trans h)))
      have T2 := Lib.hid (fun w' (h : Ext w6 w') => rright12_any p (by omega) w' _ (HV.out.ext (hE6w.trans h)))
      have T3 := Lib.hid (fun w' (h : Ext w6 w') => idShow_any p (by omega) w' (HW.out.ext (hE6w.trans h)) _ (HV.out.ext (hE6w.trans h)))
      have T4 := Lib.hid (fun w' (h : Ext w6 w') => rshow12_any p (by omega) w' _ (HV.out.ext (hE6w.trans h)))
      have T5 := Lib.hid (fun w' (h : Ext w6 w') => paths_any pa pa w' _ _ (HV1.out.ext h) (HV2.out.ext h))
      rw [hss] at T5
      have HS : Hid (∀ w', Ext w6 w' → (w'.cell? ⟨w.heap.size, 0, none⟩ = some (.int .i64 p.flow) ∧ w'.cell? ⟨w.heap.size, 1, none⟩ = some (.slice av p.steps.length cv) ∧ w'.cell? ⟨X1, 0, none⟩ = some (.int .i64 fa) ∧ w'.cell? ⟨X1, 1, none⟩ = some (.slice a1 m1 c1) ∧ w'.cell? ⟨X2, 0, none⟩ = some (.int .i64 fa) ∧ w'.cell? ⟨X2, 1, none⟩ = some (.slice a2 m2 c2))) := Lib.hid (fun w' h =>
        ⟨(HX0.out.ext h).cell 0 _ rfl, (HX0.out.ext h).cell 1 _ rfl, (HX1.out.ext h).cell 0 _ rfl, (HX1.out.ext h).cell 1 _ rfl, (HX2.out.ext h).cell 0 _ rfl, (HX2.out.ext h).cell 1 _ rfl⟩)
      have HE6w := Lib.hid hE6w
      have HE6 := Lib.hid (Ext.refl w6)
      have HD := Lib.hid (Ext.refl w6).drew
      clear hE6w hss HX0 HX1 HX2 HV1 HV2 HV HR
      generalize pthB p = PB at *
      generalize showP p = SH at *
      go_upto_region 13 with (fail)
      go_cut [106] from 74 to 106 (fun z w' => z = .bool false ∧ Hid (Ext w6 w'))
      case first =>
        go_region_held3 (fun w' => w'.cell? ⟨w.heap.size, 0, none⟩ = some (.int .i64 p.flow) ∧ w'.cell? ⟨w.heap.size, 1, none⟩ = some (.slice av p.steps.length cv) ∧ w'.cell? ⟨X1, 0, none⟩ = some (.int .i64 fa) ∧ w'.cell? ⟨X1, 1, none⟩ = some (.slice a1 m1 c1) ∧ w'.cell? ⟨X2, 0, none⟩ = some (.int .i64 fa) ∧ w'.cell? ⟨X2, 1, none⟩ = some (.slice a2 m2 c2))
          (first | exact HS.out _ HD.out | exact HS.out _ HE6.out | exact HS.out _ E1.out | exact HS.out _ E2.out | exact HS.out _ E3.out | exact HS.out _ E4.out | exact HS.out _ E5.out)
          (first
            | (go_at_call 13; refine (T1.out _ (by first | exact HD.out | exact E2.out)).mono ?_; rintro e z1 ⟨rfl, hE⟩; have E1 := Lib.hid ((by first | exact HD.out | exact E2.out : Ext w6 _).trans hE); clear hE)
            | (go_at_call 14; refine (T2.out _ (by first | exact HD.out | exact E1.out)).mono ?_; rintro e z2 ⟨rfl, hE⟩; have E2 := Lib.hid ((by first | exact HD.out | exact E1.out : Ext w6 _).trans hE); clear hE)
            | (go_at_call 15; refine (T3.out _ (by first | exact E1.out | exact E2.out | exact E4.out)).mono ?_; rintro e z3 ⟨rfl, hE⟩; have E3 := Lib.hid ((by first | exact E1.out | exact E2.out | exact E4.out : Ext w6 _).trans hE); clear hE)
            | (go_at_call 16; refine (T4.out _ (by first | exact E1.out | exact E2.out | exact E3.out)).mono ?_; rintro e z4 ⟨rfl, hE⟩; have E4 := Lib.hid ((by first | exact E1.out | exact E2.out | exact E3.out : Ext w6 _).trans hE); clear hE)
            | (go_at_call 17; refine (T5.out _ (by first | exact E3.out | exact E4.out)).mono ?_; rintro e z5 ⟨rfl, hE⟩; have E5 := Lib.hid ((by first | exact E3.out | exact E4.out : Ext w6 _).trans hE); clear hE))
        all_goals go_wp2_with fail
        all_goals go_meet
        all_goals (case rel => exact ⟨rfl, E5⟩)
      case rest =>
        obtain ⟨rfl, HQ0⟩ := hcut
        have HF0 := Lib.hid (HE6w.out.trans HQ0.out)
        clear HQ0 T1 T2 T3 T4 T5 HS HE6w HE6 HD
        go_wp2_with fail
        refine (idChild_any a nm (by omega) (by omega) _ (HW.out.ext HF0.out)).mono ?_
        rintro e y1 ⟨rfl, hE⟩
        have HF1 := Lib.hid (HF0.out.trans hE)
        clear hE HF0
        go_wp2_with fail
        refine (rchild12_any a nm (by omega) (by omega) _).mono ?_
        rintro e y2 ⟨rfl, hE⟩
        have HF2 := Lib.hid (HF1.out.trans hE)
        clear hE HF1
        go_wp2_with fail
        refine (idEach_any a k HK.out (by omega) _ (HW.out.ext HF2.out)).mono ?_
        rintro e y3 ⟨rfl, hE⟩
        have HF3 := Lib.hid (HF2.out.trans hE)
        clear hE HF2
        go_wp2_with fail
        refine (reach12_any a k HK.out (by omega) _).mono ?_
        rintro e y4 ⟨rfl, hE⟩
        have HF4 := Lib.hid (HF3.out.trans hE)
        clear hE HF3
        go_wp2_with fail
        refine (idDeep_any a (by omega) _ (HW.out.ext HF4.out)).mono ?_
        rintro e y5 ⟨rfl, hE⟩
        have HF5 := Lib.hid (HF4.out.trans hE)
        clear hE HF4
        go_wp2_with fail
        refine (rdeep12_any a (by omega) _).mono ?_
        rintro e y6 ⟨rfl, hE⟩
        have HF6 := Lib.hid (HF5.out.trans hE)
        clear hE HF5
        go_wp2_with fail
        refine (idAbove_any a b (by omega) (by omega) _ (HW.out.ext HF6.out)).mono ?_
        rintro e y7 ⟨rfl, hE⟩
        have HF7 := Lib.hid (HF6.out.trans hE)
        clear hE HF6
        go_wp2_with fail
        refine (rabove12_any a b (by omega) _).mono ?_
        rintro e y8 ⟨rfl, hE⟩
        have HF8 := Lib.hid (HF7.out.trans hE)
        clear hE HF7
        go_wp2_with fail
        refine (idLess_any a b (by omega) (by omega) _ (HW.out.ext HF8.out)).mono ?_
        rintro e y9 ⟨rfl, hE⟩
        have HF9 := Lib.hid (HF8.out.trans hE)
        clear hE HF8
        go_wp2_with fail
        refine (rless12_any a b (by omega) (by omega) _).mono ?_
        rintro e y10 ⟨rfl, hE⟩
        have HF10 := Lib.hid (HF9.out.trans hE)
        clear hE HF9
        go_wp2_with fail
        refine (awake12_any _ (HW.out.ext HF10.out)).mono ?_
        rintro e y11 ⟨rfl, hE⟩
        have HF11 := Lib.hid (HF10.out.trans hE)
        clear hE HF10
        go_wp2
        go_ret
        exact ⟨rfl, HF11.out⟩
set_option maxHeartbeats 1000000 in
theorem identTells_any (w : World) (p : Pth) (v : Value) (hv : PthV w p v) (a : List UInt8) (ha : a.length ≤ 9223372036854775807) (b : List UInt8) (hb : b.length ≤ 9223372036854775807) (nm : List UInt8) (hn : nm.length ≤ 9223372036854775807) (k : Int) (hk : isI64 k) (hw : KW w) :
    Calls Tryz.prog 3 #[v, .string (str a), .string (str b), .string (str nm), .int .i64 k] w fun e w' => e = .returned (.bool true) ∧ Ext w w' := by
  by_cases hall : p.steps.length ≤ 30 ∧ a.length ≤ 500 ∧ b.length ≤ 500 ∧ nm.length ≤ 100
  · exact identTells_way w p v hv a b nm k hall.1 hall.2.1 hall.2.2.1 hall.2.2.2 hk hw
  have s0 := str_size a
  have s1 := str_size b
  have s2 := str_size nm
  obtain ⟨av, mv, cv, rfl, hr, hi⟩ := hv
  obtain ⟨av', cv', e, hcv1, hcv2⟩ := hr.slice
  injection e with e1 e2 e3
  subst e1 e2 e3
  have HB := Lib.hid (BoxL.new w [.int .i64 p.flow, .slice av p.steps.length cv] 24)
  have HE0 := Lib.hid ((Ext.refl w).alloc (.cells #[.int .i64 p.flow, .slice av p.steps.length cv] 24))
  have HW := Lib.hid hw
  clear hr hi hw hk
  go_enter Tryz.func3, Tryz.ntmps3
  go_upto_region 1 with (fail)
  generalize w.alloc (.cells #[.int .i64 p.flow, .slice av p.steps.length cv] 24) = W1 at *
  have p0 := HB.out.cell 0 _ rfl
  have p1 := HB.out.cell 1 _ rfl
  have fin := Lib.hid ((awake12_any W1 (HW.out.ext HE0.out)).mono (fun e w' (h : e = .returned (.bool true) ∧ Ext W1 w') => (⟨h.1, HE0.out.trans h.2⟩ : e = .returned (.bool true) ∧ Ext w w')))
  clear HB HE0 HW
  by_cases cd0 : p.steps.length ≤ 30
  case neg =>
    have d0 : (30 : Int) < (p.steps.length : Int) := by omega
    clear hall
    go_wp2_with fail
    refine fin.out.mono ?_
    rintro e w5 ⟨rfl, hE5⟩
    go_wp2
    go_ret
    exact ⟨rfl, hE5⟩
  have d0 : ¬ (30 : Int) < (p.steps.length : Int) := by omega
  by_cases cd1 : a.length ≤ 500
  case neg =>
    have d1 : (500 : Int) < (a.length : Int) := by omega
    clear hall
    go_wp2_with fail
    refine fin.out.mono ?_
    rintro e w5 ⟨rfl, hE5⟩
    go_wp2
    go_ret
    exact ⟨rfl, hE5⟩
  have d1 : ¬ (500 : Int) < (a.length : Int) := by omega
  by_cases cd2 : b.length ≤ 500
  case neg =>
    have d2 : (500 : Int) < (b.length : Int) := by omega
    clear hall
    go_wp2_with fail
    refine fin.out.mono ?_
    rintro e w5 ⟨rfl, hE5⟩
    go_wp2
    go_ret
    exact ⟨rfl, hE5⟩
  have d2 : ¬ (500 : Int) < (b.length : Int) := by omega
  have d3 : (100 : Int) < (nm.length : Int) := by omega
  clear hall
  go_wp2_with fail
  refine fin.out.mono ?_
  rintro e w5 ⟨rfl, hE5⟩
  go_wp2
  go_ret
  exact ⟨rfl, hE5⟩
end Go.Proofs.YtpcgpcjleedilaaGreatDoor

namespace Fm
open Go Go.RowKit Go.ChangeShapes Go.WideShapes Go.ChangeAt

/-- What the reading of a slice of integers says: as the guide's skeleton has it. -/
def IsRow (k : IntKind) (w : World) (a : Option Addr) (len cap : Nat) (zs : List Int) : Prop :=
  (a = none ∧ len = 0 ∧ cap = 0 ∧ zs = []) ∨
  ∃ x, a = some x ∧ len ≤ cap ∧ cap ≤ maxLen ∧ zs.length = cap ∧ (∀ i, i < zs.length → w.cell? (x.add i) = some (.int k (zs.getD i 0))) ∧ ∀ n ∈ zs, (Lit.int k n).wf = true

theorem u8_of_wf {n : Int} (h : (Lit.int .u8 n).wf = true) : ((UInt8.ofNat n.toNat).toNat : Int) = n := by
  have : 0 ≤ n ∧ n ≤ 255 := by
    simp [Lit.wf, IntKind.min, IntKind.max, IntKind.signed, IntKind.bits] at h
    omega
  rw [toNat_ofNat_lt (by omega)]; omega

theorem i64_of_wf {n : Int} (h : (Lit.int .i64 n).wf = true) : isI64 n := by
  simp [Lit.wf, IntKind.min, IntKind.max, IntKind.signed, IntKind.bits] at h
  unfold isI64; omega

theorem IsRow.bytes {w : World} {a : Option Addr} {len cap : Nat} {zs : List Int} (h : IsRow .u8 w a len cap zs) :
    ∃ xs : List UInt8, xs.length = len ∧ Bytes w (.slice a len cap) xs := by
  rcases h with ⟨rfl, rfl, rfl, rfl⟩ | ⟨x, rfl, hl, hm, hz, hc, hw⟩
  · exact ⟨[], rfl, Bytes.nil w⟩
  · refine ⟨(zs.take len).map fun n => UInt8.ofNat n.toNat, by simp; omega, ?_⟩
    have hlen : ((zs.take len).map fun n => UInt8.ofNat n.toNat).length = len := by simp; omega
    refine ⟨some x, cap, by rw [hlen], by omega, hm, (fun h => by cases h), fun ad had h0 => ?_⟩
    cases had
    have h00 := hc 0 (by omega)
    have e0 : x.add 0 = x := by unfold Addr.add; rw [if_pos rfl]
    rw [e0] at h00
    have hs : x.spot = none := by
      cases hsp : x.spot with
      | none => rfl
      | some s =>
        unfold World.cell? at h00
        cases hb : w.heap[x.block]? with
        | none => rw [hb] at h00; cases h00
        | some o => rw [hb] at h00; cases o <;> simp [hsp] at h00
    refine ⟨hs, World.block_lt_of_cell? w x h00, fun j hj => ?_⟩
    have hj' : j < zs.length := by omega
    have hjl : j < len := by omega
    have hcj := hc j hj'
    have ea : x.add j = ⟨x.block, x.off + j, none⟩ := by
      unfold Addr.add; split
      · obtain ⟨b, o, s⟩ := x; simp at hs ⊢; exact ⟨by omega, hs⟩
      · rw [← hs]
    rw [ea] at hcj
    rw [hcj]
    have hg : zs.getD j 0 = zs[j] := by simp [List.getD, hj']
    have hwf := hw zs[j] (List.getElem_mem hj')
    rw [hg]
    simp [bv, hjl, hj']
    have := u8_of_wf hwf
    simp at this
    exact this.symm
end Fm

open Go.RowKit Go.Shelf
namespace Go.Proofs.YtpcgpcjleedilaaGreatDoor
open Go Go.Proofs Fm

theorem errAt_of {W : World} {n : String} {g g' : Nat} {t : TypeId} {cs : Array Value} {f : Nat} {nm : String} {d : DataW Unit} {p : List MemPlace} (hn : Tryz.prog.globalNamed n = some g') (hty : (Tryz.prog.globals[g']?).map (·.type) = some 92)
    (hg : Tryz.prog.globalNamed n = some g) (ht : (Tryz.prog.globals[g]?).map (·.type) = some t) (hv : W.var? Tryz.prog n = some cs) (hd : DataW.trod (fun _ => ()) Tryz.prog W 0 (fun _ => true) false f t cs.toList = some (.iface nm d, p)) : ErrAt W g' := by
  obtain rfl := Option.some.inj (hn.symm.trans hg)
  obtain rfl := Option.some.inj (hty.symm.trans ht)
  obtain ⟨l⟩ := cs
  obtain ⟨f1, u, v, e, _, _⟩ := iface_of_trod Tryz.underlying92 hd
  subst e
  exact ⟨_, by simpa using World.var?_cell hg hv 0, .inr ⟨u, v, rfl⟩⟩
theorem kw_of {W : World} {g1 g2 g3 : Nat} {t1 t2 t3 : TypeId} {c1 c2 c3 : Array Value} {f1 f2 f3 : Nat} {nm2 nm3 : String} {d2 d3 : DataW Unit} {p1 p2 p3 : List MemPlace}
    (hg1 : Tryz.prog.globalNamed "internal/strconv.uint64pow10" = some g1) (ht1 : (Tryz.prog.globals[g1]?).map (·.type) = some t1) (hv1 : W.var? Tryz.prog "internal/strconv.uint64pow10" = some c1) (hd1 : DataW.trod (fun _ => ()) Tryz.prog W 0 (fun _ => true) false f1 t1 c1.toList = some (Lib.tabData .u64 Lib.pow10Tab, p1))
    (hg2 : Tryz.prog.globalNamed "strconv.ErrSyntax" = some g2) (ht2 : (Tryz.prog.globals[g2]?).map (·.type) = some t2) (hv2 : W.var? Tryz.prog "strconv.ErrSyntax" = some c2) (hd2 : DataW.trod (fun _ => ()) Tryz.prog W 0 (fun _ => true) false f2 t2 c2.toList = some (.iface nm2 d2, p2))
    (hg3 : Tryz.prog.globalNamed "strconv.ErrRange" = some g3) (ht3 : (Tryz.prog.globals[g3]?).map (·.type) = some t3) (hv3 : W.var? Tryz.prog "strconv.ErrRange" = some c3) (hd3 : DataW.trod (fun _ => ()) Tryz.prog W 0 (fun _ => true) false f3 t3 c3.toList = some (.iface nm3 d3, p3)) : KW W := by
  refine ⟨?_, errAt_of (by kernel_rfl) (by kernel_rfl) hg2 ht2 hv2 hd2, errAt_of (by kernel_rfl) (by kernel_rfl) hg3 ht3 hv3 hd3⟩
  have hg : Tryz.prog.globalNamed "internal/strconv.uint64pow10" = some 5 := by kernel_rfl
  have hty : (Tryz.prog.globals[5]?).map (·.type) = some 168 := by kernel_rfl
  obtain rfl := Option.some.inj (hg.symm.trans hg1)
  obtain rfl := Option.some.inj (hty.symm.trans ht1)
  unfold Tab Lib.TabIs
  rw [hv1]
  congr 1
  have h := Lib.cells_of_tab Tryz.underlying168 Tryz.underlying148 (by kernel_rfl) (by kernel_rfl) hd1
  rw [← h]
end Go.Proofs.YtpcgpcjleedilaaGreatDoor

namespace Fm
open Go Go.RowKit Go.ChangeShapes Go.WideShapes Go.ChangeAt

/-- What reads as data of that type lies so. -/
def Elem.Reads {α : Type} (E : Elem α) (P : Program) (T : TypeId) : Prop :=
  ∀ {H : Type} (enc : TypeId × Value → H) (W : World) (base : Nat) (spare : Nat → Bool) (held : Bool) (fuel : Nat) (cs : List Value) (x : DataW H × List MemPlace),
    DataW.trod enc P W base spare held fuel T cs = some x → ∃ a : α, E.R W a (fun j => cs.getD j .nilFunc)
theorem reads_str {P : Program} {T : TypeId} (hT : P.underlying T = some .string) : strE.Reads P T := by
  intro H enc W base spare held fuel cs x h
  obtain ⟨s, rfl, -, hw⟩ := DataW.trod_string hT h
  refine ⟨s.data.toList, ?_, ?_⟩
  · show Value.string s = _
    rw [str_eta]
  · have e : s.data.toList.length = s.size := by rw [Array.length_toList]; rfl
    unfold maxLen at hw; omega
theorem reads_int {P : Program} {T : TypeId} (hT : P.underlying T = some (.int .i64)) : intE.Reads P T := by
  intro H enc W base spare held fuel cs x h
  obtain ⟨n, rfl, -, hw⟩ := DataW.trod_int hT h
  exact ⟨n, rfl, i64_of_wf hw⟩
theorem reads_slice {α : Type} {E : Elem α} {P : Program} {T e : TypeId} (hT : P.underlying T = some (.slice e)) (hsz : P.cellsOf e = E.sz) (hE : E.Reads P e) (hp : 0 < E.sz) : (rowE E).Reads P T := by
  intro H enc W base spare held fuel cs x h
  rcases DataW.trod_slice hT h with ⟨rfl, -⟩ | ⟨a, len, cap, elems, rest, m, hm, rfl, -, hba, hlc, hcm, hel, hat, -, -⟩
  · exact ⟨[], Elem.Row.void E W none⟩
  · have key : ∀ k, k ≤ len → ∃ l : List α, l.length = k ∧ ∀ i (hi : i < l.length), ∃ c : Nat → Value, E.R W l[i] c ∧ ∀ j, j < E.sz → W.cell? ((a.add (i * E.sz)).add j) = some (c j) := by
      intro k
      induction k with
      | zero => exact fun _ => ⟨[], rfl, fun i hi => by simp at hi⟩
      | succ k ih =>
        intro hk
        obtain ⟨l, hl, hr⟩ := ih (by omega)
        have h1 := hat k (by omega)
        rw [hsz, List.getElem?_eq_getElem (by omega)] at h1
        obtain ⟨cs', hc', ht'⟩ := Option.bind_eq_some_iff.1 h1
        obtain ⟨t, ht⟩ := hE enc W base spare held m cs' _ ht'
        obtain ⟨_, hl4, hcell⟩ := World.cells?_some hc'
        refine ⟨l ++ [t], by simp [hl], fun i hi => ?_⟩
        by_cases hik : i < l.length
        · rw [List.getElem_append_left hik]; exact hr i hik
        · have e : i = l.length := by simp at hi; omega
          subst e
          rw [List.getElem_append_right (by omega)]
          simp only [Nat.sub_self, List.getElem_cons_zero]
          refine ⟨_, ht, fun j hj => ?_⟩
          rw [hl, hcell j hj, List.getD_eq_getElem?_getD, List.getElem?_eq_getElem (by omega)]
          rfl
    obtain ⟨l, hl, hr⟩ := key len (Nat.le_refl _)
    refine ⟨l, ?_⟩
    show E.Row W l (.slice (some a) len cap)
    by_cases h0 : len = 0
    · have : l = [] := List.eq_nil_of_length_eq_zero (by omega)
      subst this h0
      exact ⟨some a, cap, rfl, by simp, hcm, (fun h => by cases h), fun _ _ => .nilFunc, fun h => by simp at h, fun i hi => by simp at hi⟩
    · obtain ⟨c, _, h00⟩ := hr 0 (by omega)
      have h00 := h00 0 hp
      rw [Nat.zero_mul] at h00
      have ea : (a.add 0).add 0 = a := by unfold Addr.add; rw [if_pos rfl, if_pos rfl]
      rw [ea] at h00
      have hs0 : a.spot = none := by
        cases hsp : a.spot with
        | none => rfl
        | some s =>
          unfold World.cell? at h00
          cases hb : W.heap[a.block]? with
          | none => rw [hb] at h00; cases h00
          | some o => rw [hb] at h00; cases o <;> simp [hsp] at h00
      obtain ⟨b, off, spot⟩ := a
      simp only at hs0
      subst hs0
      refine Elem.Row.mk hl.symm (by omega) hcm (World.block_lt_of_cell? W _ h00) (fun i hi => ?_)
      obtain ⟨c, h1, h2⟩ := hr i hi
      refine ⟨c, h1, fun j hj => ?_⟩
      have := h2 j hj
      rw [Addr.add_lit, Addr.add_lit, Nat.add_assoc] at this
      exact this
end Fm

namespace Go.Proofs.YtpcgpcjleedilaaGreatDoor
open Go Go.Proofs Fm Go.RowKit Go.ChangeShapes Go.WideShapes Go.ChangeAt

set_option maxRecDepth 100000 in
theorem fieldsStp : Tryz.prog.underlying 27 = some (.struct #[⟨"Name", 9, 0, false, "", "", 0⟩, ⟨"At", 3, 1, false, "", "", 16⟩]) := by kernel_rfl
set_option maxRecDepth 100000 in
theorem fieldsPth : Tryz.prog.underlying 24 = some (.struct #[⟨"Flow", 3, 0, false, "", "", 0⟩, ⟨"Steps", 22, 1, false, "", "", 8⟩]) := by kernel_rfl
theorem cellsP_stp : Tryz.prog.cellsOf 27 = 2 := by kernel_rfl
theorem cellsP_pth : Tryz.prog.cellsOf 24 = 2 := by kernel_rfl
theorem cellsP_str : Tryz.prog.cellsOf 9 = 1 := by kernel_rfl
theorem cellsP_int : Tryz.prog.cellsOf 3 = 1 := by kernel_rfl
theorem cellsP_stps : Tryz.prog.cellsOf 22 = 1 := by kernel_rfl
set_option maxRecDepth 100000 in
theorem reads_stp : stpE.Reads Tryz.prog 27 := by
  intro H enc W base spare held fuel cs x h
  obtain ⟨xs, n, hfuel, hx, hlen, hxs, hf⟩ := DataW.trod_struct fieldsStp h
  rw [cellsP_stp] at hlen
  match cs, hlen with
  | [v0, v1], _ =>
  have g0 : DataW.trod enc Tryz.prog W base spare held n 9 (([v0, v1].drop 0).take (Tryz.prog.cellsOf 9)) = xs[0]? := hf 0 _ rfl
  have g1 : DataW.trod enc Tryz.prog W base spare held n 3 (([v0, v1].drop 1).take (Tryz.prog.cellsOf 3)) = xs[1]? := hf 1 _ rfl
  rw [cellsP_str] at g0
  rw [cellsP_int] at g1
  match xs, hxs with
  | [y0, y1], _ =>
  obtain ⟨a0, r0, l0⟩ := reads_str Tryz.underlying9 enc W base spare held n [v0] y0 g0
  obtain ⟨a1, r1, l1⟩ := reads_int Tryz.underlying3 enc W base spare held n [v1] y1 g1
  exact ⟨⟨a0, a1⟩, r0, r1, l0, l1⟩
theorem reads_stps : (rowE stpE).Reads Tryz.prog 22 := reads_slice Tryz.underlying22 cellsP_stp reads_stp (by decide)
set_option maxRecDepth 100000 in
/-- A path that is handed in by value. -/
theorem pthv_of_val {H : Type} {enc : TypeId × Value → H} {W : World} {r : Reach} {b0 base : Nat} {spare : Nat → Bool} {held : Bool} {v : Value} {d : DataW H} {p : List MemPlace} (hv : Value.okWide Tryz.prog W r b0 24 v)
    (h : DataW.Trod enc Tryz.prog W base spare held 24 v d p) : ∃ x, PthV W x v := by
  obtain ⟨cs, rfl, hsz⟩ := okWide_struct fieldsPth hv
  obtain ⟨fuel, hf⟩ := h
  obtain ⟨xs, n, hfuel, hx, hlen, hxs, hf'⟩ := DataW.trod_struct fieldsPth (show DataW.trod enc Tryz.prog W base spare held fuel 24 cs.toList = some (d, p) by simpa [Value.cells] using hf)
  rw [cellsP_pth] at hlen
  match hcs : cs.toList, hlen with
  | [v0, v1], _ =>
  rw [hcs] at hf'
  have g0 : DataW.trod enc Tryz.prog W base spare held n 3 (([v0, v1].drop 0).take (Tryz.prog.cellsOf 3)) = xs[0]? := hf' 0 _ rfl
  have g1 : DataW.trod enc Tryz.prog W base spare held n 22 (([v0, v1].drop 1).take (Tryz.prog.cellsOf 22)) = xs[1]? := hf' 1 _ rfl
  rw [cellsP_int] at g0
  rw [cellsP_stps] at g1
  match xs, hxs with
  | [y0, y1], _ =>
  obtain ⟨a0, r0, l0⟩ := reads_int Tryz.underlying3 enc W base spare held n [v0] y0 g0
  obtain ⟨a1, r1⟩ := reads_stps enc W base spare held n [v1] y1 g1
  obtain ⟨a, c, e, _⟩ := Elem.Row.slice r1
  have ecs : cs = #[v0, v1] := by rw [← hcs]
  have e0 : v0 = .int .i64 a0 := r0
  have e1 : v1 = .slice a a1.length c := e
  have r1' : stpE.Row W a1 v1 := r1
  refine ⟨⟨a0, a1⟩, a, a1.length, c, ?_, by rw [← e1]; exact r1', l0⟩
  rw [ecs, e0, e1]
end Go.Proofs.YtpcgpcjleedilaaGreatDoor
