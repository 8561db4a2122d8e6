/- Walks: Few of law 11. -/
import Derived.Test.YtpcgpcjleedilaaGreatDoorPlW
import Derived.Test.YtpcgpcjleedilaaGreatDoorPlFj
import Derived.Test.YtpcgpcjleedilaaGreatDoorPlFh
import Derived.Test.YtpcgpcjleedilaaGreatDoorFaA
import Derived.Shelf.GgClosure.StringsIndexFuncTop
import Derived.Lib.SpaceUEq
import Derived.Test.YtpcgpcjleedilaaGreatDoorPlI
import Derived.Shelf.GgClosureLib.Lays
import Derived.Lib.LaidTab
import Derived.ChangeBears2
import Derived.Deep.Cut
import Derived.StillTailTactics
import Derived.BigQuiet
import Derived.Test.YtpcgpcjleedilaaGreatDoorTake
open Go.RowKit Go.Shelf
namespace Go.Proofs.YtpcgpcjleedilaaGreatDoor
open Go Go.Proofs Fm

theorem decD_one {u : Nat} (h : u < 10) : Lib.decDigits u = [UInt8.ofNat (48 + u)] := by rw [Lib.decDigits, dif_pos h]
theorem decD_more {u : Nat} (h : ¬ u < 10) : Lib.decDigits u = Lib.decDigits (u / 10) ++ [UInt8.ofNat (48 + u % 10)] := by rw [Lib.decDigits, dif_neg h]
set_option maxHeartbeats 1000000 in
theorem rdig12_any : ∀ (u : Nat) (w : World), u < 9223372036854775808 →
    Calls Tryz.prog 61 #[.int .i64 (u : Int)] w fun e w' => e = .returned (.string (str (Lib.decDigits u))) ∧ Ext w w' := by
  intro u
  induction u using Nat.strongRecOn with
  | _ u ih =>
  intro w hu
  have h0 : (0 : Int) ≤ (u : Int) := by omega
  obtain ⟨r, hr⟩ : ∃ r, r = u % 10 := ⟨_, rfl⟩
  have hm : IntKind.i64.wrap ((u : Int).tmod 10) = (r : Int) := by rw [Int.tmod_eq_emod_of_nonneg h0, IntWalk.i64_in _ (by omega)]; omega
  have hm2 : (u : Int) % 10 = (r : Int) := by omega
  have hw : IntKind.u8.wrap (r : Int) = (r : Int) := IntWalk.u8_in _ (by omega)
  have hw2 : IntKind.u8.wrap (48 + (r : Int)) = 48 + (r : Int) := IntWalk.u8_in _ (by omega)
  obtain ⟨ch, hch⟩ : ∃ ch, ch = UInt8.ofNat (48 + r) := ⟨_, rfl⟩
  have hx : (ch.toNat : Int) = 48 + (r : Int) := by rw [hch, UInt8.toNat_ofNat']; omega
  have hc := conv_one w hx
  have HE := Lib.hid ((Ext.refl w).alloc (.cells #[.int .u8 (48 + (r : Int))] 5))
  clear hx
  by_cases h : u < 10
  · have h10 : (u : Int) < 10 := by omega
    have HD := Lib.hid (show Lib.decDigits u = [ch] by rw [decD_one h, hch, hr, Nat.mod_eq_of_lt h])
    clear ih hr hch
    go_enter Tryz.func61, Tryz.ntmps61
    go_wp2
    go_ret
    exact ⟨by rw [HD.out]; rfl, HE.out⟩
  · have h10 : ¬ (u : Int) < 10 := by omega
    obtain ⟨q, hq⟩ : ∃ q, q = u / 10 := ⟨_, rfl⟩
    have HD := Lib.hid (show Lib.decDigits u = Lib.decDigits q ++ [ch] by rw [decD_more h, hch, hq, hr])
    have hd : IntKind.i64.wrap ((u : Int).tdiv 10) = (q : Int) := by rw [Int.tdiv_eq_ediv_of_nonneg h0, IntWalk.i64_in _ (by omega)]; omega
    have hd2 : (u : Int) / 10 = (q : Int) := by omega
    have hl := decDigits_le20 (u := q) (by omega)
    have hsa := fun w' => str_add (P := Tryz.prog) (Lib.decDigits q) [ch] (by simp; omega) w'
    have IH := Lib.hid (ih q (by omega))
    have hq64 : q < 9223372036854775808 := by omega
    clear ih hq hr hch
    go_enter Tryz.func61, Tryz.ntmps61
    go_wp2_with fail
    refine (IH.out _ hq64).mono ?_
    rintro e w1 ⟨rfl, hE1⟩
    go_wp2
    go_ret
    exact ⟨by rw [HD.out]; rfl, HE.out.trans hE1⟩
theorem rdig12_itoa {n : Int} (h0 : 0 ≤ n) (h1 : n ≤ 9223372036854775807) (w : World) :
    Calls Tryz.prog 61 #[.int .i64 n] w fun e w' => e = .returned (.string (str (Lib.itoa n))) ∧ Ext w w' := by
  have := rdig12_any n.toNat w (by omega)
  rw [← itoa_decD h0, show ((n.toNat : Nat) : Int) = n by omega] at this
  exact this

theorem rnum_go {s : List UInt8} {k : Nat} {n : Int} (h7 : k < 7) (hk : k < s.length) (hd : digB s[k] = true) :
    rnum (7 - k) n (s.drop k) = ((rnum (7 - (k + 1)) (n * 10 + ((s[k].toNat : Int) - 48)) (s.drop (k + 1))).1, (rnum (7 - (k + 1)) (n * 10 + ((s[k].toNat : Int) - 48)) (s.drop (k + 1))).2 + 1) := by
  rw [List.drop_eq_getElem_cons hk, show 7 - k = (7 - (k + 1)) + 1 by omega, rnum, if_pos hd]
theorem rnum_no {s : List UInt8} {k : Nat} {n : Int} (hk : k < s.length) (hd : digB s[k] = false) : rnum (7 - k) n (s.drop k) = (n, 0) := by
  rw [List.drop_eq_getElem_cons hk]
  cases 7 - k with
  | zero => rfl
  | succ f => rw [rnum, if_neg (by simp [hd])]
theorem rnum_end {s : List UInt8} {k : Nat} {n : Int} (h : 7 ≤ k ∨ s.length ≤ k) : rnum (7 - k) n (s.drop k) = (n, 0) := by
  rcases h with h | h
  · rw [show 7 - k = 0 by omega]; rfl
  · rw [List.drop_eq_nil_of_le h]
    cases 7 - k <;> rfl
set_option maxHeartbeats 2000000 in
theorem rnumber12_any (s : List UInt8) (hs : s.length ≤ 1000000) (w : World) :
    Calls Tryz.prog 51 #[.string (str s)] w fun e w' => e = .returned (.tuple #[.int .i64 (rnum 7 0 s).1, .int .i64 ((rnum 7 0 s).2 : Nat)]) ∧ w = w' ∧ 0 ≤ (rnum 7 0 s).1 ∧ (rnum 7 0 s).1 < 10000000 := by
  have hss := str_size s
  go_enter Tryz.func51, Tryz.ntmps51
  go_wp2_with fail
  go_loop [4, 5] (fun n i => ∃ (j : Nat) (z : Int), j ≤ s.length ∧ j ≤ 7 ∧ i = .int .i64 j ∧ n = .int .i64 z ∧ Hid (0 ≤ z ∧ z < 10 ^ j ∧ rnum 7 0 s = ((rnum (7 - j) z (s.drop j)).1, (rnum (7 - j) z (s.drop j)).2 + j))) (fun _ i => s.length - (intOf i).toNat)
  case atStart => exact ⟨0, 0, by omega, by omega, rfl, rfl, Lib.hid ⟨by omega, by simp, by simp⟩⟩
  case round =>
    obtain ⟨j, z, hj, hj7, rfl, rfl, HR⟩ := hrel
    have fin : (7 ≤ j ∨ s.length ≤ j ∨ ∃ h : j < s.length, digB s[j] = false) → z = (rnum 7 0 s).1 ∧ (j : Int) = ((rnum 7 0 s).2 : Nat) ∧ 0 ≤ (rnum 7 0 s).1 ∧ (rnum 7 0 s).1 < 10000000 := by
      intro h
      obtain ⟨h1, h2, h3⟩ := HR.out
      have hn : rnum (7 - j) z (s.drop j) = (z, 0) := by
        rcases h with h | h | ⟨h, h'⟩
        · exact rnum_end (.inl h)
        · exact rnum_end (.inr h)
        · exact rnum_no h h'
      rw [hn] at h3
      rw [h3]
      have : (10 : Int) ^ j ≤ 10000000 := by
        rcases (by omega : j = 0 ∨ j = 1 ∨ j = 2 ∨ j = 3 ∨ j = 4 ∨ j = 5 ∨ j = 6 ∨ j = 7) with h | h | h | h | h | h | h | h <;> subst h <;> decide
      refine ⟨rfl, by simp, h1, by show z < _; omega⟩
    have FIN := Lib.hid fin
    clear fin
    by_cases hlt : j < s.length
    case neg =>
      obtain ⟨f1, f2, f3, f4⟩ := FIN.out (.inr (.inl (by omega)))
      have F := Lib.hid (And.intro f1 f2)
      have F2 := Lib.hid (And.intro f3 f4)
      clear FIN HR f1 f2 f3 f4
      go_wp2
      go_ret2
      exact ⟨by rw [F.out.1, F.out.2]; rfl, rfl, F2.out⟩
    by_cases h7 : j < 7
    case neg =>
      obtain ⟨f1, f2, f3, f4⟩ := FIN.out (.inl (by omega))
      have F := Lib.hid (And.intro f1 f2)
      have F2 := Lib.hid (And.intro f3 f4)
      clear FIN HR f1 f2 f3 f4
      go_wp2
      go_ret2
      exact ⟨by rw [F.out.1, F.out.2]; rfl, rfl, F2.out⟩
    obtain ⟨x, hx⟩ : ∃ x, x = s[j]?.getD 0 := ⟨_, rfl⟩
    have hxs : x = s[j] := by rw [hx]; simp [hlt]
    have hix := run_index_str (P := Tryz.prog) Tryz.underlying9 s j hlt
    rw [← hx] at hix
    cases hb : digB x with
    | true =>
      obtain ⟨g1, g2⟩ := digB_iff.1 hb
      have hz10 : 0 ≤ z ∧ z < 1000000 := by
        obtain ⟨h1, h2, _⟩ := HR.out
        have : (10 : Int) ^ j ≤ 1000000 := by
          rcases (by omega : j = 0 ∨ j = 1 ∨ j = 2 ∨ j = 3 ∨ j = 4 ∨ j = 5 ∨ j = 6) with h | h | h | h | h | h | h <;> subst h <;> decide
        omega
      have HN : Hid (0 ≤ z * 10 + (x.toNat : Int) - 48 ∧ z * 10 + (x.toNat : Int) - 48 < 10 ^ (j + 1) ∧ rnum 7 0 s = ((rnum (7 - (j + 1)) (z * 10 + (x.toNat : Int) - 48) (s.drop (j + 1))).1, (rnum (7 - (j + 1)) (z * 10 + (x.toNat : Int) - 48) (s.drop (j + 1))).2 + (j + 1))) := Lib.hid (by
        obtain ⟨h1, h2, h3⟩ := HR.out
        have hp : (10 : Int) ^ (j + 1) = 10 ^ j * 10 := by rw [Int.pow_succ]
        refine ⟨by omega, by rw [hp]; omega, ?_⟩
        rw [h3, rnum_go h7 hlt (hxs ▸ hb), ← hxs, show z * 10 + (x.toNat : Int) - 48 = z * 10 + ((x.toNat : Int) - 48) by omega]
        simp only [Prod.mk.injEq, true_and]
        omega)
      obtain ⟨hz1, hz2⟩ := hz10
      have hxn : ((x.toNat : Nat) : Int) ≤ 57 ∧ (48 : Int) ≤ ((x.toNat : Nat) : Int) := by omega
      clear hb hxs hx HR FIN g1 g2
      generalize hy : ((x.toNat : Nat) : Int) = y at *
      clear hy
      obtain ⟨y1, y2⟩ := hxn
      have e1 : IntKind.i64.wrap (z * 10) = z * 10 := IntWalk.i64_in _ (by omega)
      have e2 : IntKind.i64.wrap (z * 10 + y) = z * 10 + y := IntWalk.i64_in _ (by omega)
      have e3 : IntKind.i64.wrap (z * 10 + y - 48) = z * 10 + y - 48 := IntWalk.i64_in _ (by omega)
      have e4 : IntKind.i64.wrap y = y := IntWalk.i64_in _ (by omega)
      go_wp2
      go_round
      case rel => exact ⟨j + 1, z * 10 + y - 48, by omega, by omega, by go_num, by go_num, HN⟩
      case measure => simp [intOf]; omega
    | false =>
      obtain ⟨f1, f2, f3, f4⟩ := FIN.out (.inr (.inr ⟨hlt, hxs ▸ hb⟩))
      have F := Lib.hid (And.intro f1 f2)
      have F2 := Lib.hid (And.intro f3 f4)
      unfold digB at hb
      simp only [Bool.and_eq_false_iff, decide_eq_false_iff_not] at hb
      clear FIN HR f1 f2 f3 f4 hxs hx
      generalize hy : ((x.toNat : Nat) : Int) = y at *
      by_cases k1 : 48 ≤ y
      · have k2 : ¬ y ≤ 57 := by omega
        clear hb hy
        go_wp2
        go_ret2
        exact ⟨by rw [F.out.1, F.out.2]; rfl, rfl, F2.out⟩
      · clear hb hy
        go_wp2
        go_ret2
        exact ⟨by rw [F.out.1, F.out.2]; rfl, rfl, F2.out⟩
end Go.Proofs.YtpcgpcjleedilaaGreatDoor

open Go.RowKit Go.Shelf
namespace Go.Proofs.YtpcgpcjleedilaaGreatDoor
open Go Go.Proofs Fm

theorem all_stp {α : Type} {l : List α} {f : α → Bool} {k : Nat} (hk : k < l.length) (h : (l.take k).all f = true) (hx : f l[k] = true) : (l.take (k + 1)).all f = true := by
  rw [List.take_succ_eq_append_getElem hk, List.all_append, h]; simp [hx]
theorem all_nost {α : Type} {l : List α} {f : α → Bool} {k : Nat} (hk : k < l.length) (hx : f l[k] = false) : l.all f = false := by
  rw [List.all_eq_false]
  exact ⟨l[k], List.getElem_mem hk, by simp [hx]⟩
set_option maxRecDepth 100000 in
set_option maxHeartbeats 2000000 in
theorem rright12_any (p : Pth) (hl : p.steps.length ≤ 10000) (w : World) (v : Value) (h : PthV w p v) :
    Calls Tryz.prog 14 #[v] w fun e w' => e = .returned (.bool (pthB p)) ∧ Ext w w' := by
  obtain ⟨a, m, c, rfl, hr, hi⟩ := h
  obtain ⟨a', c', e, hc1, hc2⟩ := hr.slice
  injection e with e1 e2 e3
  subst e1 e2 e3
  have HR := Lib.hid hr
  have HX := Lib.hid (show pthB p = (mayB p.flow && p.steps.all stpB) from rfl)
  have HE0 := Lib.hid ((Ext.refl w).alloc (.cells #[.int .i64 p.flow, .slice a p.steps.length c] 24))
  have hb := BoxL.new w [.int .i64 p.flow, .slice a p.steps.length c] 24
  have HMY := Lib.hid (@mayB_iff p.flow)
  clear hr hi
  go_enter Tryz.func14, Tryz.ntmps14
  go_upto_region 1 with (fail)
  generalize w.alloc (.cells #[.int .i64 p.flow, .slice a p.steps.length c] 24) = W1 at *
  generalize hfl : p.flow = fl at *
  have p0 := hb.cell 0 _ rfl
  have p1 := hb.cell 1 _ rfl
  have HB := Lib.hid hb
  clear hb hfl
  by_cases h1 : 0 ≤ fl
  case neg =>
    have HY := Lib.hid (show pthB p = false by
      rw [HX.out]
      cases hm : mayB fl with
      | false => rfl
      | true => exact absurd (HMY.out.1 hm).1 h1)
    clear HMY
    have h1' : fl < 0 := by omega
    go_wp2
    go_ret
    exact ⟨by rw [HY.out]; rfl, HE0.out⟩
  by_cases h2 : fl ≤ 999999
  case neg =>
    have HY := Lib.hid (show pthB p = false by
      rw [HX.out]
      cases hm : mayB fl with
      | false => rfl
      | true => exact absurd (HMY.out.1 hm).2 h2)
    clear HMY
    have h1' : ¬ fl < 0 := by omega
    go_wp2
    go_ret
    exact ⟨by rw [HY.out]; rfl, HE0.out⟩
  have HX := Lib.hid (show pthB p = p.steps.all stpB by rw [HX.out, HMY.out.2 ⟨h1, h2⟩]; rfl)
  have h1' : ¬ fl < 0 := by omega
  clear HMY
  go_wp2_with fail
  go_loopw [3] (fun i wr => ∃ k : Nat, k ≤ p.steps.length ∧ i = .int .i64 k ∧ Hid ((p.steps.take k).all stpB = true) ∧ Hid (Ext W1 wr)) (fun i _ => p.steps.length - (intOf i).toNat)
  case atStart => exact ⟨0, by omega, rfl, Lib.hid (by simp), Lib.hid (Ext.refl W1)⟩
  case round =>
    clear p0 p1
    obtain ⟨k, hk, rfl, HA, HEk⟩ := hrel
    have p1 := (HB.out.ext HEk.out).cell 1 _ rfl
    by_cases hlt : k < p.steps.length
    case neg =>
      have hk' : k = p.steps.length := by omega
      have HY := Lib.hid (show pthB p = true by have := HA.out; rw [hk', List.take_length] at this; rw [HX.out, this])
      have HE := Lib.hid (HE0.out.trans HEk.out)
      clear HA HX hk'
      go_wp2
      go_ret
      exact ⟨by rw [HY.out]; rfl, HE.out⟩
    obtain ⟨b, off, rfl, hb, c0, c1, hs⟩ := stp_at HR.out (HE0.out.trans HEk.out) k hlt
    have HS := Lib.hid (fun hx : stpB p.steps[k] = true => all_stp hlt HA.out hx)
    have HN := Lib.hid (fun hx : stpB p.steps[k] = false => HX.out.trans (all_nost hlt hx))
    have HI := Lib.hid (@stpB_iff p.steps[k])
    have hnl := hs.1
    generalize p.steps[k] = x at *
    obtain ⟨nm, pl⟩ := x
    simp only at c0 c1 hnl HI
    have hEa := (Ext.refl wr).alloc (.cells #[.string (str nm), .int .i64 pl] 27)
    have hxb := BoxL.new wr [.string (str nm), .int .i64 pl] 27
    have HEa := Lib.hid (HEk.out.trans hEa)
    clear HA HEk hs hEa HX
    go_upto_region 7 with (fail)
    generalize wr.heap.size = XB at *
    generalize wr.alloc (.cells #[.string (str nm), .int .i64 pl] 27) = Wa at *
    clear c0 c1 p1
    have x0 := hxb.cell 0 _ rfl
    have x1 := hxb.cell 1 _ rfl
    clear hxb
    go_wp2_with fail
    refine (rname_any nm hnl Wa).mono ?_
    rintro e w6 ⟨rfl, rfl⟩
    cases hb : nameB nm with
    | false =>
      have HY := Lib.hid (HN.out (by
        cases hq : stpB ⟨nm, pl⟩ with
        | false => rfl
        | true => have := (HI.out.1 hq).1; rw [hb] at this; cases this))
      have HE := Lib.hid (HE0.out.trans HEa.out)
      clear HS HN HI hb
      go_wp2
      go_ret
      exact ⟨by rw [HY.out]; rfl, HE.out⟩
    | true =>
      by_cases g1 : pl < -1
      · have HY := Lib.hid (HN.out (by
          cases hq : stpB ⟨nm, pl⟩ with
          | false => rfl
          | true => have := (HI.out.1 hq).2; omega))
        have HE := Lib.hid (HE0.out.trans HEa.out)
        clear HS HN HI hb
        go_wp2
        go_ret
        exact ⟨by rw [HY.out]; rfl, HE.out⟩
      · by_cases g2 : pl ≤ 999999
        · have HY := Lib.hid (HS.out (HI.out.2 ⟨hb, by show pl = -1 ∨ (0 ≤ pl ∧ pl ≤ 999999); omega⟩))
          clear HS HN HI hb
          go_wp2
          go_roundw
          case rel => exact ⟨k + 1, by omega, by go_num, HY, HEa⟩
          case measure => simp [intOf]; omega
        · have HY := Lib.hid (HN.out (by
            cases hq : stpB ⟨nm, pl⟩ with
            | false => rfl
            | true => have := (HI.out.1 hq).2; omega))
          have HE := Lib.hid (HE0.out.trans HEa.out)
          clear HS HN HI hb
          go_wp2
          go_ret
          exact ⟨by rw [HY.out]; rfl, HE.out⟩
set_option maxRecDepth 100000 in
set_option maxHeartbeats 4000000 in
theorem rshow12_right (p : Pth) (hp : pthB p = true) (hl : p.steps.length ≤ 10000) (w : World) (v : Value) (h : PthV w p v) :
    Calls Tryz.prog 16 #[v] w fun e w' => e = .returned (.string (str (pthS p))) ∧ Ext w w' := by
  obtain ⟨a, m, c, rfl, hr, hi⟩ := h
  obtain ⟨a', c', e, hc1, hc2⟩ := hr.slice
  injection e with e1 e2 e3
  subst e1 e2 e3
  have HV := Lib.hid (show PthV w p (.agg #[.int .i64 p.flow, .slice a p.steps.length c]) from ⟨a, p.steps.length, c, rfl, hr, hi⟩)
  have HF := Lib.hid (pthB_iff.1 hp)
  have HR := Lib.hid hr
  have HP := Lib.hid hp
  have hb := BoxL.new w [.int .i64 p.flow, .slice a p.steps.length c] 24
  have HE0 := Lib.hid ((Ext.refl w).alloc (.cells #[.int .i64 p.flow, .slice a p.steps.length c] 24))
  clear hr hp hi
  go_enter Tryz.func16, Tryz.ntmps16
  go_upto_region 1 with (fail)
  generalize w.alloc (.cells #[.int .i64 p.flow, .slice a p.steps.length c] 24) = W1 at *
  have p0 := hb.cell 0 _ rfl
  have p1 := hb.cell 1 _ rfl
  have HB := Lib.hid hb
  clear hb
  go_wp2_with fail
  refine (rright12_any p hl W1 _ (HV.out.ext HE0.out)).mono ?_
  rw [HP.out]
  rintro e w2 ⟨rfl, hE2⟩
  have HE2 := Lib.hid hE2
  clear p0 p1 hE2
  have p0 := (HB.out.ext HE2.out).cell 0 _ rfl
  go_wp2_with fail
  refine (rdig12_itoa HF.out.1.1 (by have := HF.out.1.2; omega) w2).mono ?_
  rintro e w4 ⟨rfl, hE4⟩
  have HE4 := Lib.hid (HE2.out.trans hE4)
  have hlf := itoa_len HF.out.1
  clear hE4 HE2 p0
  go_wp2_with fail
  go_loopw [4, 3] (fun i t wr => ∃ k : Nat, k ≤ p.steps.length ∧ i = .int .i64 k ∧ t = .string (str (Lib.itoa p.flow ++ stepsS (p.steps.take k))) ∧ Hid (Ext W1 wr)) (fun i _ _ => p.steps.length - (intOf i).toNat)
  case atStart => exact ⟨0, by omega, rfl, by simp [stepsS_nil], HE4⟩
  case round =>
    clear HE4
    obtain ⟨k, hk, rfl, rfl, HEk⟩ := hrel
    have p1 := (HB.out.ext HEk.out).cell 1 _ rfl
    by_cases hlt : k < p.steps.length
    case neg =>
      obtain rfl : k = p.steps.length := by omega
      have HX := Lib.hid (show Lib.itoa p.flow ++ stepsS (p.steps.take p.steps.length) = pthS p by rw [List.take_length]; rfl)
      have HE := Lib.hid (HE0.out.trans HEk.out)
      go_wp2
      go_ret
      exact ⟨by rw [HX.out]; rfl, HE.out⟩
    obtain ⟨b, off, rfl, hb, c0, c1, hs⟩ := stp_at HR.out (HE0.out.trans HEk.out) k hlt
    have hx := HF.out.2 _ (List.getElem_mem hlt)
    obtain ⟨hx1, hx2⟩ := stpB_iff.1 hx
    have hx3 := (nameB_iff.1 hx1).2.2
    have HT := Lib.hid (show stepsS (p.steps.take (k + 1)) = stepsS (p.steps.take k) ++ (47 :: (p.steps[k].name ++ placeS p.steps[k].place)) by
      rw [List.take_succ_eq_append_getElem hlt, stepsS_snoc]; rfl)
    have hln : (Lib.itoa p.flow ++ stepsS (p.steps.take k)).length ≤ 300000 := by
      have := stepsS_len (p.steps.take k) (fun x hx => HF.out.2 x (List.mem_of_mem_take hx))
      have := List.length_take_le k p.steps
      rw [List.length_append]
      omega
    have HU := Lib.hid (show Lib.itoa p.flow ++ stepsS (p.steps.take (k + 1)) = (Lib.itoa p.flow ++ stepsS (p.steps.take k)) ++ (47 :: (p.steps[k].name ++ placeS p.steps[k].place)) by rw [HT.out, List.append_assoc])
    generalize Lib.itoa p.flow ++ stepsS (p.steps.take k) = cu at *
    generalize p.steps[k] = x at *
    obtain ⟨nm, pl⟩ := x
    simp only at c0 c1 hx3 HU hx2
    obtain ⟨t1, ht1⟩ : ∃ t1, t1 = cu ++ [47] := ⟨_, rfl⟩
    obtain ⟨t2, ht2⟩ : ∃ t2, t2 = t1 ++ nm := ⟨_, rfl⟩
    have l1 : t1.length = cu.length + 1 := by rw [ht1]; simp
    have l2 : t2.length = t1.length + nm.length := by rw [ht2]; simp
    have a1 : ∀ w', (Op.stringOp .add (str cu) ⟨#[47]⟩).run Tryz.prog w' = .ok (.string (str t1)) w' := fun w' => ht1 ▸ str_add (P := Tryz.prog) cu [47] (by simp; omega) w'
    have a2 : ∀ w', (Op.stringOp .add (str t1) (str nm)).run Tryz.prog w' = .ok (.string (str t2)) w' := fun w' => ht2 ▸ str_add (P := Tryz.prog) t1 nm (by omega) w'
    clear hx hx1 hs HT
    by_cases hp : pl = -1
    · have HU := Lib.hid (show Lib.itoa p.flow ++ stepsS (p.steps.take (k + 1)) = t2 by rw [HU.out, hp, ht2, ht1]; simp [placeS])
      have hg : ¬ 0 ≤ pl := by omega
      clear hp hx2 ht1 ht2 l1 l2
      go_wp2_with fail
      go_roundw
      case rel => exact ⟨k + 1, by omega, by go_num, by rw [HU.out], HEk⟩
      case measure => simp [intOf]; omega
    · have hm : 0 ≤ pl ∧ pl ≤ 999999 := by omega
      have hpl := itoa_len hm
      obtain ⟨t3, ht3⟩ : ∃ t3, t3 = t2 ++ [91] := ⟨_, rfl⟩
      obtain ⟨t4, ht4⟩ : ∃ t4, t4 = t3 ++ Lib.itoa pl := ⟨_, rfl⟩
      obtain ⟨t5, ht5⟩ : ∃ t5, t5 = t4 ++ [93] := ⟨_, rfl⟩
      have l3 : t3.length = t2.length + 1 := by rw [ht3]; simp
      have l4 : t4.length = t3.length + (Lib.itoa pl).length := by rw [ht4]; simp
      have HU := Lib.hid (show Lib.itoa p.flow ++ stepsS (p.steps.take (k + 1)) = t5 by rw [HU.out, ht5, ht4, ht3, ht2, ht1]; simp [placeS, hp])
      have a3 : ∀ w', (Op.stringOp .add (str t2) ⟨#[91]⟩).run Tryz.prog w' = .ok (.string (str t3)) w' := fun w' => ht3 ▸ str_add (P := Tryz.prog) t2 [91] (by simp; omega) w'
      have a4 : ∀ w', (Op.stringOp .add (str t3) (str (Lib.itoa pl))).run Tryz.prog w' = .ok (.string (str t4)) w' := fun w' => ht4 ▸ str_add (P := Tryz.prog) t3 (Lib.itoa pl) (by omega) w'
      have a5 : ∀ w', (Op.stringOp .add (str t4) ⟨#[93]⟩).run Tryz.prog w' = .ok (.string (str t5)) w' := fun w' => ht5 ▸ str_add (P := Tryz.prog) t4 [93] (by simp; omega) w'
      have h0 := hm.1
      clear hp hx2 ht1 ht2 ht3 ht4 ht5 l1 l2 l3 l4
      go_wp2_with fail
      refine (rdig12_itoa hm.1 (by omega) wr).mono ?_
      rintro e w7 ⟨rfl, hE7⟩
      have HE7 := Lib.hid (HEk.out.trans hE7)
      clear hE7 c0 c1 p1
      go_wp2_with fail
      go_roundw
      case rel => exact ⟨k + 1, by omega, by go_num, by rw [HU.out], HE7⟩
      case measure => simp [intOf]; omega
set_option maxHeartbeats 1000000 in
theorem rshow12_any (p : Pth) (hl : p.steps.length ≤ 10000) (w : World) (v : Value) (h : PthV w p v) :
    Calls Tryz.prog 16 #[v] w fun e w' => e = .returned (.string (str (showP p))) ∧ Ext w w' := by
  cases hp : pthB p with
  | true =>
    rw [showP_right hp]
    exact rshow12_right p hp hl w v h
  | false =>
    have HX := Lib.hid (show showP p = [] from showP_wrong hp)
    have HP := Lib.hid hp
    obtain ⟨a, m, c, rfl, hr, hi⟩ := h
    have HV := Lib.hid (show PthV w p (.agg #[.int .i64 p.flow, .slice a m c]) from ⟨a, m, c, rfl, hr, hi⟩)
    have hb := BoxL.new w [.int .i64 p.flow, .slice a m c] 24
    have HE0 := Lib.hid ((Ext.refl w).alloc (.cells #[.int .i64 p.flow, .slice a m c] 24))
    clear hp hr hi
    go_enter Tryz.func16, Tryz.ntmps16
    go_upto_region 1 with (fail)
    generalize w.alloc (.cells #[.int .i64 p.flow, .slice a m c] 24) = W1 at *
    have p0 := hb.cell 0 _ rfl
    have p1 := hb.cell 1 _ rfl
    clear hb
    go_wp2_with fail
    refine (rright12_any p hl W1 _ (HV.out.ext HE0.out)).mono ?_
    rw [HP.out]
    rintro e w2 ⟨rfl, hE2⟩
    have HE2 := Lib.hid (HE0.out.trans hE2)
    clear hE2
    go_wp2
    go_ret
    exact ⟨by rw [HX.out]; rfl, HE2.out⟩
end Go.Proofs.YtpcgpcjleedilaaGreatDoor

namespace Fm
open Go Go.RowKit

/-- One step, as the reference reads it, and where it then stands. -/
def rdNm (s : List UInt8) (i : Nat) : List UInt8 := (s.drop (i + 1)).takeWhile nmC
def rdEnd (s : List UInt8) (i : Nat) : Nat := i + 1 + (rdNm s i).length
def rdBr (s : List UInt8) (i : Nat) : Prop := ∃ h : rdEnd s i < s.length, s[rdEnd s i] = 91
/-- Reading so far agrees with whatever path the text is. -/
def RdOk (s : List UInt8) (i : Nat) (l : List Stp) : Prop := ∀ p, parseP s = some p → ∃ j, j ≤ p.steps.length ∧ l = p.steps.take j ∧ i = posP p j
theorem tw_len (f : UInt8 → Bool) (l : List UInt8) : (l.takeWhile f).length ≤ l.length := (List.takeWhile_sublist f).length_le
theorem rdNm_len (s : List UInt8) (i : Nat) : (rdNm s i).length ≤ s.length := by
  have := tw_len nmC (s.drop (i + 1))
  unfold rdNm
  rw [List.length_drop] at this; omega
/-- The name's end, found letter by letter. -/
theorem rd_more {s : List UInt8} {i k : Nat} (h : ((s.drop (i + 1)).take k).all nmC = true) (hk : i + 1 + k < s.length) (hx : nmC s[i + 1 + k] = true) : ((s.drop (i + 1)).take (k + 1)).all nmC = true := by
  have hl : k < (s.drop (i + 1)).length := by rw [List.length_drop]; omega
  rw [List.take_succ_eq_append_getElem hl, List.all_append, h, List.getElem_drop]
  simp [hx]
theorem tw_at : ∀ (l : List UInt8) (k : Nat), (l.take k).all nmC = true → k ≤ l.length → (∀ h : k < l.length, nmC l[k] = false) → l.takeWhile nmC = l.take k
  | [], k, _, _, _ => by simp
  | c :: l, 0, _, _, h => by
    have := h (by simp)
    simp only [List.getElem_cons_zero] at this
    rw [List.takeWhile_cons, this]; rfl
  | c :: l, k + 1, h1, h2, h3 => by
    rw [List.take_succ_cons, List.all_cons, Bool.and_eq_true] at h1
    rw [List.takeWhile_cons, h1.1, if_pos rfl, List.take_succ_cons, tw_at l k h1.2 (by simpa using h2) (fun h => by have := h3 (by simpa using h); simpa using this)]
theorem rd_stop {s : List UInt8} {i k : Nat} (h : ((s.drop (i + 1)).take k).all nmC = true) (hk : i + 1 + k ≤ s.length) (hx : ∀ h : i + 1 + k < s.length, nmC s[i + 1 + k] = false) : rdNm s i = (s.drop (i + 1)).take k ∧ rdEnd s i = i + 1 + k := by
  have hl : k ≤ (s.drop (i + 1)).length := by rw [List.length_drop]; omega
  have e := tw_at (s.drop (i + 1)) k h hl (fun h' => by rw [List.getElem_drop]; exact hx (by rw [List.length_drop] at h'; omega))
  refine ⟨e, ?_⟩
  unfold rdEnd rdNm
  rw [e, List.length_take]; omega
theorem rd_slash {s : List UInt8} {i : Nat} {l : List Stp} (h : RdOk s i l) (hi : i < s.length) : ∀ p, parseP s = some p → ∃ j, ∃ hj : j < p.steps.length, l = p.steps.take j ∧ i = posP p j ∧ s.drop i = 47 :: (p.steps[j].name ++ (placeS p.steps[j].place ++ stepsS (p.steps.drop (j + 1)))) ∧ nameB p.steps[j].name = true ∧ (p.steps[j].place = -1 ∨ (0 ≤ p.steps[j].place ∧ p.steps[j].place ≤ 999999)) := by
  intro p hp
  obtain ⟨j, hj, h1, h2⟩ := h p hp
  obtain ⟨hb, hs, _⟩ := parseP_iff.1 hp
  by_cases hlt : j < p.steps.length
  · have hx := (pthB_iff.1 hb).2 _ (List.getElem_mem hlt)
    obtain ⟨hx1, hx2⟩ := stpB_iff.1 hx
    refine ⟨j, hlt, h1, h2, ?_, hx1, hx2⟩
    rw [h2, ← hs, pthS_drop, stepsS_at _ hlt]
    unfold stpS
    simp
  · have := posP_end p (j := j) (by omega)
    rw [hs] at this
    omega
theorem drop_drop' {s a b : List UInt8} {i : Nat} (h : s.drop i = a ++ b) : s.drop (i + a.length) = b := by
  rw [← List.drop_drop, h, List.drop_left]
theorem drop_one {s b : List UInt8} {c : UInt8} {i : Nat} (h : s.drop i = c :: b) : s.drop (i + 1) = b := drop_drop' (a := [c]) h
theorem drop_at {s b : List UInt8} {c : UInt8} {i : Nat} (h : s.drop i = c :: b) : ∃ h : i < s.length, s[i] = c := by
  have hl : i < s.length := by
    apply Classical.byContradiction
    intro hn
    rw [List.drop_eq_nil_of_le (by omega)] at h
    cases h
  refine ⟨hl, ?_⟩
  rw [List.drop_eq_getElem_cons hl] at h
  injection h
theorem rd_parts {s : List UInt8} {i : Nat} {l : List Stp} (h : RdOk s i l) (hi : i < s.length) : ∀ p, parseP s = some p → ∃ j, ∃ hj : j < p.steps.length, l = p.steps.take j ∧ i = posP p j ∧ rdNm s i = p.steps[j].name ∧ s.drop (rdEnd s i) = placeS p.steps[j].place ++ stepsS (p.steps.drop (j + 1)) ∧ (p.steps[j].place = -1 ∨ (0 ≤ p.steps[j].place ∧ p.steps[j].place ≤ 999999)) := by
  intro p hp
  obtain ⟨j, hj, h1, h2, h3, h4, h5⟩ := rd_slash h hi p hp
  have h6 := drop_one h3
  have hn : rdNm s i = p.steps[j].name := by
    unfold rdNm
    rw [h6]
    exact takeWhile_name (nameB_nm h4) (rest_head _ _)
  refine ⟨j, hj, h1, h2, hn, ?_, h5⟩
  unfold rdEnd
  rw [hn]
  exact drop_drop' h6
theorem stpS_len1 (x : Stp) : (stpS x).length = 1 + x.name.length + (placeS x.place).length := by unfold stpS; simp; omega
theorem rd_plain {s : List UInt8} {i : Nat} {l : List Stp} (h : RdOk s i l) (hi : i < s.length) (hb : ¬ rdBr s i) : RdOk s (rdEnd s i) (l ++ [⟨rdNm s i, -1⟩]) := by
  intro p hp
  obtain ⟨j, hj, h1, h2, h3, h4, h5⟩ := rd_parts h hi p hp
  have hpl : p.steps[j].place = -1 := by
    apply Classical.byContradiction
    intro hn
    apply hb
    unfold placeS at h4
    rw [if_neg hn] at h4
    exact drop_at (List.cons_append ▸ h4)
  refine ⟨j + 1, hj, ?_, ?_⟩
  · rw [List.take_succ_eq_append_getElem hj, h1, h3]
    congr 2
    rw [← hpl]
  · rw [posP_succ p hj, stpS_len1, hpl, ← h2]
    unfold rdEnd
    rw [h3]
    simp [placeS]
    omega
theorem rd_place {s : List UInt8} {i : Nat} {l : List Stp} (h : RdOk s i l) (hi : i < s.length) (hb : rdBr s i) :
    RdOk s (rdEnd s i + (rnum 7 0 (s.drop (rdEnd s i + 1))).2 + 2) (l ++ [⟨rdNm s i, (rnum 7 0 (s.drop (rdEnd s i + 1))).1⟩]) := by
  intro p hp
  obtain ⟨j, hj, h1, h2, h3, h4, h5⟩ := rd_parts h hi p hp
  have hpl : p.steps[j].place ≠ -1 := by
    intro hn
    obtain ⟨b1, b2⟩ := hb
    unfold placeS at h4
    rw [if_pos hn, List.nil_append] at h4
    have := stepsS_head (p.steps.drop (j + 1)) 91 (by rw [← h4, List.drop_eq_getElem_cons b1, b2]; rfl)
    cases this
  have h5 : 0 ≤ p.steps[j].place ∧ p.steps[j].place ≤ 999999 := by
    rcases h5 with h | h
    · exact absurd h hpl
    · exact h
  have hq : placeS p.steps[j].place = 91 :: (Lib.itoa p.steps[j].place ++ [93]) := by unfold placeS; rw [if_neg hpl]
  rw [hq, List.cons_append, List.append_assoc] at h4
  have h6 := drop_one h4
  have hr : rnum 7 0 (s.drop (rdEnd s i + 1)) = (p.steps[j].place, (Lib.itoa p.steps[j].place).length) := by
    rw [h6]
    exact rnum_itoa h5 _ (fun c hc => by simp at hc; subst hc; decide)
  rw [hr]
  refine ⟨j + 1, hj, ?_, ?_⟩
  · rw [List.take_succ_eq_append_getElem hj, h1, h3]
  · rw [posP_succ p hj, stpS_len1, hq, ← h2]
    unfold rdEnd
    rw [h3]
    simp only [List.length_cons, List.length_append, List.length_nil]
    omega
/-- The beginning. -/
theorem rd_zero {s : List UInt8} : RdOk s (rnum 7 0 s).2 [] ∧ ∀ p, parseP s = some p → (rnum 7 0 s).1 = p.flow := by
  have key : ∀ p, parseP s = some p → rnum 7 0 s = (p.flow, (Lib.itoa p.flow).length) := by
    intro p hp
    obtain ⟨hb, hs, _⟩ := parseP_iff.1 hp
    rw [← hs]
    unfold pthS
    exact rnum_itoa (pthB_iff.1 hb).1 _ (stepsS_dig _)
  refine ⟨fun p hp => ⟨0, by omega, by simp, by rw [key p hp, posP_zero]⟩, fun p hp => by rw [key p hp]⟩
/-- The end: where no slash stands, all steps are read. -/
theorem rd_done {s : List UInt8} {i : Nat} {l : List Stp} (h : RdOk s i l) (he : ∀ hi : i < s.length, s[i] ≠ 47) : ∀ p, parseP s = some p → l = p.steps := by
  intro p hp
  obtain ⟨j, hj, h1, h2⟩ := h p hp
  obtain ⟨hb, hs, _⟩ := parseP_iff.1 hp
  by_cases hlt : j < p.steps.length
  · exfalso
    have h3 : s.drop i = 47 :: (p.steps[j].name ++ placeS p.steps[j].place ++ stepsS (p.steps.drop (j + 1))) := by
      rw [h2, ← hs, pthS_drop, stepsS_at _ hlt]
      rfl
    obtain ⟨h4, h5⟩ := drop_at h3
    exact he h4 h5
  · rw [h1, List.take_of_length_le (by omega)]
theorem rd_parse {s : List UInt8} {i : Nat} {l : List Stp} (h : RdOk s i l) (he : ∀ hi : i < s.length, s[i] ≠ 47) (hs : s.length ≤ 400) :
    parseP s = if showP ⟨(rnum 7 0 s).1, l⟩ = s ∧ s ≠ [] then some ⟨(rnum 7 0 s).1, l⟩ else none := by
  by_cases hc : showP ⟨(rnum 7 0 s).1, l⟩ = s ∧ s ≠ []
  · rw [if_pos hc]
    obtain ⟨h1, h2⟩ := hc
    cases hb : pthB ⟨(rnum 7 0 s).1, l⟩ with
    | false => rw [showP_wrong hb] at h1; exact absurd h1.symm h2
    | true => rw [showP_right hb] at h1; exact parseP_iff.2 ⟨hb, h1, hs⟩
  · rw [if_neg hc]
    cases hp : parseP s with
    | none => rfl
    | some p =>
      exfalso
      apply hc
      obtain ⟨hb, hs2, _⟩ := parseP_iff.1 hp
      have e : (⟨(rnum 7 0 s).1, l⟩ : Pth) = p := by rw [rd_zero.2 p hp, rd_done h he p hp]
      rw [e, showP_right hb]
      refine ⟨hs2, ?_⟩
      rw [← hs2]
      exact pthS_ne p
end Fm

open Go.RowKit Go.Shelf
namespace Go.Proofs.YtpcgpcjleedilaaGreatDoor
open Go Go.Proofs Fm

/-- Between two rounds. -/
def RRd (s : List UInt8) (w : World) (fl : Int) (i : Nat) (wr : World) : Prop :=
  ∃ (l : List Stp) (a : Option Addr) (c : Nat), i ≤ s.length + 1 ∧ l.length ≤ i ∧ RdOk s i l ∧ Ext w wr ∧ BoxL wr w.heap.size [.int .i64 0, .slice none 0 0] ∧ BoxL wr (w.heap.size + 1) [.int .i64 fl, .slice a l.length c] ∧ OwnSt 27 (w.heap.size + 2) wr (.slice a l.length c) l
theorem nm_z {x : UInt8} {z : Int} (h : (x.toNat : Int) = z) : nmC x = (!(z == 47) && !(z == 91)) := by
  have e : ∀ c : UInt8, (x == c) = (z == (c.toNat : Int)) := by
    intro c
    rw [Bool.eq_iff_iff, beq_iff_eq, beq_iff_eq, ← h]
    constructor
    · intro h; rw [h]
    · intro h; exact UInt8.toNat_inj.1 (by exact_mod_cast h)
  unfold nmC
  rw [bne, bne, e 47, e 91]
  rfl
theorem at_z {x : UInt8} {z : Int} (c : UInt8) (h : (x.toNat : Int) = z) : x = c ↔ z = (c.toNat : Int) := by
  rw [← h]
  constructor
  · intro h; rw [h]
  · intro h; exact UInt8.toNat_inj.1 (by exact_mod_cast h)
theorem nm_47 {x : UInt8} (h : ¬ nmC x = true) (h2 : x ≠ 91) : x = 47 := by
  apply Classical.byContradiction
  intro h3
  apply h
  unfold nmC
  rw [bne_iff_ne.2 h3, bne_iff_ne.2 h2]
  rfl
theorem parse_long12 {s : List UInt8} (h : 400 < s.length) : parseP s = none := by
  cases hp : parseP s with
  | none => rfl
  | some p => have := (parseP_iff.1 hp).2.2; omega
theorem rdslice_mid (s : List UInt8) (i j : Nat) (h1 : i + 1 ≤ j) (h2 : j ≤ s.length) (w : World) :
    (Instr.slice 9 (.string (str s)) (some (.int .i64 ((i : Int) + 1))) (some (.int .i64 (j : Int))) none).run Tryz.prog w = .ok (.string (str ((s.drop (i + 1)).take (j - (i + 1))))) w := by
  rw [run_slice_string w 9 (str s) .i64 .i64 ((i : Int) + 1) (j : Int) Tryz.underlying9 (by omega) (by omega) (by rw [str_size]; omega), show ((i : Int) + 1).toNat = i + 1 by omega, show (j : Int).toNat = j by omega, extract_strI]
  rw [List.drop_take]
theorem rdslice_from (s : List UInt8) (j : Nat) (h2 : j + 1 ≤ s.length) (w : World) :
    (Instr.slice 9 (.string (str s)) (some (.int .i64 ((j : Int) + 1))) none none).run Tryz.prog w = .ok (.string (str (s.drop (j + 1)))) w := by
  rw [run_slice_string_l (ht := Tryz.underlying9) (h0 := by omega) (h1 := by rw [str_size]; omega), show ((j : Int) + 1).toNat = j + 1 by omega, str_size, extract_strI, List.take_length]
set_option maxRecDepth 100000 in
set_option maxHeartbeats 8000000 in
theorem rparse12_way (s : List UInt8) (hs : s.length ≤ 400) (w : World) :
    Calls Tryz.prog 10 #[.string (str s)] w (PathPost s w) := by
  have hss := str_size s
  have d0 : ¬ (400 : Int) < (s.length : Int) := by omega
  have HE0 := Lib.hid ((Ext.refl w).alloc (.cells #[.int .i64 0, .slice none 0 0] 24))
  have HR0 := Lib.hid (BoxL.new w [.int .i64 0, .slice none 0 0] 24)
  go_enter Tryz.func10, Tryz.ntmps10
  go_upto_region 1 with (fail)
  have hz1 : (w.alloc (.cells #[.int .i64 0, .slice none 0 0] 24)).heap.size = w.heap.size + 1 := Array.size_push _
  generalize w.alloc (.cells #[.int .i64 0, .slice none 0 0] 24) = W1 at *
  go_wp2_with fail
  refine (rnumber12_any s (by omega) W1).mono ?_
  rintro e w1 ⟨rfl, rfl, hn0, hn1⟩
  have HL := Lib.hid (rnum_le 7 0 s)
  have hE2 := HE0.out.alloc (.cells #[.int .i64 (rnum 7 0 s).1, .slice none 0 0] 24)
  have hR2 := HR0.out.ext ((Ext.refl W1).alloc (.cells #[.int .i64 (rnum 7 0 s).1, .slice none 0 0] 24))
  have hB2 := BoxL.new W1 [.int .i64 (rnum 7 0 s).1, .slice none 0 0] 24
  rw [hz1] at hB2
  have HRR := Lib.hid (show RRd s w (rnum 7 0 s).1 (rnum 7 0 s).2 (W1.alloc (.cells #[.int .i64 (rnum 7 0 s).1, .slice none 0 0] 24)) from
    ⟨[], none, 0, by have := HL.out.2; omega, by simp, rd_zero.1, hE2, hR2, hB2, OwnSt.nil _ _ _⟩)
  clear hE2 hR2 hB2 HL HE0 HR0
  generalize hfl : (rnum 7 0 s).1 = fl at HRR hn0 hn1 ⊢
  have HFL2 := Lib.hid hfl
  clear hfl
  go_upto_region 5 with (fail)
  generalize W1.alloc (.cells #[.int .i64 fl, .slice none 0 0] 24) = W2 at *
  generalize (rnum 7 0 s).2 = at0 at *
  clear hz1
  go_wp2_with fail
  go_loopw [5, 7, 8, 9, 10] (fun i _ _ _ _ wr => ∃ k : Nat, i = .int .i64 k ∧ Hid (RRd s w fl k wr)) (fun i _ _ _ _ _ => 1000 - (intOf i).toNat)
  case atStart => exact ⟨at0, rfl, HRR⟩
  case round =>
    clear HRR
    obtain ⟨i, rfl, HR⟩ := hrel
    obtain ⟨l, a, c, hi, hli, hrd, hE, hR, hB, hO⟩ := HR.out
    have HRD := Lib.hid hrd
    have HE0 := Lib.hid hE
    have BR := Lib.hid hR
    have BP := Lib.hid hB
    have HO0 := Lib.hid hO
    clear HR hrd hE hR hB hO
    by_cases hend : ∀ h : i < s.length, s[i] ≠ 47
    case pos =>
      have HPN := Lib.hid (rd_parse HRD.out hend hs)
      rw [HFL2.out] at HPN
      have hll : l.length ≤ 10000 := by omega
      have HV := Lib.hid (show PthV wr ⟨fl, l⟩ (.agg #[.int .i64 fl, .slice a l.length c]) from ⟨a, _, c, rfl, HO0.out.row, by show isI64 fl; unfold isI64; omega⟩)
      have p0 := BP.out.cell 0 _ rfl
      have p1 := BP.out.cell 1 _ rfl
      have hbe := str_beq (showP ⟨fl, l⟩) s
      clear HRD
      by_cases hlt : i < s.length
      case' pos =>
        obtain ⟨x, hx⟩ : ∃ x, x = s[i]?.getD 0 := ⟨_, rfl⟩
        have hxs : x = s[i] := by rw [hx]; simp [hlt]
        have hix := run_index_str (P := Tryz.prog) Tryz.underlying9 s i hlt
        rw [← hx] at hix
        have h9 : ¬ x = 47 := fun h => hend hlt (hxs ▸ h)
        generalize hz : (x.toNat : Int) = z at *
        rw [at_z 47 hz, show (((47 : UInt8).toNat : Nat) : Int) = 47 from rfl] at h9
        have y1 : (z == 47) = false := by simpa using h9
        clear hx hxs hz
      all_goals
        clear hend
        go_wp2_with fail
        refine (rshow12_any ⟨fl, l⟩ hll wr _ HV.out).mono ?_
        rintro e w5 ⟨rfl, hE5⟩
        have BP5 := Lib.hid (BP.out.ext hE5)
        have BR5 := Lib.hid (BR.out.ext hE5)
        have HE5 := Lib.hid (HE0.out.trans hE5)
        have HO5 := Lib.hid (HO0.out.ext hE5)
        have r0 := BP5.out.cell 0 _ rfl
        have r1 := BP5.out.cell 1 _ rfl
        have t0 := BR5.out.cell 0 _ rfl
        have t1 := BR5.out.cell 1 _ rfl
        have t2 := BR5.out.free 0
        have t3 := BR5.out.free 1
        clear hE5 p0 p1 BP BR HE0 HO0 HV
        by_cases hq : showP ⟨fl, l⟩ = s ∧ s ≠ []
        · have HX := Lib.hid (show parseP s = some ⟨fl, l⟩ by rw [HPN.out, if_pos hq])
          have b1 : ((str (showP ⟨fl, l⟩)).toList == (str s).toList) = true := by rw [hbe]; simp [hq.1]
          have b2 : (str s).toList.isEmpty = false := by
            rw [str_toList]
            cases hs2 : s with
            | nil => exact absurd hs2 hq.2
            | cons _ _ => rfl
          clear hbe hq HPN
          generalize showP ⟨fl, l⟩ = sh at *
          have hs2 := set2_facts (x := .int .i64 fl) (y := .slice a l.length c) HE5.out BR5.out (Nat.le_refl _)
          have c0 := hs2.2.cell 0 _ rfl
          have c1 := hs2.2.cell 1 _ rfl
          have hO6 := (show OwnSt 27 w.heap.size (set2W w5 w.heap.size (.int .i64 fl) (.slice a l.length c)) (.slice a l.length c) l from
            ((HO5.out.kept (row := some w.heap.size) (grown_set w5 w.heap.size 0 _) (fun b e => by injection e with e; omega)).kept (row := some w.heap.size) (grown_set _ w.heap.size 1 _) (fun b e => by injection e with e; omega)).mono (by omega))
          have HZ := Lib.hid (show PathPost s w (.returned (.tuple #[.agg #[.int .i64 fl, .slice a l.length c], .bool true])) (set2W w5 w.heap.size (.int .i64 fl) (.slice a l.length c)) from
            ⟨_, by rw [HX.out]; rfl, hs2.1, (fun h => by rw [HX.out] at h; cases h), fun p hp => by
              rw [HX.out] at hp
              injection hp with hp
              subst hp
              exact ⟨a, _, c, rfl, hO6, by show isI64 fl; unfold isI64; omega⟩⟩)
          clear hs2 hO6 HX
          go_wp2
          change bodyPost _ _ _ _ _ (set2W w5 w.heap.size (.int .i64 fl) (.slice a l.length c))
          generalize set2W w5 w.heap.size (.int .i64 fl) (.slice a l.length c) = Wn at *
          exact bodyPost_ret (v := .tuple #[.agg #[.int .i64 fl, .slice a l.length c], .bool true]) (by simp [results, Tryz.results10, go_sem, c0, c1]) rfl HZ.out
        · have HX := Lib.hid (show parseP s = none by rw [HPN.out, if_neg hq])
          have hs2 := set2_facts (x := .int .i64 0) (y := .slice none 0 0) HE5.out BR5.out (Nat.le_refl _)
          have c0 := hs2.2.cell 0 _ rfl
          have c1 := hs2.2.cell 1 _ rfl
          have HZ := Lib.hid (show PathPost s w (.returned (.tuple #[.agg #[.int .i64 0, .slice none 0 0], .bool false])) (set2W w5 w.heap.size (.int .i64 0) (.slice none 0 0)) from
            ⟨_, by rw [HX.out]; rfl, hs2.1, (fun h => rfl), fun p hp => by rw [HX.out] at hp; cases hp⟩)
          clear hs2 HX HPN
          by_cases hq1 : showP ⟨fl, l⟩ = s
          · have b1 : ((str (showP ⟨fl, l⟩)).toList == (str s).toList) = true := by rw [hbe]; simp [hq1]
            have b2 : (str s).toList.isEmpty = true := by
              rw [str_toList]
              by_cases h0 : s = []
              · simp [h0]
              · exact absurd ⟨hq1, h0⟩ hq
            clear hbe hq hq1
            generalize showP ⟨fl, l⟩ = sh at *
            go_wp2
            change bodyPost _ _ _ _ _ (set2W w5 w.heap.size (.int .i64 0) (.slice none 0 0))
            generalize set2W w5 w.heap.size (.int .i64 0) (.slice none 0 0) = Wn at *
            exact bodyPost_ret (v := .tuple #[.agg #[.int .i64 0, .slice none 0 0], .bool false]) (by simp [results, Tryz.results10, go_sem, c0, c1]) rfl HZ.out
          · have b1 : ((str (showP ⟨fl, l⟩)).toList == (str s).toList) = false := by rw [hbe]; simp [hq1]
            clear hbe hq hq1
            generalize showP ⟨fl, l⟩ = sh at *
            go_wp2
            change bodyPost _ _ _ _ _ (set2W w5 w.heap.size (.int .i64 0) (.slice none 0 0))
            generalize set2W w5 w.heap.size (.int .i64 0) (.slice none 0 0) = Wn at *
            exact bodyPost_ret (v := .tuple #[.agg #[.int .i64 0, .slice none 0 0], .bool false]) (by simp [results, Tryz.results10, go_sem, c0, c1]) rfl HZ.out
    case neg =>
      obtain ⟨hlt, h47⟩ : ∃ h : i < s.length, s[i] = 47 := by
        apply Classical.byContradiction
        intro hn
        exact hend (fun h e => hn ⟨h, e⟩)
      have hix := run_index_str (P := Tryz.prog) Tryz.underlying9 s i hlt
      rw [show s[i]?.getD 0 = 47 by rw [List.getElem?_eq_getElem hlt, h47]; rfl, show (((47 : UInt8).toNat : Nat) : Int) = 47 from rfl] at hix
      clear h47 hend
      go_wp2_with fail
      go_loop [5] (fun j => ∃ (e k : Nat), Hid (e = i + 1 + k) ∧ i + 1 ≤ e ∧ j = .int .i64 e ∧ e ≤ s.length ∧ Hid (((s.drop (i + 1)).take k).all nmC = true)) (fun j => s.length - (intOf j).toNat)
      case atStart => exact ⟨i + 1, 0, Lib.hid rfl, by omega, by go_num, by omega, Lib.hid (by simp)⟩
      case round =>
        clear hix
        obtain ⟨e, k, HEK, hie, rfl, hel, HA⟩ := hrel
        by_cases hmore : ∃ h : e < s.length, nmC s[e] = true
        case pos =>
          obtain ⟨helt, hnm⟩ := hmore
          obtain ⟨x, hx⟩ : ∃ x, x = s[e]?.getD 0 := ⟨_, rfl⟩
          have hxs : x = s[e] := by rw [hx]; simp [helt]
          have hix := run_index_str (P := Tryz.prog) Tryz.underlying9 s e helt
          rw [← hx] at hix
          have HA2 := Lib.hid (show ((s.drop (i + 1)).take (k + 1)).all nmC = true by
            have hek := HEK.out
            subst hek; exact rd_more HA.out helt hnm)
          rw [← hxs] at hnm
          generalize hz : (x.toNat : Int) = z at *
          rw [nm_z hz, Bool.and_eq_true, Bool.not_eq_true', Bool.not_eq_true'] at hnm
          obtain ⟨z1, z2⟩ := hnm
          have y1 : (z != 47) = true := by simp [bne, z1]
          have y2 : (z != 91) = true := by simp [bne, z2]
          have x1 : ¬ z = 47 := by simpa using z1
          have x2 : ¬ z = 91 := by simpa using z2
          clear hx hxs hz HA
          go_wp2
          go_round
          case rel => exact ⟨e + 1, k + 1, Lib.hid (by have := HEK.out; omega), by omega, by go_num, by omega, HA2⟩
          case measure => simp [intOf]; omega
        case neg =>
          have hst : rdNm s i = (s.drop (i + 1)).take k ∧ rdEnd s i = e := by
            have hek := HEK.out
            subst hek
            exact rd_stop HA.out hel (fun h => by
              cases hq : nmC s[i + 1 + k] with
              | false => rfl
              | true => exact absurd ⟨h, hq⟩ hmore)
          have hsl := fun wz => rdslice_mid s i e (by omega) hel wz
          rw [show e - (i + 1) = k by have := HEK.out; omega, ← hst.1] at hsl
          have hnm : (rdNm s i).length ≤ 9223372036854775807 := by have := rdNm_len s i; omega
          have HNM := Lib.hid (show rdNm s i = rdNm s i from rfl)
          have HST := Lib.hid hst.2
          clear hst HA HEK
          by_cases hbr : ∃ h : e < s.length, s[e] = 91
          case pos =>
            obtain ⟨helt, h91⟩ := hbr
            have HRD := Lib.hid (rd_place HRD.out hlt (by unfold rdBr; rw [HST.out]; exact ⟨helt, h91⟩))
            have hix := run_index_str (P := Tryz.prog) Tryz.underlying9 s e helt
            rw [show s[e]?.getD 0 = 91 by rw [List.getElem?_eq_getElem helt, h91]; rfl, show (((91 : UInt8).toNat : Nat) : Int) = 91 from rfl] at hix
            have hsl2 := fun wz => rdslice_from s e helt wz
            have hdl : (s.drop (e + 1)).length ≤ 400 := by rw [List.length_drop]; omega
            have hrl := rnum_le 7 0 (s.drop (e + 1))
            have hdl2 : (s.drop (e + 1)).length = s.length - (e + 1) := by rw [List.length_drop]
            rw [HST.out] at HRD
            have hni : e + (rnum 7 0 (s.drop (e + 1))).2 + 2 ≤ s.length + 1 := by omega
            have hEa := (Ext.refl wr).alloc (.cells #[.string (str (rdNm s i)), .int .i64 (-1)] 27)
            have B8 := Lib.hid (BoxL.new wr [.string (str (rdNm s i)), .int .i64 (-1)] 27)
            have hlt8 := HO0.out.lt
            have hz8 := BP.out.lt
            have BPa := Lib.hid (BP.out.ext hEa)
            have BRa := Lib.hid (BR.out.ext hEa)
            have HEa := Lib.hid (HE0.out.trans hEa)
            have HOa := Lib.hid (HO0.out.ext hEa)
            clear h91 hmore HNM HST BP BR HE0 HO0 hEa
            go_upto_region 11 with (fail)
            generalize wr.alloc (.cells #[.string (str (rdNm s i)), .int .i64 (-1)] 27) = Wa at *
            generalize wr.heap.size = S8 at *
            generalize rdNm s i = nm at *
            have HLT8 := Lib.hid hlt8
            clear hlt8
            go_wp2_with fail
            refine (rnumber12_any (s.drop (e + 1)) (by omega) Wa).mono ?_
            rintro x w5 ⟨rfl, rfl, hk0, hk1⟩
            generalize (rnum 7 0 (s.drop (e + 1))).1 = K at *
            generalize (rnum 7 0 (s.drop (e + 1))).2 = lg at *
            have x0 := B8.out.cell 0 _ rfl
            have x1 := B8.out.cell 1 _ rfl
            have x2 := B8.out.free 1
            have hgs8 := grown_set Wa S8 1 (.int .i64 K)
            have B8b := Lib.hid (B8.out.set 1 (by simp) (.int .i64 K))
            have BPb := Lib.hid (BPa.out.kept hgs8 (fun e => by injection e with e; omega))
            have BRb := Lib.hid (BRa.out.kept hgs8 (fun e => by injection e with e; omega))
            have HEb := Lib.hid (HEa.out.setCell (p := ⟨S8, 1, none⟩) (by show w.heap.size ≤ S8; omega) (.int .i64 K))
            have HOb := Lib.hid (show OwnSt 27 (w.heap.size + 2) (Wa.setCell ⟨S8, 1, none⟩ (.int .i64 K)) (.slice a l.length c) l from
              ⟨World.ownsRow.kept HOa.out.1 hgs8 (.inr (fun e => by have := (HLT8.out S8 e).2; omega)), HOa.out.2⟩)
            have HPL : Hid (isI64 K) := Lib.hid (by unfold isI64; omega)
            clear hgs8 B8 BPa BRa HEa HOa HLT8
            have B8 := B8b
            have BP := BPb
            have BR := BRb
            have HE0 := HEb
            have HO0 := HOb
            clear B8b BPb BRb HEb HOb
            go_upto_region 14 with (fail)
            generalize Wa.setCell ⟨S8, 1, none⟩ (.int .i64 K) = Wb at *
            clear x0 x1 x2 hsl hsl2 hix
            go_upto_region 15 with (fail)
            have hEn := (Ext.refl Wb).alloc (.cells #[.string (str nm), .int .i64 K] 27)
            have HB := Lib.hid (BP.out.ext hEn)
            have HBR := Lib.hid (BR.out.ext hEn)
            have HE := Lib.hid (HE0.out.trans hEn)
            have HO := Lib.hid (HO0.out.ext hEn)
            have HNB := Lib.hid (box_add (BoxL.new Wb [.string (str nm), .int .i64 K] 27))
            obtain ⟨-, hb1, hb2⟩ := ownSt_bounds HO0.out
            have HLT := Lib.hid HO0.out.lt
            have p1 := BP.out.cell 1 _ rfl
            have p2 := BP.out.free 1
            have q0 := B8.out.cell 0 _ rfl
            have q1 := B8.out.cell 1 _ rfl
            have HZ : Hid (w.heap.size + 2 ≤ (Wb.alloc (.cells #[.string (str nm), .int .i64 K] 27)).heap.size) := Lib.hid (by have := BP.out.lt; have := hEn.size; omega)
            clear hEn B8 BP BR HE0 HO0
            go_wp2_with (at_builtin; refine wpList_appAt _ elem_step rfl _ _ 22 rfl (w.heap.size + 2) _ l.length (stpsCells l) rfl HO.out.1 _ 1 (stpCells ⟨nm, K⟩) rfl (Src.ofSlice _ Tryz.underlying22 ⟨Wb.heap.size, 0, none⟩ 1 1 (stpCells ⟨nm, K⟩) rfl HNB.out (by simp [stpCells, Value.oneCell'])) ?c1 ?c2 HZ.out ?_)
            case c1 => unfold maxLen; omega
            case c2 => omega
            intro v' w5 hown' hgrow hat
            obtain ⟨g', cap', rfl⟩ := ownsRow_succ hown'
            have hg' : w.heap.size + 2 ≤ g' := (World.ownsRow.lt hown' g' rfl).1
            have HB5 := Lib.hid (HB.out.kept hgrow (fun e => by have := (HLT.out _ e).1; omega))
            have HBR5 := Lib.hid (HBR.out.kept hgrow (fun e => by have := (HLT.out _ e).1; omega))
            have HE5 := Lib.hid (HE.out.grown hgrow (fun k e => by have := (HLT.out _ e).1; omega))
            have HO5 := Lib.hid (OwnSt.snoc hown' HO.out.2 (x := ⟨nm, K⟩) ⟨hnm, HPL.out⟩)
            have r1 := HB5.out.cell 1 _ rfl
            have r2 := HB5.out.free 1
            have hgs := grown_set w5 (w.heap.size + 1) 1 (.slice (some ⟨g', 0, none⟩) (l.length + 1) cap')
            have HB6 := Lib.hid (HB5.out.set 1 (by simp) (.slice (some ⟨g', 0, none⟩) (l.length + 1) cap'))
            have HBR6 := Lib.hid (HBR5.out.kept hgs (fun e => by injection e with e; omega))
            have HE6 := Lib.hid (HE5.out.setCell (p := ⟨w.heap.size + 1, 1, none⟩) (by show w.heap.size ≤ w.heap.size + 1; omega) (.slice (some ⟨g', 0, none⟩) (l.length + 1) cap'))
            have HO6 := Lib.hid (show OwnSt 27 (w.heap.size + 2) (w5.setCell ⟨w.heap.size + 1, 1, none⟩ (.slice (some ⟨g', 0, none⟩) (l.length + 1) cap')) (.slice (some ⟨g', 0, none⟩) (l.length + 1) cap') (l ++ [⟨nm, K⟩]) from
              ⟨World.ownsRow.kept HO5.out.1 hgs (.inr (fun e => by injection e with e; have e : g' = w.heap.size + 1 := e; omega)), HO5.out.2⟩)
            clear p1 p2 q0 q1 hown' hgrow hat hgs HO5 HB5 HBR5 HE5 HB HBR HE HO HNB HLT HZ
            have HRR := Lib.hid (show RRd s w fl (e + lg + 2) (w5.setCell ⟨w.heap.size + 1, 1, none⟩ (.slice (some ⟨g', 0, none⟩) (l.length + 1) cap')) from
              ⟨l ++ [⟨nm, K⟩], _, cap', hni, by rw [List.length_append]; show l.length + 1 ≤ _; omega, HRD.out, HE6.out, HBR6.out, by rw [List.length_append]; exact HB6.out, by rw [List.length_append]; exact HO6.out⟩)
            clear HB6 HBR6 HE6 HO6 HRD
            go_wp2_with fail
            go_roundw
            case rel => exact ⟨(e + lg + 2), by go_num, HRR⟩
            case measure => simp [intOf]; omega
          case neg =>
            by_cases helt : e < s.length
            case pos =>
              have hix := run_index_str (P := Tryz.prog) Tryz.underlying9 s e helt
              have h47 : s[e] = 47 := nm_47 (fun h => hmore ⟨helt, h⟩) (fun q => hbr ⟨helt, q⟩)
              rw [show s[e]?.getD 0 = 47 by rw [List.getElem?_eq_getElem helt, h47]; rfl, show (((47 : UInt8).toNat : Nat) : Int) = 47 from rfl] at hix
              clear h47
              have HRD := Lib.hid (rd_plain HRD.out hlt (by unfold rdBr; rw [HST.out]; exact hbr))
              rw [HST.out] at HRD
              have hni : e ≤ s.length + 1 := by omega
              have hEa := (Ext.refl wr).alloc (.cells #[.string (str (rdNm s i)), .int .i64 (-1)] 27)
              have B8 := Lib.hid (BoxL.new wr [.string (str (rdNm s i)), .int .i64 (-1)] 27)
              have BPa := Lib.hid (BP.out.ext hEa)
              have BRa := Lib.hid (BR.out.ext hEa)
              have HEa := Lib.hid (HE0.out.trans hEa)
              have HOa := Lib.hid (HO0.out.ext hEa)
              have HPL : Hid (isI64 (-1)) := Lib.hid (by unfold isI64; omega)
              clear HNM HST BP BR HE0 HO0 hEa hmore hbr
              have BP := BPa
              have BR := BRa
              have HE0 := HEa
              have HO0 := HOa
              clear BPa BRa HEa HOa
              go_upto_region 11 with (fail)
              generalize wr.alloc (.cells #[.string (str (rdNm s i)), .int .i64 (-1)] 27) = Wa at *
              generalize wr.heap.size = S8 at *
              generalize rdNm s i = nm at *
              clear hsl
              go_upto_region 15 with (fail)
              have hEn := (Ext.refl Wa).alloc (.cells #[.string (str nm), .int .i64 (-1)] 27)
              have HB := Lib.hid (BP.out.ext hEn)
              have HBR := Lib.hid (BR.out.ext hEn)
              have HE := Lib.hid (HE0.out.trans hEn)
              have HO := Lib.hid (HO0.out.ext hEn)
              have HNB := Lib.hid (box_add (BoxL.new Wa [.string (str nm), .int .i64 (-1)] 27))
              obtain ⟨-, hb1, hb2⟩ := ownSt_bounds HO0.out
              have HLT := Lib.hid HO0.out.lt
              have p1 := BP.out.cell 1 _ rfl
              have p2 := BP.out.free 1
              have q0 := B8.out.cell 0 _ rfl
              have q1 := B8.out.cell 1 _ rfl
              have HZ : Hid (w.heap.size + 2 ≤ (Wa.alloc (.cells #[.string (str nm), .int .i64 (-1)] 27)).heap.size) := Lib.hid (by have := BP.out.lt; have := hEn.size; omega)
              clear hEn B8 BP BR HE0 HO0
              go_wp2_with (at_builtin; refine wpList_appAt _ elem_step rfl _ _ 22 rfl (w.heap.size + 2) _ l.length (stpsCells l) rfl HO.out.1 _ 1 (stpCells ⟨nm, (-1)⟩) rfl (Src.ofSlice _ Tryz.underlying22 ⟨Wa.heap.size, 0, none⟩ 1 1 (stpCells ⟨nm, (-1)⟩) rfl HNB.out (by simp [stpCells, Value.oneCell'])) ?c1 ?c2 HZ.out ?_)
              case c1 => unfold maxLen; omega
              case c2 => omega
              intro v' w5 hown' hgrow hat
              obtain ⟨g', cap', rfl⟩ := ownsRow_succ hown'
              have hg' : w.heap.size + 2 ≤ g' := (World.ownsRow.lt hown' g' rfl).1
              have HB5 := Lib.hid (HB.out.kept hgrow (fun e => by have := (HLT.out _ e).1; omega))
              have HBR5 := Lib.hid (HBR.out.kept hgrow (fun e => by have := (HLT.out _ e).1; omega))
              have HE5 := Lib.hid (HE.out.grown hgrow (fun k e => by have := (HLT.out _ e).1; omega))
              have HO5 := Lib.hid (OwnSt.snoc hown' HO.out.2 (x := ⟨nm, (-1)⟩) ⟨hnm, HPL.out⟩)
              have r1 := HB5.out.cell 1 _ rfl
              have r2 := HB5.out.free 1
              have hgs := grown_set w5 (w.heap.size + 1) 1 (.slice (some ⟨g', 0, none⟩) (l.length + 1) cap')
              have HB6 := Lib.hid (HB5.out.set 1 (by simp) (.slice (some ⟨g', 0, none⟩) (l.length + 1) cap'))
              have HBR6 := Lib.hid (HBR5.out.kept hgs (fun e => by injection e with e; omega))
              have HE6 := Lib.hid (HE5.out.setCell (p := ⟨w.heap.size + 1, 1, none⟩) (by show w.heap.size ≤ w.heap.size + 1; omega) (.slice (some ⟨g', 0, none⟩) (l.length + 1) cap'))
              have HO6 := Lib.hid (show OwnSt 27 (w.heap.size + 2) (w5.setCell ⟨w.heap.size + 1, 1, none⟩ (.slice (some ⟨g', 0, none⟩) (l.length + 1) cap')) (.slice (some ⟨g', 0, none⟩) (l.length + 1) cap') (l ++ [⟨nm, (-1)⟩]) from
                ⟨World.ownsRow.kept HO5.out.1 hgs (.inr (fun e => by injection e with e; have e : g' = w.heap.size + 1 := e; omega)), HO5.out.2⟩)
              clear p1 p2 q0 q1 hown' hgrow hat hgs HO5 HB5 HBR5 HE5 HB HBR HE HO HNB HLT HZ
              have HRR := Lib.hid (show RRd s w fl e (w5.setCell ⟨w.heap.size + 1, 1, none⟩ (.slice (some ⟨g', 0, none⟩) (l.length + 1) cap')) from
                ⟨l ++ [⟨nm, (-1)⟩], _, cap', hni, by rw [List.length_append]; show l.length + 1 ≤ _; omega, HRD.out, HE6.out, HBR6.out, by rw [List.length_append]; exact HB6.out, by rw [List.length_append]; exact HO6.out⟩)
              clear HB6 HBR6 HE6 HO6 HRD
              go_wp2_with fail
              go_roundw
              case rel => exact ⟨e, by go_num, HRR⟩
              case measure => simp [intOf]; omega
            case neg =>
              have HRD := Lib.hid (rd_plain HRD.out hlt (by unfold rdBr; rw [HST.out]; exact hbr))
              rw [HST.out] at HRD
              have hni : e ≤ s.length + 1 := by omega
              have hEa := (Ext.refl wr).alloc (.cells #[.string (str (rdNm s i)), .int .i64 (-1)] 27)
              have B8 := Lib.hid (BoxL.new wr [.string (str (rdNm s i)), .int .i64 (-1)] 27)
              have BPa := Lib.hid (BP.out.ext hEa)
              have BRa := Lib.hid (BR.out.ext hEa)
              have HEa := Lib.hid (HE0.out.trans hEa)
              have HOa := Lib.hid (HO0.out.ext hEa)
              have HPL : Hid (isI64 (-1)) := Lib.hid (by unfold isI64; omega)
              clear HNM HST BP BR HE0 HO0 hEa hmore hbr
              have BP := BPa
              have BR := BRa
              have HE0 := HEa
              have HO0 := HOa
              clear BPa BRa HEa HOa
              go_upto_region 11 with (fail)
              generalize wr.alloc (.cells #[.string (str (rdNm s i)), .int .i64 (-1)] 27) = Wa at *
              generalize wr.heap.size = S8 at *
              generalize rdNm s i = nm at *
              clear hsl
              go_upto_region 15 with (fail)
              have hEn := (Ext.refl Wa).alloc (.cells #[.string (str nm), .int .i64 (-1)] 27)
              have HB := Lib.hid (BP.out.ext hEn)
              have HBR := Lib.hid (BR.out.ext hEn)
              have HE := Lib.hid (HE0.out.trans hEn)
              have HO := Lib.hid (HO0.out.ext hEn)
              have HNB := Lib.hid (box_add (BoxL.new Wa [.string (str nm), .int .i64 (-1)] 27))
              obtain ⟨-, hb1, hb2⟩ := ownSt_bounds HO0.out
              have HLT := Lib.hid HO0.out.lt
              have p1 := BP.out.cell 1 _ rfl
              have p2 := BP.out.free 1
              have q0 := B8.out.cell 0 _ rfl
              have q1 := B8.out.cell 1 _ rfl
              have HZ : Hid (w.heap.size + 2 ≤ (Wa.alloc (.cells #[.string (str nm), .int .i64 (-1)] 27)).heap.size) := Lib.hid (by have := BP.out.lt; have := hEn.size; omega)
              clear hEn B8 BP BR HE0 HO0
              go_wp2_with (at_builtin; refine wpList_appAt _ elem_step rfl _ _ 22 rfl (w.heap.size + 2) _ l.length (stpsCells l) rfl HO.out.1 _ 1 (stpCells ⟨nm, (-1)⟩) rfl (Src.ofSlice _ Tryz.underlying22 ⟨Wa.heap.size, 0, none⟩ 1 1 (stpCells ⟨nm, (-1)⟩) rfl HNB.out (by simp [stpCells, Value.oneCell'])) ?c1 ?c2 HZ.out ?_)
              case c1 => unfold maxLen; omega
              case c2 => omega
              intro v' w5 hown' hgrow hat
              obtain ⟨g', cap', rfl⟩ := ownsRow_succ hown'
              have hg' : w.heap.size + 2 ≤ g' := (World.ownsRow.lt hown' g' rfl).1
              have HB5 := Lib.hid (HB.out.kept hgrow (fun e => by have := (HLT.out _ e).1; omega))
              have HBR5 := Lib.hid (HBR.out.kept hgrow (fun e => by have := (HLT.out _ e).1; omega))
              have HE5 := Lib.hid (HE.out.grown hgrow (fun k e => by have := (HLT.out _ e).1; omega))
              have HO5 := Lib.hid (OwnSt.snoc hown' HO.out.2 (x := ⟨nm, (-1)⟩) ⟨hnm, HPL.out⟩)
              have r1 := HB5.out.cell 1 _ rfl
              have r2 := HB5.out.free 1
              have hgs := grown_set w5 (w.heap.size + 1) 1 (.slice (some ⟨g', 0, none⟩) (l.length + 1) cap')
              have HB6 := Lib.hid (HB5.out.set 1 (by simp) (.slice (some ⟨g', 0, none⟩) (l.length + 1) cap'))
              have HBR6 := Lib.hid (HBR5.out.kept hgs (fun e => by injection e with e; omega))
              have HE6 := Lib.hid (HE5.out.setCell (p := ⟨w.heap.size + 1, 1, none⟩) (by show w.heap.size ≤ w.heap.size + 1; omega) (.slice (some ⟨g', 0, none⟩) (l.length + 1) cap'))
              have HO6 := Lib.hid (show OwnSt 27 (w.heap.size + 2) (w5.setCell ⟨w.heap.size + 1, 1, none⟩ (.slice (some ⟨g', 0, none⟩) (l.length + 1) cap')) (.slice (some ⟨g', 0, none⟩) (l.length + 1) cap') (l ++ [⟨nm, (-1)⟩]) from
                ⟨World.ownsRow.kept HO5.out.1 hgs (.inr (fun e => by injection e with e; have e : g' = w.heap.size + 1 := e; omega)), HO5.out.2⟩)
              clear p1 p2 q0 q1 hown' hgrow hat hgs HO5 HB5 HBR5 HE5 HB HBR HE HO HNB HLT HZ
              have HRR := Lib.hid (show RRd s w fl e (w5.setCell ⟨w.heap.size + 1, 1, none⟩ (.slice (some ⟨g', 0, none⟩) (l.length + 1) cap')) from
                ⟨l ++ [⟨nm, (-1)⟩], _, cap', hni, by rw [List.length_append]; show l.length + 1 ≤ _; omega, HRD.out, HE6.out, HBR6.out, by rw [List.length_append]; exact HB6.out, by rw [List.length_append]; exact HO6.out⟩)
              clear HB6 HBR6 HE6 HO6 HRD
              go_wp2_with fail
              go_roundw
              case rel => exact ⟨e, by go_num, HRR⟩
              case measure => simp [intOf]; omega
set_option maxHeartbeats 1000000 in
theorem rparse12_any (s : List UInt8) (hs : s.length ≤ 9223372036854775807) (w : World) :
    Calls Tryz.prog 10 #[.string (str s)] w (PathPost s w) := by
  by_cases hl : s.length ≤ 400
  · exact rparse12_way s hl w
  · have hss := str_size s
    have d0 : (400 : Int) < (s.length : Int) := by omega
    have HX := Lib.hid (parse_long12 (s := s) (by omega))
    have HE0 := Lib.hid ((Ext.refl w).alloc (.cells #[.int .i64 0, .slice none 0 0] 24))
    have BR := Lib.hid (BoxL.new w [.int .i64 0, .slice none 0 0] 24)
    go_enter Tryz.func10, Tryz.ntmps10
    go_upto_region 1 with (fail)
    generalize w.alloc (.cells #[.int .i64 0, .slice none 0 0] 24) = w5 at *
    have hs2 := set2_facts (x := .int .i64 0) (y := .slice none 0 0) HE0.out BR.out (Nat.le_refl _)
    have t0 := BR.out.cell 0 _ rfl
    have t1 := BR.out.cell 1 _ rfl
    have t2 := BR.out.free 0
    have t3 := BR.out.free 1
    have c0 := hs2.2.cell 0 _ rfl
    have c1 := hs2.2.cell 1 _ rfl
    have HZ := Lib.hid (show PathPost s w (.returned (.tuple #[.agg #[.int .i64 0, .slice none 0 0], .bool false])) (set2W w5 w.heap.size (.int .i64 0) (.slice none 0 0)) from
      ⟨_, by rw [HX.out]; rfl, hs2.1, (fun h => rfl), fun p hp => by rw [HX.out] at hp; cases hp⟩)
    clear hs2 HX
    go_wp2
    change bodyPost _ _ _ _ _ (set2W w5 w.heap.size (.int .i64 0) (.slice none 0 0))
    generalize set2W w5 w.heap.size (.int .i64 0) (.slice none 0 0) = Wn at *
    exact bodyPost_ret (v := .tuple #[.agg #[.int .i64 0, .slice none 0 0], .bool false]) (by simp [results, Tryz.results10, go_sem, c0, c1]) rfl HZ.out
end Go.Proofs.YtpcgpcjleedilaaGreatDoor

open Go.RowKit Go.Shelf
namespace Go.Proofs.YtpcgpcjleedilaaGreatDoor
open Go Go.Proofs Fm

/-- A row of steps as what is appended. -/
theorem src_st {w wr : World} {l : List Stp} {a : Option Addr} {n c : Nat} (h : stpE.Row w l (.slice a n c)) (hE : Ext w wr) : Src Tryz.prog 2 22 (.slice a n c) l.length (stpsCells l) wr := by
  obtain ⟨a', c', e, hc1, hc2⟩ := h.slice
  injection e with e1 e2 e3
  subst e1 e2 e3
  cases a with
  | none =>
    have h0 : l = [] := by
      cases l with
      | nil => rfl
      | cons x l =>
        obtain ⟨b, off, e, _⟩ := stp_at h (Ext.refl w) 0 (by simp)
        cases e
    subst h0
    exact Src.ofNil _ Tryz.underlying22 c
  | some ad =>
    obtain ⟨b, off, ae⟩ := ad
    have hae : l ≠ [] → ae = none := fun hne => by
      obtain ⟨b', off', e, _⟩ := stp_at h (Ext.refl w) 0 (List.length_pos_iff.2 hne)
      cases e; rfl
    refine Src.ofSlice _ Tryz.underlying22 ⟨b, off, ae⟩ l.length c (stpsCells l) (stpsCells_len l) (fun j u hj => ?_) (stpsCells_one l)
    have hne : l ≠ [] := by rintro rfl; simp [stpsCells] at hj
    obtain rfl := hae hne
    exact stpRow_cells h hE j u hj
theorem made_st (w : World) : (w.alloc (.cells #[] 27)).ownsRow w.heap.size 27 2 (.slice (some ⟨w.heap.size, 0, none⟩) 0 0) 0 [] :=
  World.ownsRow_made w #[] 0 (base := w.heap.size) (e := 27) (size := 2) (Nat.le_refl _) (by simp) rfl
set_option maxHeartbeats 1000000 in
theorem rid12_any (p : Pth) (hl : p.steps.length ≤ 10000) (w : World) (v : Value) (h : PthV w p v) :
    Calls Tryz.prog 63 #[v] w fun e w' => e = .returned (.string (str (idP p))) ∧ Ext w w' := by
  have HX := Lib.hid (show idP p = if (showP p).length ≤ 400 then showP p else [] from rfl)
  have hsz := str_size (showP p)
  have hln := showP_len hl
  obtain ⟨a, m, c, rfl, hr, hi⟩ := h
  have HV := Lib.hid (show PthV w p (.agg #[.int .i64 p.flow, .slice a m c]) from ⟨a, m, c, rfl, hr, hi⟩)
  have hb := BoxL.new w [.int .i64 p.flow, .slice a m c] 24
  have HE0 := Lib.hid ((Ext.refl w).alloc (.cells #[.int .i64 p.flow, .slice a m c] 24))
  clear hr hi
  go_enter Tryz.func63, Tryz.ntmps63
  go_upto_region 1 with (fail)
  generalize w.alloc (.cells #[.int .i64 p.flow, .slice a m c] 24) = W1 at *
  have p0 := hb.cell 0 _ rfl
  have p1 := hb.cell 1 _ rfl
  clear hb
  go_wp2_with fail
  refine (rshow12_any p hl W1 _ (HV.out.ext HE0.out)).mono ?_
  rintro e w2 ⟨rfl, hE2⟩
  have HE2 := Lib.hid (HE0.out.trans hE2)
  clear hE2
  by_cases hc : (showP p).length ≤ 400
  · have hd : decide ((400 : Int) < ((showP p).length : Int)) = false := by simp; omega
    have HY := Lib.hid (show idP p = showP p by rw [HX.out, if_pos hc])
    clear HX hc
    go_wp2
    go_ret
    exact ⟨by rw [HY.out]; rfl, HE2.out⟩
  · have hd : decide ((400 : Int) < ((showP p).length : Int)) = true := by simp; omega
    have HY := Lib.hid (show idP p = [] by rw [HX.out, if_neg hc])
    clear HX hc
    go_wp2
    go_ret
    exact ⟨by rw [HY.out]; rfl, HE2.out⟩
theorem idP_low {f k : Int} {l : List Stp} {n : List UInt8} (hk : k < -1) : idP ⟨f, l ++ [⟨n, k⟩]⟩ = [] := by
  have hb : pthB ⟨f, l ++ [⟨n, k⟩]⟩ = false := by
    cases h : pthB ⟨f, l ++ [⟨n, k⟩]⟩ with
    | false => rfl
    | true =>
      have := (stpB_iff.1 ((pthB_iff.1 h).2 ⟨n, k⟩ (by simp))).2
      simp only at this
      omega
  unfold idP
  rw [showP_wrong hb]
  rfl
set_option maxRecDepth 100000 in
set_option maxHeartbeats 2000000 in
theorem reach12_any (s : List UInt8) (k : Int) (hk : isI64 k) (hs : s.length ≤ 9223372036854775807) (w : World) :
    Calls Tryz.prog 21 #[.string (str s), .int .i64 k] w fun e w' => e = .returned (.string (str (eachS s k))) ∧ Ext w w' := by
  have HC := Lib.hid (rparse12_any s hs w)
  have HK := Lib.hid hk
  clear hk
  go_enter Tryz.func21, Tryz.ntmps21
  go_wp2_with fail
  refine HC.out.mono ?_
  rintro e w1 ⟨v, rfl, hE1, hN, hS⟩
  cases hp : parseP s with
  | none =>
    have HX := Lib.hid (show eachS s k = [] by unfold eachS; rw [hp])
    obtain rfl := hN hp
    have HE1 := Lib.hid (hE1.alloc (.cells #[.int .i64 0, .slice none 0 0] 24))
    have hb := BoxL.new w1 [.int .i64 0, .slice none 0 0] 24
    clear hN hS hp hE1
    go_upto_region 2 with (fail)
    generalize w1.alloc (.cells #[.int .i64 0, .slice none 0 0] 24) = W2 at *
    have p0 := hb.cell 0 _ rfl
    have p1 := hb.cell 1 _ rfl
    clear hb
    go_wp2
    go_ret
    exact ⟨by rw [HX.out]; rfl, HE1.out⟩
  | some p =>
    have HX := Lib.hid (show eachS s k = match p.steps.getLast? with
      | none => []
      | some x => if x.place = -1 ∧ k ≠ -1 then idP ⟨p.flow, p.steps.dropLast ++ [⟨x.name, k⟩]⟩ else [] by unfold eachS; rw [hp]; rfl)
    obtain ⟨a, m, c, rfl, hO, hfl⟩ := hS p hp
    have hlen := parse_steps hp
    have HPB := Lib.hid (pthB_iff.1 (parseP_iff.1 hp).1).2
    obtain ⟨rfl, hb1, hb2⟩ := ownSt_bounds hO
    have hb := BoxL.new w1 [.int .i64 p.flow, .slice a p.steps.length c] 24
    have hE2 := hE1.alloc (.cells #[.int .i64 p.flow, .slice a p.steps.length c] 24)
    have hO2 := hO.ext ((Ext.refl w1).alloc (.cells #[.int .i64 p.flow, .slice a p.steps.length c] 24))
    have HF := Lib.hid hfl
    have hzw := hE1.size
    clear hN hS hp hE1 hO hfl
    go_upto_region 2 with (fail)
    generalize w1.alloc (.cells #[.int .i64 p.flow, .slice a p.steps.length c] 24) = W2 at *
    have p0 := hb.cell 0 _ rfl
    have p1 := hb.cell 1 _ rfl
    have hz2 := hb.lt
    have HB := Lib.hid hb
    have HE := Lib.hid hE2
    have HO := Lib.hid hO2
    clear hb hE2 hO2
    rcases snoc_cases p.steps with hst | ⟨l, x, hst⟩
    · have HY := Lib.hid (show eachS s k = [] by rw [HX.out, hst]; rfl)
      have h0 : p.steps.length = 0 := by rw [hst]; rfl
      rw [h0] at p1 hb1
      clear HX hst h0 HO HB HPB
      go_wp2
      go_ret
      exact ⟨by rw [HY.out]; rfl, HE.out⟩
    · have h1 : p.steps.length = l.length + 1 := by rw [hst]; simp
      have HXs := Lib.hid (show eachS s k = if x.place = -1 ∧ k ≠ -1 then idP ⟨p.flow, l ++ [⟨x.name, k⟩]⟩ else [] by rw [HX.out, hst]; simp)
      have hxp := (stpB_iff.1 (HPB.out x (by rw [hst]; simp))).2
      have hO := HO.out
      rw [h1, hst] at hO
      rw [h1] at p1 hb1 HB hlen
      have HWF := Lib.hid hO.2
      have HSR := Lib.hid (fun (W : World) (h : Ext W2 W) => src_st hO.row h)
      clear HX h1 hst HO HPB
      obtain ⟨g, cap, he⟩ := ownsRow_succ (show W2.ownsRow w.heap.size 27 2 (.slice a (l.length + 1) c) (l.length + 1) (stpsCells (l ++ [x])) by have := hO.1; rwa [List.length_append, List.length_singleton] at this)
      injection he with e1 e2 e3
      subst e1 e3
      obtain ⟨x0, x1, -⟩ := hO.setLast k HK.out
      clear hO
      by_cases hpl : x.place = -1
      case neg =>
        have HY := Lib.hid (show eachS s k = [] by rw [HXs.out, if_neg (by simp [hpl])])
        have ht : 0 ≤ x.place := by omega
        clear hpl HXs hxp HSR
        go_wp2
        go_ret
        exact ⟨by rw [HY.out]; rfl, HE.out⟩
      case pos =>
        have ht : ¬ 0 ≤ x.place := by omega
        by_cases hkk : 0 ≤ k
        case neg =>
          have HY := Lib.hid (show eachS s k = [] by
            rw [HXs.out]
            by_cases h1 : k = -1
            · rw [if_neg (by simp [h1])]
            · rw [if_pos ⟨hpl, h1⟩]; exact idP_low (by omega))
          have hk0 : k < 0 := by omega
          clear hpl HXs hxp HSR
          go_wp2
          go_ret
          exact ⟨by rw [HY.out]; rfl, HE.out⟩
        case pos =>
          have HY := Lib.hid (show eachS s k = idP ⟨p.flow, l ++ [⟨x.name, k⟩]⟩ by rw [HXs.out, if_pos ⟨hpl, by omega⟩])
          have hk0 : ¬ k < 0 := by omega
          clear hpl HXs hxp
          go_upto_region 5 with (fail)
          have hE3 := (Ext.refl W2).alloc (.cells #[] 27)
          have HB3 := Lib.hid (HB.out.ext hE3)
          have HE3 := Lib.hid (HE.out.trans hE3)
          have HSR3 := Lib.hid (HSR.out _ hE3)
          have HMK := Lib.hid (made_st W2)
          have HZ := Lib.hid hE3.size
          have hll : (l ++ [x]).length = l.length + 1 := by simp
          rw [hll] at HSR3
          clear p0 p1 x0 x1 hE3 HSR
          have p0 := HB3.out.cell 0 _ rfl
          have p1 := HB3.out.cell 1 _ rfl
          go_wp2_with (at_builtin; refine wpList_appAt _ elem_step rfl _ _ 22 rfl W2.heap.size _ 0 [] rfl HMK.out _ (l.length + 1) (stpsCells (l ++ [x])) rfl HSR3.out ?c1 ?c2 HZ.out ?_)
          case c1 => unfold maxLen; omega
          case c2 => omega
          intro v' w5 hown' hgrow hat
          have hO5 : OwnSt 27 W2.heap.size w5 v' (l ++ [x]) := ⟨by rw [hll]; simpa using hown', HWF.out⟩
          obtain ⟨g5, cap5, rfl⟩ := ownsRow_succ (show w5.ownsRow W2.heap.size 27 2 v' (l.length + 1) (stpsCells (l ++ [x])) by simpa using hown')
          have HB5 := Lib.hid (HB3.out.kept hgrow (fun e => by have e : W2.heap.size = w1.heap.size := by injection e
                                                               omega))
          have HE5 := Lib.hid (HE3.out.grown hgrow (fun k e => by have e : W2.heap.size = k := by injection e
                                                                  omega))
          have hg5 := hO5.lt g5 rfl
          obtain ⟨y0, y1, hO6⟩ := hO5.setLast k HK.out
          have HB6 := Lib.hid (HB5.out.kept (grown_set w5 g5 (l.length * 2 + 1) (.int .i64 k)) (fun e => by injection e; omega))
          have HE6 := Lib.hid (HE5.out.setCell (p := ⟨g5, l.length * 2 + 1, none⟩) (by show w.heap.size ≤ g5; omega) (.int .i64 k))
          have HO6 := Lib.hid hO6
          clear hgrow hat hown' HB HE HB3 HE3 HSR3 HMK HZ p0 p1 hO5 HB5 HE5 hO6 hll
          go_upto_region 7 with (fail)
          generalize w5.setCell ⟨g5, l.length * 2 + 1, none⟩ (.int .i64 k) = W6 at *
          clear y0 y1
          have q0 := HB6.out.cell 0 _ rfl
          have q1 := HB6.out.cell 1 _ rfl
          have q2 := HB6.out.free 1
          have hgs := grown_set W6 w1.heap.size 1 (.slice (some ⟨g5, 0, none⟩) (l.length + 1) cap5)
          have HB7 := Lib.hid (HB6.out.set 1 (by simp) (.slice (some ⟨g5, 0, none⟩) (l.length + 1) cap5))
          have HE7 := Lib.hid (HE6.out.setCell (p := ⟨w1.heap.size, 1, none⟩) (by show w.heap.size ≤ w1.heap.size; omega) (.slice (some ⟨g5, 0, none⟩) (l.length + 1) cap5))
          have hO7 := (show OwnSt 27 W2.heap.size (W6.setCell ⟨w1.heap.size, 1, none⟩ (.slice (some ⟨g5, 0, none⟩) (l.length + 1) cap5)) (.slice (some ⟨g5, 0, none⟩) (l.length + 1) cap5) (l ++ [⟨x.name, k⟩]) from
            ⟨World.ownsRow.kept HO6.out.1 hgs (.inr (fun e => by injection e with e; have e : g5 = w1.heap.size := e; omega)), HO6.out.2⟩)
          have HV := Lib.hid (show PthV (W6.setCell ⟨w1.heap.size, 1, none⟩ (.slice (some ⟨g5, 0, none⟩) (l.length + 1) cap5)) ⟨p.flow, l ++ [⟨x.name, k⟩]⟩ (.agg #[.int .i64 p.flow, .slice (some ⟨g5, 0, none⟩) (l.length + 1) cap5]) from ⟨_, _, _, rfl, hO7.row, HF.out⟩)
          clear hgs hO7 HO6 HB6 HE6
          go_upto_region 8 with (fail)
          generalize W6.setCell ⟨w1.heap.size, 1, none⟩ (.slice (some ⟨g5, 0, none⟩) (l.length + 1) cap5) = W7 at *
          clear q0 q1 q2
          have q0 := HB7.out.cell 0 _ rfl
          have q1 := HB7.out.cell 1 _ rfl
          go_wp2_with fail
          refine (rid12_any ⟨p.flow, l ++ [⟨x.name, k⟩]⟩ (by simp; omega) _ _ HV.out).mono ?_
          rintro e w9 ⟨rfl, hE9⟩
          have HE9 := Lib.hid (HE7.out.trans hE9)
          clear hE9
          go_wp2
          go_ret
          exact ⟨by rw [HY.out]; rfl, HE9.out⟩
end Go.Proofs.YtpcgpcjleedilaaGreatDoor

open Go.RowKit Go.Shelf
namespace Go.Proofs.YtpcgpcjleedilaaGreatDoor
open Go Go.Proofs Fm

/-- What the reference's Each comes to. -/
def REachPost (w : World) (m : Nd) (at' n : Int) (e : Ending) (w' : World) : Prop := ∃ (A : Option Addr) (k c : Nat), e = .returned (.slice A k c) ∧ Ext w w' ∧ ndE.Row w' (eachF m at' n) (.slice A k c)
theorem ownN_of {e : TypeId} {base n : Nat} {w : World} {v : Value} {l : List Int} {xs : List Value} (h : w.ownsRow base e 1 v n xs) (hn : n = l.length) (hx : xs = l.map (Value.int .i64)) : OwnN e base w v l := by
  subst hn hx
  exact h
theorem reach_none {w w' : World} {m : Nd} {at' n : Int} (h : eachF m at' n = []) (hE : Ext w w') : REachPost w m at' n (.returned (.slice none 0 0)) w' :=
  ⟨_, _, _, rfl, hE, by rw [h]; exact Elem.Row.void _ _ _⟩
set_option maxRecDepth 100000 in
set_option maxHeartbeats 4000000 in
theorem reach18_any (m : Nd) (at' n : Int) (hat : isI64 at') (hid : m.id.length ≤ 1000000) (haf : m.after.length ≤ 1000000) (w : World) (v : Value) (h : NdV w m v) :
    Calls Tryz.prog 31 #[v, .int .i64 at', .int .i64 n] w (REachPost w m at' n) := by
  have hwf := h.wf
  obtain ⟨a, len, c, k, N, s, l, rfl, hr, hl, hb⟩ := h
  obtain ⟨a', c', e, hc1, hc2⟩ := hr.slice
  injection e with e1 e2 e3
  subst e1 e2 e3
  have HR := Lib.hid hr
  have HWF := Lib.hid hwf
  have HAT := Lib.hid hat
  have HX := Lib.hid (show eachF m at' n = if mapsF m && decide (1 ≤ n) && decide (n ≤ 40) then (List.range n.toNat).map (eachNd m at') else [] from rfl)
  have hB := BoxL.new w (ndCells m (.slice a m.after.length c) k N s l) 46
  have hE := (Ext.refl w).alloc (.cells (ndCells m (.slice a m.after.length c) k N s l).toArray 46)
  obtain ⟨Cs, hCs⟩ : ∃ Cs, Cs = ndCells m (.slice a m.after.length c) k N s l := ⟨_, rfl⟩
  obtain ⟨MA, hMA⟩ : ∃ MA, MA = m.after.length := ⟨_, rfl⟩
  have HCo : Hid (Cs[0]? = some (.string (str m.id)) ∧ Cs[2]? = some (.int .u8 (m.kind.toNat : Int)) ∧ Cs[3]? = some (.int .i64 m.flow) ∧ Cs[6]? = some (.slice a MA c) ∧ Cs[8]? = some (.int .i64 m.quota)) := Lib.hid (by rw [hCs, hMA]; exact ⟨rfl, rfl, rfl, rfl, rfl⟩)
  rw [← hCs] at hB hE ⊢
  have HMA := Lib.hid hMA
  have hma : MA ≤ 1000000 := by omega
  clear hCs hr hl hb hwf hat hc1 hc2 hMA haf
  go_enter Tryz.func31, Tryz.ntmps31
  go_upto_region 1 with (fail)
  generalize w.alloc (.cells Cs.toArray 46) = W1 at *
  have p2 := hB.cell 2 _ HCo.out.2.1
  have p6 := hB.cell 6 _ HCo.out.2.2.2.1
  have HB := Lib.hid hB
  have HE1 := Lib.hid hE
  have hk := u8_one (k := m.kind) 1
  rw [show (((1 : UInt8).toNat : Nat) : Int) = 1 from rfl] at hk
  obtain ⟨K, hK⟩ : ∃ K, K = (m.kind.toNat : Int) := ⟨_, rfl⟩
  rw [← hK] at p2 hk
  clear hB hE hK
  by_cases h1 : m.kind = 1
  case neg =>
    have f1 : (K == 1) = false := by rw [hk]; simpa using h1
    have f2 : (K != 1) = true := by rw [bne, f1]; rfl
    have HY := Lib.hid (show eachF m at' n = [] by rw [HX.out]; unfold mapsF; rw [decide_eq_false h1]; rfl)
    clear hk h1 HX
    go_wp2
    go_ret
    exact reach_none HY.out HE1.out
  have f1 : (K == 1) = true := by rw [hk]; simpa using h1
  have f2 : (K != 1) = false := by rw [bne, f1]; rfl
  have H1 := Lib.hid h1
  clear hk h1
  by_cases hne : MA = 0
  case pos =>
    subst hne
    have HY := Lib.hid (show eachF m at' n = [] by
      rw [HX.out]; unfold mapsF
      rw [decide_eq_false (show ¬ m.after ≠ [] from fun h => h (List.eq_nil_of_length_eq_zero HMA.out.symm))]; simp)
    clear HX
    go_wp2
    go_ret
    exact reach_none HY.out HE1.out
  have hz : ((MA : Int) == 0) = false := by simp; omega
  have HNE := Lib.hid (show 1 ≤ m.after.length by have := HMA.out; omega)
  have hmp : mapsF m = true := by
    unfold mapsF
    rw [decide_eq_true H1.out, decide_eq_true (show m.after ≠ [] from fun h => by have := HMA.out; rw [h] at this; exact hne this)]
    rfl
  by_cases h40 : n ≤ 40
  case neg =>
    have hd : decide (40 < n) = true := decide_eq_true (by omega)
    have hd' : 40 < n := by omega
    have HY := Lib.hid (show eachF m at' n = [] by rw [HX.out, hmp, decide_eq_false h40, Bool.and_false]; rfl)
    clear HX hmp h40 hne
    go_wp2
    go_ret
    exact reach_none HY.out HE1.out
  have hd : decide (40 < n) = false := decide_eq_false (by omega)
  have hd' : ¬ 40 < n := by omega
  obtain ⟨M, hM⟩ : ∃ M : Nat, M = n.toNat := ⟨_, rfl⟩
  have HY := Lib.hid (show eachF m at' n = (List.range M).map (eachNd m at') by
    rw [HX.out, hmp, decide_eq_true h40]
    by_cases h0 : 1 ≤ n
    · rw [decide_eq_true h0, hM]; rfl
    · rw [decide_eq_false h0, hM, show n.toNat = 0 by omega]; rfl)
  have hMn : (M : Int) ≤ 40 ∧ (n ≤ 0 ∧ M = 0 ∨ n = (M : Int)) := by omega
  have hM40 : M ≤ 40 := by omega
  have HMn := Lib.hid hMn.2
  clear HX hmp hM h40 hne hMn
  go_upto_region 4 with (fail)
  clear f1 f2 hz hd hd' p2 p6
  go_wp2_with fail
  go_loopw [7, 8] (fun o k' wr => ∃ (j : Nat) (A : Option Addr) (nn C : Nat), j ≤ M ∧ k' = .int .i64 j ∧ o = .slice A nn C ∧ nn = j ∧ Hid (Ext W1 wr) ∧ Hid (HeldN 46 W1.heap.size wr (.slice A nn C) ((List.range j).map (eachNd m at')))) (fun _ k' _ => M - (intOf k').toNat)
  case atStart => exact ⟨0, _, _, _, by omega, rfl, rfl, rfl, Lib.hid (Ext.refl _), Lib.hid (HeldN.nil _ _ _)⟩
  case round =>
    obtain ⟨j, A, nn, C, hj, rfl, rfl, rfl, HE, HH⟩ := hrel
    rename World => wr
    by_cases hlt : nn < M
    case neg =>
      obtain rfl : nn = M := by omega
      have hd : ¬ (nn : Int) < n := by have := HMn.out; omega
      clear hlt
      go_wp2
      go_ret
      exact ⟨_, _, _, rfl, HE1.out.trans HE.out, by rw [HY.out]; exact HH.out.row⟩
    have hd : (nn : Int) < n := by have := HMn.out; omega
    obtain ⟨A1, L1, C1, HSI, HSrc, hL1⟩ : ∃ (A1 : Option Addr) (L1 C1 : Nat), Hid (∀ w', (Instr.slice 41 (.slice a MA c) (some (.int .i64 1)) none none).run Tryz.prog w' = .ok (.slice A1 L1 C1) w') ∧
        Hid (∀ wx, Ext W1 wx → Src Tryz.prog 1 41 (.slice A1 L1 C1) L1 (m.after.tail.map (Value.int .i64)) wx) ∧ L1 = m.after.tail.length := by
      have h1 := HR.out.drop (k := 1) HNE.out
      rw [List.drop_one] at h1
      refine ⟨_, _, _, Lib.hid (slice_int_from a MA c 1 (by rw [HMA.out]; exact HNE.out)), Lib.hid (fun wx hx => ?_), by rw [HMA.out, List.length_tail]⟩
      have h2 := Src.ints Tryz.underlying41 h1 (HE1.out.trans hx)
      rw [List.length_tail] at h2
      rw [HMA.out]
      exact h2
    have HL1 := Lib.hid hL1
    have hL2 : L1 ≤ 1000000 := by rw [hL1, List.length_tail, ← HMA.out]; omega
    have hown : ∀ b, (Value.slice A nn C).ownBlock = some b → W1.heap.size ≤ b ∧ b < wr.heap.size := fun b hb => HH.out.lt b hb
    have HOB := Lib.hid hown
    clear hL1 hown
    have HCA : Hid (∀ wx, Ext wr wx → Calls Tryz.prog 21 #[.string (str m.id), .int .i64 (nn : Int)] wx (fun e w' => e = .returned (.string (str (eachS m.id (nn : Int)))) ∧ Ext wx w')) := Lib.hid (fun wx hx => reach12_any m.id (nn : Int) (by unfold isI64; omega) (by omega) wx)
    have HS : Hid (∀ wx, Ext W1 wx → (wx.cell? ⟨w.heap.size, 0, none⟩ = some (.string (str m.id)) ∧ wx.cell? ⟨w.heap.size, 3, none⟩ = some (.int .i64 m.flow) ∧ wx.cell? ⟨w.heap.size, 6, none⟩ = some (.slice a MA c) ∧ wx.cell? ⟨w.heap.size, 8, none⟩ = some (.int .i64 m.quota))) := Lib.hid (fun wx hE => by
      have h := HB.out.ext hE
      exact ⟨h.cell 0 _ HCo.out.1, h.cell 3 _ HCo.out.2.2.1, h.cell 6 _ HCo.out.2.2.2.1, h.cell 8 _ HCo.out.2.2.2.2⟩)
    have hsl := HSI.out
    have HLn : Hid (∀ A C, (ndCells (eachNd m at' nn) (.slice A L1 C) (.int .u8 0) (.int .i64 0) (.string { data := #[] }) (.slice none 0 0)).length = 16) := Lib.hid (fun _ _ => rfl)
    have HN1 : Hid (∀ A C u, u ∈ ndCells (eachNd m at' nn) (.slice A L1 C) (.int .u8 0) (.int .i64 0) (.string { data := #[] }) (.slice none 0 0) → u.oneCell' = true) := Lib.hid (fun A C u hu => by
      simp only [ndCells, List.mem_cons, List.not_mem_nil, or_false] at hu
      rcases hu with rfl | rfl | rfl | rfl | rfl | rfl | rfl | rfl | rfl | rfl | rfl | rfl | rfl | rfl | rfl | rfl <;> rfl)
    have ED := Lib.hid (Ext.refl wr).drew
    have hj0 : (0 : Int) ≤ (nn : Int) := by omega
    go_upto_region 7 with (fail)
    refine wp_region_held_drew (S := (fun w' => w'.cell? ⟨w.heap.size, 0, none⟩ = some (.string (str m.id)) ∧ w'.cell? ⟨w.heap.size, 3, none⟩ = some (.int .i64 m.flow) ∧ w'.cell? ⟨w.heap.size, 6, none⟩ = some (.slice a MA c) ∧ w'.cell? ⟨w.heap.size, 8, none⟩ = some (.int .i64 m.quota))) (by kernel_rfl) ?_ (fun hHeld => ?_)
    · (try dsimp only)
      (first | exact HS.out _ (HE.out.trans ED.out) | exact HS.out _ (HE.out.trans E1.out) | exact HS.out _ (HE.out.trans E2.out) | exact HS.out _ (HE.out.trans E3.out) | exact HS.out _ (HE.out.trans E4.out) | exact HS.out _ E9.out)
    refine take_w 0 (some 27) (v := ?_) (by kernel_rfl) (by kernel_rfl) (by kernel_rfl) (by kernel_rfl) (by kernel_rfl) (fun _ _ _ h => h) (by rfl) ?_ (by assumption) ?_
    rotate_left
    · (intro w hSw; (try dsimp only at hSw); go_simp; try with_reducible rfl)
    try simp only [Act.put, List.setIfInBounds_toArray, List.set_cons_zero, List.set_cons_succ]
    refine take_w 1 (some 28) (v := ?_) (by kernel_rfl) (by kernel_rfl) (by kernel_rfl) (by kernel_rfl) (by kernel_rfl) (fun _ _ _ h => h) (by rfl) ?_ (by assumption) ?_
    rotate_left
    · (intro w hSw; (try dsimp only at hSw); go_simp; try with_reducible rfl)
    try simp only [Act.put, List.setIfInBounds_toArray, List.set_cons_zero, List.set_cons_succ]
    refine take_w 2 (some 29) (v := ?_) (by kernel_rfl) (by kernel_rfl) (by kernel_rfl) (by kernel_rfl) (by kernel_rfl) (fun _ _ _ h => h) (by rfl) ?_ (by assumption) ?_
    rotate_left
    · (intro w hSw; (try dsimp only at hSw); go_simp; try with_reducible rfl)
    try simp only [Act.put, List.setIfInBounds_toArray, List.set_cons_zero, List.set_cons_succ]
    refine take_w 3 (some 30) (v := ?_) (by kernel_rfl) (by kernel_rfl) (by kernel_rfl) (by kernel_rfl) (by kernel_rfl) (fun _ _ _ h => h) (by rfl) ?_ (by assumption) ?_
    rotate_left
    · (intro w hSw; (try dsimp only at hSw); go_simp; try with_reducible rfl)
    try simp only [Act.put, List.setIfInBounds_toArray, List.set_cons_zero, List.set_cons_succ]
    refine take_w 5 (some 32) (v := ?_) (by kernel_rfl) (by kernel_rfl) (by kernel_rfl) (by kernel_rfl) (by kernel_rfl) (fun _ _ _ h => h) (by rfl) ?_ (by assumption) ?_
    rotate_left
    · (intro w hSw; (try dsimp only at hSw); go_simp; try with_reducible rfl)
    try simp only [Act.put, List.setIfInBounds_toArray, List.set_cons_zero, List.set_cons_succ]
    refine take_w 6 (some 33) (v := ?_) (by kernel_rfl) (by kernel_rfl) (by kernel_rfl) (by kernel_rfl) (by kernel_rfl) (fun _ _ _ h => h) (by rfl) ?_ (by assumption) ?_
    rotate_left
    · (intro w hSw; (try dsimp only at hSw); go_simp; try with_reducible rfl)
    try simp only [Act.put, List.setIfInBounds_toArray, List.set_cons_zero, List.set_cons_succ]
    refine take_w 7 (some 34) (v := ?_) (by kernel_rfl) (by kernel_rfl) (by kernel_rfl) (by kernel_rfl) (by kernel_rfl) (fun _ _ _ h => h) (by rfl) ?_ (by assumption) ?_
    rotate_left
    · (intro w hSw; (try dsimp only at hSw); go_simp; try with_reducible rfl)
    try simp only [Act.put, List.setIfInBounds_toArray, List.set_cons_zero, List.set_cons_succ]
    refine take_w 8 (some 35) (v := ?_) (by kernel_rfl) (by kernel_rfl) (by kernel_rfl) (by kernel_rfl) (by kernel_rfl) (fun _ _ _ h => h) (by rfl) ?_ (by assumption) ?_
    rotate_left
    · (intro w hSw; (try dsimp only at hSw); go_simp; try with_reducible rfl)
    try simp only [Act.put, List.setIfInBounds_toArray, List.set_cons_zero, List.set_cons_succ]
    refine take_w 10 (some 37) (v := ?_) (by kernel_rfl) (by kernel_rfl) (by kernel_rfl) (by kernel_rfl) (by kernel_rfl) (fun _ _ _ h => h) (by rfl) ?_ (by assumption) ?_
    rotate_left
    · (intro w hSw; (try dsimp only at hSw); go_simp; try with_reducible rfl)
    try simp only [Act.put, List.setIfInBounds_toArray, List.set_cons_zero, List.set_cons_succ]
    refine take_w 11 (some 38) (v := ?_) (by kernel_rfl) (by kernel_rfl) (by kernel_rfl) (by kernel_rfl) (by kernel_rfl) (fun _ _ _ h => h) (by rfl) ?_ (by assumption) ?_
    rotate_left
    · (intro w hSw; (try dsimp only at hSw); go_simp; try with_reducible rfl)
    try simp only [Act.put, List.setIfInBounds_toArray, List.set_cons_zero, List.set_cons_succ]
    refine take_w 12 (some 39) (v := ?_) (by kernel_rfl) (by kernel_rfl) (by kernel_rfl) (by kernel_rfl) (by kernel_rfl) (fun _ _ _ h => h) (by rfl) ?_ (by assumption) ?_
    rotate_left
    · (intro w hSw; (try dsimp only at hSw); go_simp; try with_reducible rfl)
    try simp only [Act.put, List.setIfInBounds_toArray, List.set_cons_zero, List.set_cons_succ]
    refine take_w 14 (some 41) (v := ?_) (by kernel_rfl) (by kernel_rfl) (by kernel_rfl) (by kernel_rfl) (by kernel_rfl) (fun _ _ _ h => h) (by rfl) ?_ (by assumption) ?_
    rotate_left
    · (intro w hSw; (try dsimp only at hSw); go_simp; try with_reducible rfl)
    try simp only [Act.put, List.setIfInBounds_toArray, List.set_cons_zero, List.set_cons_succ]
    refine take_w 15 (some 42) (v := ?_) (by kernel_rfl) (by kernel_rfl) (by kernel_rfl) (by kernel_rfl) (by kernel_rfl) (fun _ _ _ h => h) (by rfl) ?_ (by assumption) ?_
    rotate_left
    · (intro w hSw; (try dsimp only at hSw); go_simp; try with_reducible rfl)
    try simp only [Act.put, List.setIfInBounds_toArray, List.set_cons_zero, List.set_cons_succ]
    refine ready_two 4 9 (by kernel_rfl) (by kernel_rfl) (by kernel_rfl) (by rfl) (by rfl) (fun Kc hKc => ?_) (fun Kc hKc => ?_)
    · go_simp
      refine (HCA.out _ ED.out).mono ?_
      rintro e y1 ⟨rfl, hE4⟩
      have E1 := Lib.hid (ED.out.trans hE4)
      clear hE4
      try go_wp2_with fail
      refine hKc.out _ _ ?_ (fun hHeld => ?_)
      · (try dsimp only)
        (first | exact HS.out _ (HE.out.trans ED.out) | exact HS.out _ (HE.out.trans E1.out) | exact HS.out _ (HE.out.trans E2.out) | exact HS.out _ (HE.out.trans E3.out) | exact HS.out _ (HE.out.trans E4.out) | exact HS.out _ E9.out)
      clear hKc Kc
      try simp only [Act.put, List.setIfInBounds_toArray, List.set_cons_zero, List.set_cons_succ]
      refine ready_one 9 (by kernel_rfl) (by kernel_rfl) (by rfl) (fun Kc hKc => ?_)
      go_simp
      have E2 := Lib.hid (E1.out.trans ((Ext.refl y1).alloc (.cells #[] 3)))
      have HRo := Lib.hid (World.ownsRow_lit y1 #[] 0 (base := y1.heap.size) (e := 3) (size := 1) (Nat.le_refl _) (by unfold maxLen; omega) rfl)
      have HAB := Lib.hid E1.out.size
      try go_wp2_with fail
      refine hKc.out _ _ ?_ (fun hHeld => ?_)
      · (try dsimp only)
        (first | exact HS.out _ (HE.out.trans ED.out) | exact HS.out _ (HE.out.trans E1.out) | exact HS.out _ (HE.out.trans E2.out) | exact HS.out _ (HE.out.trans E3.out) | exact HS.out _ (HE.out.trans E4.out) | exact HS.out _ E9.out)
      clear hKc Kc
      try simp only [Act.put, List.setIfInBounds_toArray, List.set_cons_zero, List.set_cons_succ]
      refine ready_one 13 (by kernel_rfl) (by kernel_rfl) (by rfl) (fun Kc hKc => ?_)
      refine wp_appendS (.tmp 36) (.tmp 39) 41 (by rfl) elemint_F _ _ 0 [] (by rfl) HRo.out (.slice A1 L1 C1) L1 (m.after.tail.map (Value.int .i64)) (by rfl) (HSrc.out _ (HE.out.trans E2.out)) (by unfold maxLen; omega) (by omega) ?_ ?_
      · have := E2.out.size; have := HRo.out.lt _ rfl; omega
      intro A5 C5 w5 hown5 hgr5 hat5
      rw [Nat.zero_add, List.nil_append] at hown5
      have E3 := Lib.hid (E2.out.grown hgr5 (fun k hk => by have h1 := HAB.out; have h2 := (World.ownsRow.lt HRo.out k hk).1; omega))
      have HO5 := Lib.hid hown5
      have HAf : Hid (∀ b, (Value.slice A5 L1 C5).ownBlock = some b → wr.heap.size ≤ b) := Lib.hid (fun b hb => by have h1 := HAB.out; have h2 := (World.ownsRow.lt hown5 b hb).1; omega)
      try rw [Nat.zero_add]
      change Kc (Act.put _ (some 40) _) _
      clear hown5 hgr5 hat5
      refine hKc.out _ _ ?_ (fun hHeld => ?_)
      · (try dsimp only)
        (first | exact HS.out _ (HE.out.trans ED.out) | exact HS.out _ (HE.out.trans E1.out) | exact HS.out _ (HE.out.trans E2.out) | exact HS.out _ (HE.out.trans E3.out) | exact HS.out _ (HE.out.trans E4.out) | exact HS.out _ E9.out)
      clear hKc Kc
      try simp only [Act.put, List.setIfInBounds_toArray, List.set_cons_zero, List.set_cons_succ]
      refine take_w 16 (some 43) (v := ?_) (by kernel_rfl) (by kernel_rfl) (by kernel_rfl) (by kernel_rfl) (by kernel_rfl) (fun _ _ _ h => h) (by rfl) ?_ (by assumption) ?_
      rotate_left
      · (intro w hSw; (try dsimp only at hSw); go_simp; try with_reducible rfl)
      try simp only [Act.put, List.setIfInBounds_toArray, List.set_cons_zero, List.set_cons_succ]
      refine ready_one 17 (by kernel_rfl) (by kernel_rfl) (by rfl) (fun Kc hKc => ?_)
      go_simp
      have E4 := Lib.hid (E3.out.trans ((Ext.refl w5).alloc (.cells (ndCells (eachNd m at' nn) (.slice A5 L1 C5) (.int .u8 0) (.int .i64 0) (.string { data := #[] }) (.slice none 0 0)).toArray 46)))
      try go_wp2_with fail
      refine hKc.out _ _ ?_ (fun hHeld => ?_)
      · (try dsimp only)
        (first | exact HS.out _ (HE.out.trans ED.out) | exact HS.out _ (HE.out.trans E1.out) | exact HS.out _ (HE.out.trans E2.out) | exact HS.out _ (HE.out.trans E3.out) | exact HS.out _ (HE.out.trans E4.out) | exact HS.out _ E9.out)
      clear hKc Kc
      try simp only [Act.put, List.setIfInBounds_toArray, List.set_cons_zero, List.set_cons_succ]
      refine ready_one 18 (by kernel_rfl) (by kernel_rfl) (by rfl) (fun Kc hKc => ?_)
      have hH6 := HH.out.ext E4.out
      obtain ⟨xs6, hrow6, hmore6⟩ := hH6.rowOf
      rw [List.length_map, List.length_range] at hrow6 hmore6
      refine wp_appendS (.tmp 27) (.tmp 44) 40 (by rfl) elemnode_F W1.heap.size (.slice A nn C) nn xs6 (by rfl) hrow6 (.slice (some ⟨w5.heap.size, 0, none⟩) 1 1) 1 (ndCells (eachNd m at' nn) (.slice A5 L1 C5) (.int .u8 0) (.int .i64 0) (.string { data := #[] }) (.slice none 0 0)) (by rfl) (Src.ofSlice (P := Tryz.prog) _ Tryz.underlying40 ⟨w5.heap.size, 0, none⟩ 1 1 (ndCells (eachNd m at' nn) (.slice A5 L1 C5) (.int .u8 0) (.int .i64 0) (.string { data := #[] }) (.slice none 0 0)) rfl (fun p u hu => by have := rangeAt_new w5 (ndCells (eachNd m at' nn) (.slice A5 L1 C5) (.int .u8 0) (.int .i64 0) (.string { data := #[] }) (.slice none 0 0)) 46 p u hu; rw [Addr.add_lit]; exact this) (HN1.out A5 C5)) (by unfold maxLen; omega) (by omega) (HE.out.trans E4.out).size ?_
      intro A9 C9 w9 hown9 hgr9 hat9
      have HH9 := Lib.hid (hmore6 w9 (.slice A9 (nn + 1) C9) [eachNd m at' nn] [(ndCells (eachNd m at' nn) (.slice A5 L1 C5) (.int .u8 0) (.int .i64 0) (.string { data := #[] }) (.slice none 0 0))] rfl (farNd_one (farNd_of (fun w' hw' => by
        refine ⟨A5, L1, C5, .int .u8 0, .int .i64 0, .string { data := #[] }, .slice none 0 0, rfl, ?_, (num18_own (n := 0) (by unfold isI64; omega) w' 0).lies, (by obtain ⟨y1, y2, y3, y4, y5, y6, y7, y8, y9, -, -⟩ := eachNd_wf (k := nn) HWF.out HAT.out (by omega) (by have := eachS_le m.id (nn : Int); omega); exact ⟨y1, y2, y3, y4, y5, y6, y7, y8, y9⟩)⟩
        have hk := World.ownsRow.kept (((Ext.refl w5).alloc (.cells (ndCells (eachNd m at' nn) (.slice A5 L1 C5) (.int .u8 0) (.int .i64 0) (.string { data := #[] }) (.slice none 0 0)).toArray 46)).own HO5.out) hw' (by
          cases hb : (Value.slice A5 L1 C5).ownBlock with
          | none => exact .inl rfl
          | some b => exact .inr (fun e => by have h1 := HAf.out b hb; have h2 := (HOB.out b e.symm).2; omega))
        exact OwnN.row (ownN_of hk HL1.out rfl) (fun i hi => intRow_mem HR.out i (List.mem_of_mem_tail hi))))) (by simpa using hown9) hgr9 hat9)
      have E9 := Lib.hid ((HE.out.trans E4.out).grown hgr9 (fun k hk => (HOB.out k hk).1))
      change Kc (Act.put _ (some 45) _) _
      clear hown9 hgr9 hat9 hrow6 hmore6 hH6
      refine hKc.out _ _ ?_ (fun hHeld => ?_)
      · (try dsimp only)
        (first | exact HS.out _ (HE.out.trans ED.out) | exact HS.out _ (HE.out.trans E1.out) | exact HS.out _ (HE.out.trans E2.out) | exact HS.out _ (HE.out.trans E3.out) | exact HS.out _ (HE.out.trans E4.out) | exact HS.out _ E9.out)
      clear hKc Kc
      try simp only [Act.put, List.setIfInBounds_toArray, List.set_cons_zero, List.set_cons_succ]
      refine take_w 19 (some 7) (v := ?_) (by kernel_rfl) (by kernel_rfl) (by kernel_rfl) (by kernel_rfl) (by kernel_rfl) (fun _ _ _ h => h) (by rfl) ?_ (by assumption) ?_
      rotate_left
      · (intro w hSw; (try dsimp only at hSw); go_simp; try with_reducible rfl)
      try simp only [Act.put, List.setIfInBounds_toArray, List.set_cons_zero, List.set_cons_succ]
      refine wpAnyH_done (by kernel_rfl) ?_ _
      rw [show (List.range nn).map (eachNd m at') ++ [eachNd m at' nn] = (List.range (nn + 1)).map (eachNd m at') by rw [List.range_succ, List.map_append]; rfl] at HH9
      clear hsl HSI HSrc HCA HS HO5 HAf HRo HAB E2 E3 E4 ED
      go_wp2
      go_roundw
      case rel => exact ⟨nn + 1, _, _, _, by omega, by go_num, rfl, rfl, E9, HH9⟩
      case measure => simp [intOf]; omega
    · go_simp
      have E1 := Lib.hid (ED.out.trans ((Ext.refl wr.drew).alloc (.cells #[] 3)))
      have HRo1 := Lib.hid (World.ownsRow_lit wr.drew #[] 0 (base := wr.heap.size) (e := 3) (size := 1) (Nat.le_refl _) (by unfold maxLen; omega) rfl)
      try go_wp2_with fail
      refine hKc.out _ _ ?_ (fun hHeld => ?_)
      · (try dsimp only)
        (first | exact HS.out _ (HE.out.trans ED.out) | exact HS.out _ (HE.out.trans E1.out) | exact HS.out _ (HE.out.trans E2.out) | exact HS.out _ (HE.out.trans E3.out) | exact HS.out _ (HE.out.trans E4.out) | exact HS.out _ E9.out)
      clear hKc Kc
      try simp only [Act.put, List.setIfInBounds_toArray, List.set_cons_zero, List.set_cons_succ]
      refine ready_one 4 (by kernel_rfl) (by kernel_rfl) (by rfl) (fun Kc hKc => ?_)
      go_simp
      refine (HCA.out _ E1.out).mono ?_
      rintro e y1 ⟨rfl, hE4⟩
      have E2 := Lib.hid (E1.out.trans hE4)
      have HRo := Lib.hid (hE4.own HRo1.out)
      have HAB := Lib.hid (show wr.heap.size ≤ wr.heap.size from Nat.le_refl _)
      clear hE4
      try go_wp2_with fail
      refine hKc.out _ _ ?_ (fun hHeld => ?_)
      · (try dsimp only)
        (first | exact HS.out _ (HE.out.trans ED.out) | exact HS.out _ (HE.out.trans E1.out) | exact HS.out _ (HE.out.trans E2.out) | exact HS.out _ (HE.out.trans E3.out) | exact HS.out _ (HE.out.trans E4.out) | exact HS.out _ E9.out)
      clear hKc Kc
      try simp only [Act.put, List.setIfInBounds_toArray, List.set_cons_zero, List.set_cons_succ]
      refine ready_one 13 (by kernel_rfl) (by kernel_rfl) (by rfl) (fun Kc hKc => ?_)
      refine wp_appendS (.tmp 36) (.tmp 39) 41 (by rfl) elemint_F _ _ 0 [] (by rfl) HRo.out (.slice A1 L1 C1) L1 (m.after.tail.map (Value.int .i64)) (by rfl) (HSrc.out _ (HE.out.trans E2.out)) (by unfold maxLen; omega) (by omega) ?_ ?_
      · have := E2.out.size; have := HRo.out.lt _ rfl; omega
      intro A5 C5 w5 hown5 hgr5 hat5
      rw [Nat.zero_add, List.nil_append] at hown5
      have E3 := Lib.hid (E2.out.grown hgr5 (fun k hk => by have h1 := HAB.out; have h2 := (World.ownsRow.lt HRo.out k hk).1; omega))
      have HO5 := Lib.hid hown5
      have HAf : Hid (∀ b, (Value.slice A5 L1 C5).ownBlock = some b → wr.heap.size ≤ b) := Lib.hid (fun b hb => by have h1 := HAB.out; have h2 := (World.ownsRow.lt hown5 b hb).1; omega)
      try rw [Nat.zero_add]
      change Kc (Act.put _ (some 40) _) _
      clear hown5 hgr5 hat5
      refine hKc.out _ _ ?_ (fun hHeld => ?_)
      · (try dsimp only)
        (first | exact HS.out _ (HE.out.trans ED.out) | exact HS.out _ (HE.out.trans E1.out) | exact HS.out _ (HE.out.trans E2.out) | exact HS.out _ (HE.out.trans E3.out) | exact HS.out _ (HE.out.trans E4.out) | exact HS.out _ E9.out)
      clear hKc Kc
      try simp only [Act.put, List.setIfInBounds_toArray, List.set_cons_zero, List.set_cons_succ]
      refine take_w 16 (some 43) (v := ?_) (by kernel_rfl) (by kernel_rfl) (by kernel_rfl) (by kernel_rfl) (by kernel_rfl) (fun _ _ _ h => h) (by rfl) ?_ (by assumption) ?_
      rotate_left
      · (intro w hSw; (try dsimp only at hSw); go_simp; try with_reducible rfl)
      try simp only [Act.put, List.setIfInBounds_toArray, List.set_cons_zero, List.set_cons_succ]
      refine ready_one 17 (by kernel_rfl) (by kernel_rfl) (by rfl) (fun Kc hKc => ?_)
      go_simp
      have E4 := Lib.hid (E3.out.trans ((Ext.refl w5).alloc (.cells (ndCells (eachNd m at' nn) (.slice A5 L1 C5) (.int .u8 0) (.int .i64 0) (.string { data := #[] }) (.slice none 0 0)).toArray 46)))
      try go_wp2_with fail
      refine hKc.out _ _ ?_ (fun hHeld => ?_)
      · (try dsimp only)
        (first | exact HS.out _ (HE.out.trans ED.out) | exact HS.out _ (HE.out.trans E1.out) | exact HS.out _ (HE.out.trans E2.out) | exact HS.out _ (HE.out.trans E3.out) | exact HS.out _ (HE.out.trans E4.out) | exact HS.out _ E9.out)
      clear hKc Kc
      try simp only [Act.put, List.setIfInBounds_toArray, List.set_cons_zero, List.set_cons_succ]
      refine ready_one 18 (by kernel_rfl) (by kernel_rfl) (by rfl) (fun Kc hKc => ?_)
      have hH6 := HH.out.ext E4.out
      obtain ⟨xs6, hrow6, hmore6⟩ := hH6.rowOf
      rw [List.length_map, List.length_range] at hrow6 hmore6
      refine wp_appendS (.tmp 27) (.tmp 44) 40 (by rfl) elemnode_F W1.heap.size (.slice A nn C) nn xs6 (by rfl) hrow6 (.slice (some ⟨w5.heap.size, 0, none⟩) 1 1) 1 (ndCells (eachNd m at' nn) (.slice A5 L1 C5) (.int .u8 0) (.int .i64 0) (.string { data := #[] }) (.slice none 0 0)) (by rfl) (Src.ofSlice (P := Tryz.prog) _ Tryz.underlying40 ⟨w5.heap.size, 0, none⟩ 1 1 (ndCells (eachNd m at' nn) (.slice A5 L1 C5) (.int .u8 0) (.int .i64 0) (.string { data := #[] }) (.slice none 0 0)) rfl (fun p u hu => by have := rangeAt_new w5 (ndCells (eachNd m at' nn) (.slice A5 L1 C5) (.int .u8 0) (.int .i64 0) (.string { data := #[] }) (.slice none 0 0)) 46 p u hu; rw [Addr.add_lit]; exact this) (HN1.out A5 C5)) (by unfold maxLen; omega) (by omega) (HE.out.trans E4.out).size ?_
      intro A9 C9 w9 hown9 hgr9 hat9
      have HH9 := Lib.hid (hmore6 w9 (.slice A9 (nn + 1) C9) [eachNd m at' nn] [(ndCells (eachNd m at' nn) (.slice A5 L1 C5) (.int .u8 0) (.int .i64 0) (.string { data := #[] }) (.slice none 0 0))] rfl (farNd_one (farNd_of (fun w' hw' => by
        refine ⟨A5, L1, C5, .int .u8 0, .int .i64 0, .string { data := #[] }, .slice none 0 0, rfl, ?_, (num18_own (n := 0) (by unfold isI64; omega) w' 0).lies, (by obtain ⟨y1, y2, y3, y4, y5, y6, y7, y8, y9, -, -⟩ := eachNd_wf (k := nn) HWF.out HAT.out (by omega) (by have := eachS_le m.id (nn : Int); omega); exact ⟨y1, y2, y3, y4, y5, y6, y7, y8, y9⟩)⟩
        have hk := World.ownsRow.kept (((Ext.refl w5).alloc (.cells (ndCells (eachNd m at' nn) (.slice A5 L1 C5) (.int .u8 0) (.int .i64 0) (.string { data := #[] }) (.slice none 0 0)).toArray 46)).own HO5.out) hw' (by
          cases hb : (Value.slice A5 L1 C5).ownBlock with
          | none => exact .inl rfl
          | some b => exact .inr (fun e => by have h1 := HAf.out b hb; have h2 := (HOB.out b e.symm).2; omega))
        exact OwnN.row (ownN_of hk HL1.out rfl) (fun i hi => intRow_mem HR.out i (List.mem_of_mem_tail hi))))) (by simpa using hown9) hgr9 hat9)
      have E9 := Lib.hid ((HE.out.trans E4.out).grown hgr9 (fun k hk => (HOB.out k hk).1))
      change Kc (Act.put _ (some 45) _) _
      clear hown9 hgr9 hat9 hrow6 hmore6 hH6
      refine hKc.out _ _ ?_ (fun hHeld => ?_)
      · (try dsimp only)
        (first | exact HS.out _ (HE.out.trans ED.out) | exact HS.out _ (HE.out.trans E1.out) | exact HS.out _ (HE.out.trans E2.out) | exact HS.out _ (HE.out.trans E3.out) | exact HS.out _ (HE.out.trans E4.out) | exact HS.out _ E9.out)
      clear hKc Kc
      try simp only [Act.put, List.setIfInBounds_toArray, List.set_cons_zero, List.set_cons_succ]
      refine take_w 19 (some 7) (v := ?_) (by kernel_rfl) (by kernel_rfl) (by kernel_rfl) (by kernel_rfl) (by kernel_rfl) (fun _ _ _ h => h) (by rfl) ?_ (by assumption) ?_
      rotate_left
      · (intro w hSw; (try dsimp only at hSw); go_simp; try with_reducible rfl)
      try simp only [Act.put, List.setIfInBounds_toArray, List.set_cons_zero, List.set_cons_succ]
      refine wpAnyH_done (by kernel_rfl) ?_ _
      rw [show (List.range nn).map (eachNd m at') ++ [eachNd m at' nn] = (List.range (nn + 1)).map (eachNd m at') by rw [List.range_succ, List.map_append]; rfl] at HH9
      clear hsl HSI HSrc HCA HS HO5 HAf HRo HAB E2 E3 E4 ED
      go_wp2
      go_roundw
      case rel => exact ⟨nn + 1, _, _, _, by omega, by go_num, rfl, rfl, E9, HH9⟩
      case measure => simp [intOf]; omega
end Go.Proofs.YtpcgpcjleedilaaGreatDoor

open Go.RowKit Go.Shelf
namespace Go.Proofs.YtpcgpcjleedilaaGreatDoor
open Go Go.Proofs Fm

def lightT (t : Tr) : Bool := decide (fewT 20 t ≤ 600)
/-- Is a node light? -/
def lightNd (n : Nd) : Bool := decide (n.id.length ≤ 500) && (decide (n.name.length ≤ 100) && (decide (n.after.length ≤ 40) && lightT n.val))
def fewSn (s : Sn) : Bool := decide (s.nodes.length ≤ 60) && s.nodes.all lightNd
theorem fewSn_not {s : Sn} {j : Nat} (hj : j < s.nodes.length) (h : lightNd s.nodes[j] = false) : fewSn s = false := by
  cases e : fewSn s with
  | false => rfl
  | true =>
    unfold fewSn at e
    rw [Bool.and_eq_true, List.all_eq_true] at e
    rw [e.2 _ (List.getElem_mem hj)] at h
    cases h
theorem all_more {α : Type} {f : α → Bool} {l : List α} {j : Nat} (hj : j < l.length) (h : (l.take j).all f = true) (hx : f l[j] = true) : (l.take (j + 1)).all f = true := by
  rw [List.take_add_one, List.getElem?_eq_getElem hj, List.all_append, h]; simp [hx]
theorem info_ndL : (Tryz.prog.info? 46).map (·.size) = some 16 := by kernel_rfl
/-- A node's cells, whole and in parts. -/
theorem nd_op2 {w wr : World} {l : List Nd} {a : Option Addr} {n cap : Nat} (h : ndE.Row w l (.slice a n cap)) (hE : Ext w wr) (i : Nat) (hi : i < l.length) :
    ∃ (b off : Nat), a = some ⟨b, off, none⟩ ∧ b < w.heap.size ∧ ∃ C : List Value, C.length = 16 ∧ (∀ u, u ∈ C → u.oneCell' = true) ∧ (∀ j v, C[j]? = some v → wr.cell? ⟨b, off + i * 16 + j, none⟩ = some v) ∧ NdV w l[i] (.agg C.toArray) ∧
      ∃ (aa : Option Addr) (m c : Nat) (kk nn : Int) (ss : ByteArray) (va : Option Addr) (vm vc : Nat), C = ndCells l[i] (.slice aa m c) (.int .u8 kk) (.int .i64 nn) (.string ss) (.slice va vm vc) ∧ m = l[i].after.length ∧ Lies w l[i].val (.agg #[.int .u8 kk, .int .i64 nn, .string ss, .slice va vm vc]) := by
  obtain ⟨b, off, ha, hb, aa, m, c, k, N, s, d, h1, h2⟩ := nd_at h hE i hi
  obtain ⟨kk, nn, ss, va, vm, vc, rfl, rfl, rfl, rfl⟩ := h2.four
  refine ⟨b, off, ha, hb, _, rfl, ndCells_one, fun j v hv => by rw [Nat.add_assoc]; exact h1 j v hv, h2, aa, m, c, kk, nn, ss, va, vm, vc, rfl, ?_, ?_⟩
  · obtain ⟨a', m', c', k', N', s', l', e1, e2, -⟩ := h2
    simp only [ndCells] at e1
    injection e1 with e1
    injection e1 with e1
    simp only [List.cons.injEq, and_true, Value.slice.injEq] at e1
    obtain ⟨_, _, e3, _⟩ := e2.slice
    injection e3
    omega
  · obtain ⟨a', m', c', k', N', s', l', e1, -, e3, -⟩ := h2
    simp only [ndCells] at e1
    injection e1 with e1
    injection e1 with e1
    simp only [List.cons.injEq, and_true] at e1
    obtain ⟨-, -, -, -, -, -, -, -, -, -, -, -, rfl, rfl, rfl, rfl⟩ := e1
    exact e3

set_option maxRecDepth 100000 in
set_option maxHeartbeats 8000000 in
theorem few11_any (s : Sn) (w : World) (v : Value) (h : SnV w s v) :
    Calls Tryz.prog 28 #[v] w fun e w' => e = .returned (.bool (fewSn s)) ∧ Ext w w' := by
  obtain ⟨a, m, c, rfl, hr, -⟩ := h
  have hm : m = s.nodes.length := by obtain ⟨_, _, e, _⟩ := hr.slice; injection e
  have hml : m ≤ 9223372036854775807 := by rw [hm]; exact hr.length_le
  have b1 := BoxL.new w [.int .i64 s.cq, .int .i64 s.cd, .int .i64 s.cw, .int .i64 s.cr, .int .i64 s.cf, .int .i64 s.flows, .slice a m c, .int .i64 s.tok] 51
  have e1 := (Ext.refl w).alloc (.cells #[.int .i64 s.cq, .int .i64 s.cd, .int .i64 s.cw, .int .i64 s.cr, .int .i64 s.cf, .int .i64 s.flows, .slice a m c, .int .i64 s.tok] 51)
  have HR := Lib.hid (hr.ext e1)
  have HW := Lib.hid e1
  have HM := Lib.hid hm
  clear hr e1 hm
  go_enter Tryz.func28, Tryz.ntmps28
  go_upto_region 1 with (fail)
  generalize w.alloc (.cells #[.int .i64 s.cq, .int .i64 s.cd, .int .i64 s.cw, .int .i64 s.cr, .int .i64 s.cf, .int .i64 s.flows, .slice a m c, .int .i64 s.tok] 51) = W1 at *
  have ⟨p0, p1, p2, p3, p4, p5, p6, p7⟩ := b1.n8
  clear b1
  by_cases h60 : 60 < m
  case pos =>
    have HX := Lib.hid (show fewSn s = false by unfold fewSn; have := HM.out; simp; intro h; omega)
    have h60' : (60 : Int) < (m : Int) := by omega
    go_wp2
    go_ret
    exact ⟨by rw [HX.out]; rfl, HW.out⟩
  have h60' : ¬ (60 : Int) < (m : Int) := by omega
  go_wp2_with fail
  clear p0 p1 p2 p3 p4 p5 p6 p7
  go_loopw [12] (fun i wr => ∃ j : Nat, j ≤ m ∧ i = .int .i64 j ∧ Hid ((s.nodes.take j).all lightNd = true) ∧ Hid (Ext W1 wr)) (fun i _ => m - (intOf i).toNat)
  case atStart => exact ⟨0, by omega, rfl, Lib.hid (by simp), Lib.hid (Ext.refl _)⟩
  case round =>
    obtain ⟨j, hj, rfl, HA, HE⟩ := hrel
    by_cases hlt : j < m
    case neg =>
      have hjm : j = m := by omega
      have HX := Lib.hid (show fewSn s = true by
        have := HA.out
        rw [hjm, HM.out, List.take_length] at this
        unfold fewSn; rw [this]; have := HM.out; simp; omega)
      clear hjm HA
      go_wp2
      go_ret
      exact ⟨by rw [HX.out]; rfl, HW.out.trans HE.out⟩
    have hjn : j < s.nodes.length := by have := HM.out; omega
    obtain ⟨b, off, rfl, hb, C, hC, hC1, hRg, hs, aa, mm, cc, kk, nn, ss, va, vm, vc, hCe, hmm, hl⟩ := nd_op2 HR.out HE.out j hjn
    have HC := Lib.hid (show wr.rangeAt b (off + j * 16) C from hRg)
    have HC0 := Lib.hid hC
    have HC1 := Lib.hid hC1
    have HCe := Lib.hid hCe
    have HL := Lib.hid (hl.ext HE.out)
    have HCi : Hid ((Tryz.prog.info? 46).map (·.size) = some C.length) := Lib.hid (by rw [hC]; exact info_ndL)
    have hj0 : (0 : Int) ≤ (j : Int) := by omega
    have HMM := Lib.hid hmm
    have haf := (NdV.wf hs)
    have hil : s.nodes[j].id.length ≤ 9223372036854775807 := haf.1
    have hnl : s.nodes[j].name.length ≤ 9223372036854775807 := haf.2.1
    have hmml : mm ≤ 9223372036854775807 := by
      obtain ⟨a', m', c', k', N', s', l', e1, e2, -⟩ := hs
      rw [hmm]; exact e2.length_le
    clear hs hC hC1 hRg hb hCe hl hmm haf
    obtain ⟨n, hn⟩ : ∃ n, n = s.nodes[j] := ⟨_, rfl⟩
    rw [← hn] at HCe HL HMM hil hnl
    have HNn := Lib.hid hn
    have hs1 := str_size n.id
    have hs2 := str_size n.name
    clear hn
    go_upto_region 6 with (first | (refine wpList_load_mid rfl _ _ rfl _ _ rfl _ _ HC.out Tryz.underlying46 rfl HCi.out ?_) | (refine wpList_storeBox rfl _ _ _ rfl _ _ _ _ rfl rfl rfl rfl info_ndL rfl HC0.out HC1.out ?_))
    have hE1 := (Ext.refl wr).alloc (.cells C.toArray 46)
    have hX := BoxL.new wr C 46
    generalize wr.alloc (.cells C.toArray 46) = W2 at *
    have HE2 := Lib.hid (HE.out.trans hE1)
    have HL2 := Lib.hid (HL.out.ext hE1)
    rw [HCe.out] at hX
    unfold ndCells at hX
    have ⟨q0, q1, q2, q3, q4, q5, q6, q7, q8, q9, q10, q11, q12, q13, q14, q15⟩ := hX.n16
    clear hE1 hX
    have HX0 : Hid (lightNd n = false → fewSn s = false) := Lib.hid (fun h => fewSn_not hjn (by rw [← HNn.out]; exact h))
    by_cases hi5 : n.id.length ≤ 500
    case neg =>
      have HX := Lib.hid (HX0.out (by unfold lightNd; simp [hi5]))
      have hi5' : (500 : Int) < (n.id.length : Int) := by omega
      go_wp2
      go_ret
      exact ⟨by rw [HX.out]; rfl, HW.out.trans HE2.out⟩
    have hi5' : ¬ (500 : Int) < (n.id.length : Int) := by omega
    by_cases hn1 : n.name.length ≤ 100
    case neg =>
      have HX := Lib.hid (HX0.out (by unfold lightNd; simp [hn1]))
      have hn1' : (100 : Int) < (n.name.length : Int) := by omega
      go_wp2
      go_ret
      exact ⟨by rw [HX.out]; rfl, HW.out.trans HE2.out⟩
    have hn1' : ¬ (100 : Int) < (n.name.length : Int) := by omega
    by_cases ha4 : n.after.length ≤ 40
    case neg =>
      have HX := Lib.hid (HX0.out (by unfold lightNd; simp [ha4]))
      have ha4' : (40 : Int) < (mm : Int) := by have := HMM.out; omega
      go_wp2
      go_ret
      exact ⟨by rw [HX.out]; rfl, HW.out.trans HE2.out⟩
    have ha4' : ¬ (40 : Int) < (mm : Int) := by have := HMM.out; omega
    go_wp2_with fail
    refine (Few_any n.val W2 _ HL2.out).mono ?_
    rw [show decide (fewT 20 n.val ≤ 600) = lightT n.val from rfl]
    rintro e w3 ⟨rfl, hE3⟩
    have HE3 := Lib.hid (HE2.out.trans hE3)
    have HLn : Hid (lightNd n = lightT n.val) := Lib.hid (by unfold lightNd; simp [hi5, hn1, ha4])
    clear hE3 q0 q1 q2 q3 q4 q5 q6 q7 q8 q9 q10 q11 q12 q13 q14 q15 hi5 hn1 ha4
    cases hq : lightT n.val with
    | false =>
      have HX := Lib.hid (HX0.out (by rw [HLn.out, hq]))
      clear hq
      go_wp2
      go_ret
      exact ⟨by rw [HX.out]; rfl, HW.out.trans HE3.out⟩
    | true =>
      have HA2 := Lib.hid (all_more hjn HA.out (by rw [← HNn.out, HLn.out, hq]))
      clear hq HA
      go_wp2
      go_roundw
      case rel => exact ⟨j + 1, by omega, by go_num, HA2, HE3⟩
      case measure => simp [intOf]; omega
end Go.Proofs.YtpcgpcjleedilaaGreatDoor
