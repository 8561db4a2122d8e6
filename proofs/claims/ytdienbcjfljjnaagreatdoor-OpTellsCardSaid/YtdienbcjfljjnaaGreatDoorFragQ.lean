/- Walks: the reference's Bytes. -/
import Derived.Test.YtdienbcjfljjnaaGreatDoorFragP
import Derived.Test.YtdienbcjfljjnaaGreatDoorRefC
import Derived.Test.YtdienbcjfljjnaaGreatDoorShowA
open Go.RowKit Go.Shelf
namespace Go.Proofs.YtdienbcjfljjnaaGreatDoor
open Go Go.Proofs Fm

/-- append onto bytes of one's own beside a box. -/
theorem appN {w : World} {ops : Array Oper} {rest : List Oper} {o : Oper} {a : Act} {Q : Exit → Act → World → Prop}
    (hg : Region.wanted o (yielded ops a.tmps) = true) (s x : Operand) (hop : o.op = Op.call { callee := Callee.builtin Builtin.append, args := #[s, x], argTypes := #[27, 27] }) {base : Nat}
    {v : Value} {xs : List UInt8} (hs : a.eval s = v) (hown : OwnB base w v xs) {X : Value} {ys : List UInt8} (hx : a.eval x = X) (hsrc : Bytes w X ys)
    (b1 : xs.length + ys.length ≤ 70368744177664) (b3 : base ≤ w.heap.size) {B : Nat} {vs : List Value} (hB : BoxL w B vs) (hne : v.ownBlock ≠ some B)
    (hK : ∀ v' w', OwnB base w' v' (xs ++ ys) → v'.ownBlock ≠ some B → BoxL w' B vs → Below base w w' → wpList Tryz.prog ops Q rest (a.put o.dst v') w') :
    wpList Tryz.prog ops Q (o :: rest) a w := by
  refine appBt hg s x hop hs hown hx hsrc b1 b3 (fun v' w' h1 h2 h3 => hK v' w' h1 ?_ (hB.kept h2 hne) ((Below.refl base w).grown h2 b3 (Fm.own_lt hown)))
  rcases h3 with h | h
  · rw [h]; exact hne
  · rw [h]; intro e; injection e with e; have := hB.lt; omega

set_option maxRecDepth 100000 in
set_option maxHeartbeats 8000000 in
theorem rfbytes_any (l : List It) (w : World) (v : Value) (hv : itE.Row w l v) (hsz : (fragBy l).length ≤ 1000000000) :
    Calls Tryz.prog 70 #[v] w (RetBytes w (fragBy l)) := by
  obtain ⟨a, cap, rfl, h1, h2⟩ := hv.slice
  have HR := Lib.hid hv
  have hll : l.length ≤ 9223372036854775807 := by omega
  have HLN := Lib.hid (i64_nat l.length hll)
  have hsz2 : (numB l.length).length + (itsBy l).length ≤ 1000000000 := by unfold fragBy at hsz; rw [List.length_append] at hsz; omega
  clear hv h1 h2 hsz
  go_enter Tryz.func70, Tryz.ntmps70
  go_wp2_with fail
  refine (rnum_any (l.length : Int) HLN.out w).mono ?_
  rintro e w1 ⟨v1, rfl, r1⟩
  have hE1 := r1.2
  have HO1 := Lib.hid r1.own
  clear r1
  go_wp2_with fail
  go_loopw [3, 4] (fun o i wr => ∃ j : Nat, j ≤ l.length ∧ i = .int .i64 j ∧ Hid (OwnB w.heap.size wr o (numB l.length ++ itsBy (l.take j))) ∧ Ext w wr) (fun _ i _ => l.length - (intOf i).toNat)
  case atStart => exact ⟨0, by omega, rfl, Lib.hid (by have := HO1.out; simpa [itsBy] using this), hE1⟩
  case round =>
    clear HO1 hE1
    obtain ⟨j, hj, rfl, HO, hE⟩ := hrel
    by_cases hlt : j < l.length
    case neg =>
      have hj' : j = l.length := by omega
      have hR : ∃ vr, vr = u3 ∧ RetBytes w (fragBy l) (.returned vr) wr := ⟨u3, rfl, u3, rfl, by
          have h := HO.out
          rw [hj', List.take_length] at h
          exact ⟨h, hE⟩⟩
      obtain ⟨vr, rfl, hR⟩ := hR
      clear HO hj'
      go_wp2
      go_ret
      exact hR
    obtain ⟨wo, rfl⟩ : ∃ wo : World, wo = wr := ⟨_, rfl⟩
    obtain ⟨bb, off, rfl, hbb, aa, m, cc, c0, c1, c2, c3, c4, c5, hs⟩ := it_at HR.out hE j hlt
    have hat := its_at l j hlt
    have hle := its_le l (j + 1)
    have hat2 := congrArg List.length hat
    rw [List.length_append] at hat2
    obtain ⟨x, hx⟩ : ∃ x, x = l[j] := ⟨_, rfl⟩
    rw [← hx] at c0 c1 c3 c4 c5 hs hat hat2
    have HS := Lib.hid hs
    have hml : m ≤ 9223372036854775807 := by have := HS.out.row.length_le; rw [← HS.out.len] at this; exact this
    have HM := Lib.hid HS.out.len
    have HAT := Lib.hid hat
    have hK0 : (0 : Int) ≤ (x.kind.toNat : Int) := by omega
    have hK1 : (x.kind.toNat : Int) ≤ 255 := by have := x.kind.toNat_lt; omega
    have ek : ((x.kind.toNat : Int) == 1) = decide (x.kind = 1) := by rw [show (1 : Int) = ((1 : UInt8).toNat : Int) from rfl, u8_eq]
    obtain ⟨P, hP⟩ : ∃ P, P = numB l.length ++ itsBy (l.take j) := ⟨_, rfl⟩
    have HP := Lib.hid hP
    have hPl : P.length + (itBy x).length ≤ 1000000000 := by rw [hP]; simp only [List.length_append]; omega
    rw [← hP] at HO
    have hib : itBy x = textB x.name ++ (numB x.kind.toNat ++ (numB x.after.length ++ (namesBy x.after ++ (numB x.quota ++ (if x.kind = 1 then textB x.over ++ numB x.width else []))))) := rfl
    have hil := congrArg List.length hib
    simp only [List.length_append] at hil
    rw [← HM.out] at hib hil
    clear hs hx hbb hat hat2 hle hP
    obtain ⟨K, hK⟩ : ∃ K : Int, K = (x.kind.toNat : Int) := ⟨_, rfl⟩
    rw [← hK] at c1 hK0 hK1 ek hib hil HS
    have HIB := Lib.hid hib
    have HKi : Hid (isI64 K) := Lib.hid (by unfold isI64; omega)
    have HQi : Hid (isI64 x.quota) := Lib.hid (by obtain ⟨_, _, _, _, _, _, _, _, h⟩ := HS.out; exact h)
    have HWi : Hid (isI64 x.width) := Lib.hid (by obtain ⟨_, _, _, _, _, _, _, h, _⟩ := HS.out; exact h)
    have HMi := Lib.hid (i64_nat m hml)
    clear hib hK
    have HRx := Lib.hid HS.out.row
    have HNE : Hid (u3.ownBlock ≠ some wo.heap.size) := Lib.hid (fun e => by have := (World.ownsRow.lt HO.out _ e).2; omega)
    have HE01 := Lib.hid ((Ext.refl wo).alloc (.cells #[.string (str x.name), .int .u8 K, .slice aa m cc, .string (str x.over), .int .i64 x.width, .int .i64 x.quota] 138))
    have HEW := Lib.hid (hE.trans HE01.out)
    have HB1 : Hid (BoxL (wo.alloc (.cells #[.string (str x.name), .int .u8 K, .slice aa m cc, .string (str x.over), .int .i64 x.width, .int .i64 x.quota] 138)) wo.heap.size [.string (str x.name), .int .u8 K, .slice aa m cc, .string (str x.over), .int .i64 x.width, .int .i64 x.quota]) := Lib.hid (BoxL.new wo _ _)
    have HOx := Lib.hid (HO.out.ext HE01.out)
    clear hE HO
    have hwz : wo.heap.size < (wo.alloc (.cells #[.string (str x.name), .int .u8 K, .slice aa m cc, .string (str x.over), .int .i64 x.width, .int .i64 x.quota] 138)).heap.size := by simp
    go_wp2_with fail
    refine (rtext_any x.name (by have := textB_ge x.name; omega) _).mono ?_
    rintro e y1 ⟨v1, rfl, r1⟩
    have o1 := HOx.out.ext r1.2
    have b1 := r1.bytes
    have e1 := HEW.out.trans r1.2
    have x1 := HB1.out.ext r1.2
    clear r1
    go_wp2_with (at_builtin; refine appN rfl _ _ rfl rfl o1 rfl b1 (by (try simp only [List.length_append]); omega) e1.size x1 HNE.out ?_)
    intro vv1 z1 oo1 nn1 xx1 bb1
    have O1 : Hid (OwnB w.heap.size z1 vv1 (P ++ textB x.name)) := Lib.hid (by simpa only [List.append_assoc] using oo1)
    have E1 := Lib.hid (e1.then bb1)
    have N1 := Lib.hid nn1
    have B1 := Lib.hid xx1
    clear o1 b1 e1 x1 oo1 nn1 xx1 bb1
    obtain ⟨p0, p1, p2, p3, p4, p5⟩ := B1.out.six
    clear HOx HB1 HNE HEW
    go_wp2_with fail
    clear p0 p1 p2 p3 p4 p5
    refine (rnum_any K HKi.out _).mono ?_
    rintro e y2 ⟨v2, rfl, r2⟩
    have o2 := O1.out.ext r2.2
    have b2 := r2.bytes
    have e2 := E1.out.trans r2.2
    have x2 := B1.out.ext r2.2
    clear r2
    go_wp2_with (at_builtin; refine appN rfl _ _ rfl rfl o2 rfl b2 (by (try simp only [List.length_append]); omega) e2.size x2 N1.out ?_)
    intro vv2 z2 oo2 nn2 xx2 bb2
    have O2 : Hid (OwnB w.heap.size z2 vv2 ((P ++ textB x.name) ++ numB K)) := Lib.hid (by simpa only [List.append_assoc] using oo2)
    have E2 := Lib.hid (e2.then bb2)
    have N2 := Lib.hid nn2
    have B2 := Lib.hid xx2
    clear o2 b2 e2 x2 oo2 nn2 xx2 bb2
    obtain ⟨p0, p1, p2, p3, p4, p5⟩ := B2.out.six
    go_wp2_with fail
    clear p0 p1 p2 p3 p4 p5
    refine (rnum_any (m : Int) HMi.out _).mono ?_
    rintro e y3 ⟨v3, rfl, r3⟩
    have o3 := O2.out.ext r3.2
    have b3 := r3.bytes
    have e3 := E2.out.trans r3.2
    have x3 := B2.out.ext r3.2
    clear r3
    go_wp2_with (at_builtin; refine appN rfl _ _ rfl rfl o3 rfl b3 (by (try simp only [List.length_append]); omega) e3.size x3 N2.out ?_)
    intro vv3 z3 oo3 nn3 xx3 bb3
    have O3 : Hid (OwnB w.heap.size z3 vv3 (((P ++ textB x.name) ++ numB K) ++ numB (m : Int))) := Lib.hid (by simpa only [List.append_assoc] using oo3)
    have E3 := Lib.hid (e3.then bb3)
    have N3 := Lib.hid nn3
    have B3 := Lib.hid xx3
    clear o3 b3 e3 x3 oo3 nn3 xx3 bb3
    obtain ⟨p0, p1, p2, p3, p4, p5⟩ := B3.out.six
    go_wp2_with fail
    clear p0 p1 p2 p3 p4 p5
    go_loopw [3, 6] (fun o i wr => ∃ k : Nat, k ≤ m ∧ i = .int .i64 k ∧ Hid (OwnB w.heap.size wr o ((((P ++ textB x.name) ++ numB K) ++ numB (m : Int)) ++ namesBy (x.after.take k))) ∧ Hid (Ext w wr) ∧ Hid (BoxL wr wo.heap.size [.string (str x.name), .int .u8 K, .slice aa m cc, .string (str x.over), .int .i64 x.width, .int .i64 x.quota]) ∧ Hid (o.ownBlock ≠ some wo.heap.size)) (fun _ i _ => m - (intOf i).toNat)
    case atStart => exact ⟨0, by omega, rfl, Lib.hid (by have := O3.out; simpa [namesBy] using this), E3, B3, N3⟩
    case round =>
      clear O3 E3 B3 N3
      obtain ⟨k, hk, rfl, O4, E4, B4, N4⟩ := hrel
      obtain ⟨p0, p1, p2, p3, p4, p5⟩ := B4.out.six
      by_cases hkm : k < m
      · have hkx : k < x.after.length := by have := HM.out; omega
        obtain ⟨sb, so, rfl, hsb, hsc, hsl⟩ := str_at HRx.out E4.out k hkx
        have hna := names_at x.after k hkx
        have hnl := names_le x.after (k + 1)
        have hna2 := congrArg List.length hna
        rw [List.length_append] at hna2
        have HNA := Lib.hid hna
        clear hna
        go_wp2_with fail
        clear p0 p1 p2 p3 p4 p5
        refine (rtext_any x.after[k] (by have := textB_ge x.after[k]; omega) _).mono ?_
        rintro e y4 ⟨v4, rfl, r4⟩
        have o4 := O4.out.ext r4.2
        have b4 := r4.bytes
        have e4 := E4.out.trans r4.2
        have x4 := B4.out.ext r4.2
        clear r4
        go_wp2_with (at_builtin; refine appN rfl _ _ rfl rfl o4 rfl b4 (by (try simp only [List.length_append]); omega) e4.size x4 N4.out ?_)
        intro vv4 z4 oo4 nn4 xx4 bb4
        have O4 : Hid (OwnB w.heap.size z4 vv4 (((((P ++ textB x.name) ++ numB K) ++ numB (m : Int)) ++ namesBy (x.after.take k)) ++ textB x.after[k])) := Lib.hid (by simpa only [List.append_assoc] using oo4)
        have E4 := Lib.hid (e4.then bb4)
        have N4 := Lib.hid nn4
        have B4 := Lib.hid xx4
        clear o4 b4 e4 x4 oo4 nn4 xx4 bb4
        obtain ⟨p0, p1, p2, p3, p4, p5⟩ := B4.out.six
        have O5 : Hid (OwnB w.heap.size z4 vv4 ((((P ++ textB x.name) ++ numB K) ++ numB (m : Int)) ++ namesBy (x.after.take (k + 1)))) := Lib.hid (by
          rw [HNA.out, ← List.append_assoc]
          exact O4.out)
        clear hsc hna2 hnl p0 p1 p2 p3 p4 p5
        go_wp2
        go_roundw
        case rel => exact ⟨k + 1, by omega, by go_num, O5, E4, B4, N4⟩
        case measure => simp [intOf]; omega
      · have hkk : k = m := by omega
        have O5 : Hid (OwnB w.heap.size wr u3 ((((P ++ textB x.name) ++ numB K) ++ numB (m : Int)) ++ namesBy x.after)) := Lib.hid (by
          have := O4.out
          rwa [hkk, show m = x.after.length from HM.out, List.take_length, show x.after.length = m from HM.out.symm] at this)
        clear hkk O4
        go_wp2_with fail
        clear p0 p1 p2 p3 p4 p5
        refine (rnum_any x.quota HQi.out _).mono ?_
        rintro e y5 ⟨v5, rfl, r5⟩
        have o5 := O5.out.ext r5.2
        have b5 := r5.bytes
        have e5 := E4.out.trans r5.2
        have x5 := B4.out.ext r5.2
        clear r5
        go_wp2_with (at_builtin; refine appN rfl _ _ rfl rfl o5 rfl b5 (by (try simp only [List.length_append]); omega) e5.size x5 N4.out ?_)
        intro vv5 z5 oo5 nn5 xx5 bb5
        have O5 : Hid (OwnB w.heap.size z5 vv5 (((((P ++ textB x.name) ++ numB K) ++ numB (m : Int)) ++ namesBy x.after) ++ numB x.quota)) := Lib.hid (by simpa only [List.append_assoc] using oo5)
        have E5 := Lib.hid (e5.then bb5)
        have N5 := Lib.hid nn5
        have B5 := Lib.hid xx5
        clear o5 b5 e5 x5 oo5 nn5 xx5 bb5
        obtain ⟨p0, p1, p2, p3, p4, p5⟩ := B5.out.six
        by_cases hk1 : x.kind = 1
        case neg =>
          have f1 : (K == 1) = false := by rw [ek]; simpa using hk1
          have HO2 : Hid (OwnB w.heap.size z5 vv5 (numB l.length ++ itsBy (l.take (j + 1)))) := Lib.hid (by
            rw [HAT.out, ← List.append_assoc, ← HP.out, HIB.out, if_neg hk1, List.append_nil]
            have := O5.out
            simp only [List.append_assoc] at this
            exact this)
          clear ek hk1 hil
          go_wp2
          go_roundw
          case rel => exact ⟨j + 1, by omega, by go_num, HO2, E5.out⟩
          case measure => simp [intOf]; omega
        have f1 : (K == 1) = true := by rw [ek]; simpa using hk1
        rw [if_pos hk1, List.length_append] at hil
        have HIB2 := Lib.hid (HIB.out.trans (by rw [if_pos hk1]))
        clear ek hk1
        go_wp2_with fail
        clear p0 p1 p2 p3 p4 p5
        refine (rtext_any x.over (by have := textB_ge x.over; omega) _).mono ?_
        rintro e y6 ⟨v6, rfl, r6⟩
        have o6 := O5.out.ext r6.2
        have b6 := r6.bytes
        have e6 := E5.out.trans r6.2
        have x6 := B5.out.ext r6.2
        clear r6
        go_wp2_with (at_builtin; refine appN rfl _ _ rfl rfl o6 rfl b6 (by (try simp only [List.length_append]); omega) e6.size x6 N5.out ?_)
        intro vv6 z6 oo6 nn6 xx6 bb6
        have O6 : Hid (OwnB w.heap.size z6 vv6 ((((((P ++ textB x.name) ++ numB K) ++ numB (m : Int)) ++ namesBy x.after) ++ numB x.quota) ++ textB x.over)) := Lib.hid (by simpa only [List.append_assoc] using oo6)
        have E6 := Lib.hid (e6.then bb6)
        have N6 := Lib.hid nn6
        have B6 := Lib.hid xx6
        clear o6 b6 e6 x6 oo6 nn6 xx6 bb6
        obtain ⟨p0, p1, p2, p3, p4, p5⟩ := B6.out.six
        go_wp2_with fail
        clear p0 p1 p2 p3 p4 p5
        refine (rnum_any x.width HWi.out _).mono ?_
        rintro e y7 ⟨v7, rfl, r7⟩
        have o7 := O6.out.ext r7.2
        have b7 := r7.bytes
        have e7 := E6.out.trans r7.2
        have x7 := B6.out.ext r7.2
        clear r7
        go_wp2_with (at_builtin; refine appN rfl _ _ rfl rfl o7 rfl b7 (by (try simp only [List.length_append]); omega) e7.size x7 N6.out ?_)
        intro vv7 z7 oo7 nn7 xx7 bb7
        have O7 : Hid (OwnB w.heap.size z7 vv7 (((((((P ++ textB x.name) ++ numB K) ++ numB (m : Int)) ++ namesBy x.after) ++ numB x.quota) ++ textB x.over) ++ numB x.width)) := Lib.hid (by simpa only [List.append_assoc] using oo7)
        have E7 := Lib.hid (e7.then bb7)
        have N7 := Lib.hid nn7
        have B7 := Lib.hid xx7
        clear o7 b7 e7 x7 oo7 nn7 xx7 bb7
        obtain ⟨p0, p1, p2, p3, p4, p5⟩ := B7.out.six
        have HO2 : Hid (OwnB w.heap.size z7 vv7 (numB l.length ++ itsBy (l.take (j + 1)))) := Lib.hid (by
          rw [HAT.out, ← List.append_assoc, ← HP.out, HIB2.out]
          have := O7.out
          simp only [List.append_assoc] at this ⊢
          exact this)
        clear hil f1 p0 p1 p2 p3 p4 p5
        go_wp2
        go_roundw
        case rel => exact ⟨j + 1, by omega, by go_num, HO2, E7.out⟩
        case measure => simp [intOf]; omega
end Go.Proofs.YtdienbcjfljjnaaGreatDoor
