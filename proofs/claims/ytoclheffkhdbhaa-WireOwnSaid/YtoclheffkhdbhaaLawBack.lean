/- WireBack answers true at every input: the walk. -/
import Derived.Test.YtoclheffkhdbhaaLawTells
open Go.RowKit Go.Shelf
namespace Go.Proofs.Ytoclheffkhdbhaa
open Go Go.Proofs Fm

theorem takeT_text {s r : List UInt8} {top : Int} (hs : s.length ≤ 9223372036854775807) (ht : (s.length : Int) ≤ top) :
    takeT (textB s ++ r) top = some ((numB s.length).length, s.length) := by
  have h := takeN_num (n := (s.length : Int)) (by unfold isI64; omega) (s ++ r)
  have e : numB s.length ++ (s ++ r) = textB s ++ r := by unfold textB; rw [List.append_assoc]
  rw [e] at h
  rw [takeT_some h (by rw [← e]; simp only [List.length_append]; omega)]
  congr 1
theorem text_body (s r : List UInt8) : ((textB s ++ r).drop (numB s.length).length).take s.length = s := by
  unfold textB; rw [List.append_assoc, List.drop_left, List.take_left]
theorem text_rest (s r : List UInt8) : ((textB s ++ r).drop (numB s.length).length).drop s.length = r := by
  unfold textB; rw [List.append_assoc, List.drop_left, List.drop_left]
theorem textB_len (s : List UInt8) : (textB s).length = (numB s.length).length + s.length := by unfold textB; rw [List.length_append]
theorem takeT_short {s : List UInt8} {top : Int} (hs : s.length ≤ 9223372036854775807) {i : Nat} (hi : i < (textB s).length) : takeT ((textB s).take i) top = none := by
  have h64 : isI64 (s.length : Int) := by unfold isI64; omega
  rw [textB_len] at hi
  rcases Nat.lt_or_ge i (numB s.length).length with h | h
  · refine takeT_none ?_ top
    unfold textB
    rw [List.take_append_of_le_length (by omega)]
    exact takeN_short h64 h
  · have h1 := takeN_num h64 (s.take (i - (numB s.length).length))
    have e : (textB s).take i = numB s.length ++ s.take (i - (numB s.length).length) := by
      unfold textB; rw [List.take_append, List.take_of_length_le (by omega)]
    rw [e]
    refine takeT_bad h1 (.inr (.inr ?_))
    simp only [List.length_append, List.length_take]
    omega
theorem takeT_less {s : List UInt8} (hs : s.length ≤ 9223372036854775807) : takeT (textB s) ((s.length : Int) - 1) = none := by
  have h := takeN_num (n := (s.length : Int)) (by unfold isI64; omega) s
  exact takeT_bad h (.inr (.inl (by omega)))

theorem ownB_made (W : World) {base : Nat} (hb : base ≤ W.heap.size) : OwnB base (W.alloc (.cells #[] 5)) (.slice (some ⟨W.heap.size, 0, none⟩) 0 0) [] :=
  World.ownsRow_made W #[] 0 hb (by simp) rfl

theorem len_bytes' {w : World} {v : Value} {xs : List UInt8} (h : Bytes w v xs) {n : Int} (hn : (xs.length : Int) = n) (w' : World) : (Builtin.len_ #[22] 3 #[v]).run Try.prog w' = .ok (.int .i64 n) w' := by
  rw [← hn]; exact len_bytes h w'

set_option maxRecDepth 100000 in
set_option maxHeartbeats 4000000 in
theorem wireBack_any (n : Int) (s : List UInt8) (va vb : Value) (ah be : List UInt8) (hn : isI64 n) (hsl : s.length ≤ 9223372036854775807) (w : World) (ha : Bytes w va ah) (hb : Bytes w vb be) :
    Calls Try.prog 6 #[.int .i64 n, .string (str s), va, vb] w fun e w' => e = .returned (.bool true) ∧ Ext w w' := by
  have hla := len_bytes ha
  have hlb := len_bytes hb
  have hll := ha.length_le
  have hll2 := hb.length_le
  have hss := str_size s
  have HN := Lib.hid hn; clear hn
  have hlk : isI64 (s.length : Int) := by unfold isI64; omega
  have HK := Lib.hid hlk; clear hlk
  have hn1 := numB_le n
  have hn2 := numB_le (s.length : Int)
  by_cases hbig : s.length ≤ 300 ∧ ah.length ≤ 40 ∧ be.length ≤ 40
  · obtain ⟨hs, hal, hbl⟩ := hbig
    go_enter Try.func6, Try.ntmps6
    go_wp2_with fail
    refine (num_any va ah w ha (by omega) n HN.out).mono ?_
    rintro e w1 ⟨v1, rfl, r1⟩
    go_wp2_with fail
    refine (text_any va ah s _ (ha.ext r1.2) (by omega) (by omega)).mono ?_
    rintro e w2 ⟨v2, rfl, r2⟩
    have E2 := r1.2.trans r2.2
    have b1 := r1.bytes.ext r2.2
    have b2 := r2.bytes
    clear r1 r2
    have hl1 := len_bytes' b1 (n := (ah.length : Int) + (numB n).length) (by simp)
    have hl2 := len_bytes' b2 (n := (ah.length : Int) + (numB s.length).length + s.length) (by simp [textB_len]; omega)
    go_wp2_with fail
    refine (size_any n HN.out _).mono ?_
    rintro e w3 ⟨rfl, E3⟩
    go_wp2_with fail
    refine (size_any _ HK.out _).mono ?_
    rintro e w4 ⟨rfl, E4⟩
    have E24 := E3.trans E4
    have b1' := b1.ext E24
    have b2' := b2.ext E24
    have EE := E2.trans E24
    clear b1 b2 E2 E3 E4 E24
    have hs1 := slice_b b1' (ah.length : Int) (by omega) (by simp; omega)
    have hs2 := slice_b b2' (ah.length : Int) (by omega) (by simp; omega)
    rw [Int.toNat_natCast] at hs1 hs2
    have t1 := b1'.take (k := ah.length) (by simp)
    have t2 := b2'.take (k := ah.length) (by simp)
    rw [List.take_left] at t1 t2
    go_wp2_with fail
    refine (same_true t1 (ha.ext EE) rfl).mono ?_
    rintro e w5 ⟨rfl, rfl⟩
    go_wp2_with fail
    refine (same_true t2 (ha.ext EE) rfl).mono ?_
    rintro e w5 ⟨rfl, rfl⟩
    have hd1 := slice_bf b1' (ah.length : Int) (by omega) (by simp; omega)
    have hd2 := slice_bf b2' (ah.length : Int) (by omega) (by simp; omega)
    rw [Int.toNat_natCast] at hd1 hd2
    have c1 := b1'.drop (k := ah.length) (by simp)
    have c2 := b2'.drop (k := ah.length) (by simp)
    rw [List.drop_left] at c1 c2
    clear t1 t2 hs1 hs2 hl1 hl2 b1' b2'
    go_wp2_with fail
    go_quiet (fail)
    obtain ⟨W0, hW0⟩ : ∃ W0, W0 = w4.drewN nq := ⟨_, rfl⟩
    rw [← hW0]
    have E0 : Ext w W0 := by rw [hW0]; exact EE.drewN nq
    have e1 : Bytes W0 (dropV v1 ah.length) (numB n) := by rw [hW0]; exact c1.ext ((Ext.refl w4).drewN nq)
    have e2 : Bytes W0 (dropV v2 ah.length) (textB s) := by rw [hW0]; exact c2.ext ((Ext.refl w4).drewN nq)
    clear hW0 c1 c2 EE hd1 hd2
    generalize dropV v1 ah.length = a1 at *
    generalize dropV v2 ah.length = a2 at *
    go_wp2_with (at_builtin; refine appB rfl _ _ rfl rfl (ownB_made W0 (Nat.le_refl _)) rfl (e1.ext ((Ext.refl W0).alloc _)) ?b1 ?b2 ?_)
    case b1 => first | omega | (simp; done) | (simp; omega)
    case b2 => first | omega | (simp; done) | (simp; omega)
    intro v5 w5 o5 _ B5
    have E5 := ((Ext.refl W0).alloc (.cells #[] 5)).then B5
    go_wp2_with (at_builtin; refine appB rfl _ _ rfl rfl o5 rfl (hb.ext (E0.trans E5)) ?b1 E5.size ?_)
    case b1 => first | omega | (simp; done) | (simp; omega)
    intro v6 w6 o6 _ B6
    have E6 := E5.then B6
    have b6 := o6.bytes
    try rw [List.nil_append] at b6
    have k6 := takeN_num HN.out be
    go_wp2_with fail
    refine (takeNum_any _ (numB n ++ be) _ b6).mono ?_
    intro e w7 hp
    unfold TakeNumPost at hp
    rw [k6] at hp
    obtain ⟨nq7, rfl, hw7⟩ := hp
    have E7 : Ext w6 w7 := by rw [hw7]; exact (Ext.refl w6).drewN nq7
    have r7 := (b6.drop (k := (numB n).length) (by simp)).ext E7
    rw [List.drop_left] at r7
    have E8 := E6.trans E7
    clear hw7 k6 o5 o6 B5 B6 E5 E6
    go_wp2_with (at_builtin; refine appB rfl _ _ rfl rfl (ownB_made w7 (Nat.le_refl _)) rfl (e2.ext (E8.alloc _)) ?b1 ?b2 ?_)
    case b1 => first | omega | (simp [textB_len]; done) | (simp [textB_len]; omega)
    case b2 => first | omega | (simp; done) | (simp; omega)
    intro v9 w9 o9 _ B9
    have E9 := ((Ext.refl w7).alloc (.cells #[] 5)).then B9
    go_wp2_with (at_builtin; refine appB rfl _ _ rfl rfl o9 rfl (hb.ext ((E0.trans E8).trans E9)) ?b1 E9.size ?_)
    case b1 => first | omega | (simp [textB_len]; done) | (simp [textB_len]; omega)
    intro v10 w10 o10 _ B10
    have E10 := E9.then B10
    have b10 := o10.bytes
    try rw [List.nil_append] at b10
    have k10 := takeT_text (s := s) (r := be) (top := (s.length : Int)) (by omega) (by omega)
    clear o9 o10 B9 B10 E9
    go_wp2_with fail
    refine (takeText_any _ (textB s ++ be) _ HK.out _ b10).mono ?_
    intro e w11 hp
    unfold TakeTextPost at hp
    rw [k10] at hp
    obtain ⟨nq11, hp, hw11⟩ := hp
    rw [text_body] at hp
    subst hp
    have E11 : Ext w10 w11 := by rw [hw11]; exact (Ext.refl w10).drewN nq11
    have r11 := ((b10.drop (k := (numB s.length).length) (by simp [textB_len]; omega)).drop (k := s.length) (by simp [textB_len]; omega)).ext E11
    rw [text_rest] at r11
    have E12 := E10.trans E11
    have r7' := r7.ext E12
    have hb' := hb.ext ((E0.trans E8).trans E12)
    clear hw11 k10 r7
    go_wp2_with fail
    refine (same_true r7' hb' rfl).mono ?_
    rintro e w12 ⟨rfl, rfl⟩
    go_wp2_with fail
    refine (same_true r11 hb' rfl).mono ?_
    rintro e w12 ⟨rfl, rfl⟩
    have E13 := E8.trans E12
    have f1 := e1.ext E13
    have f2 := e2.ext E13
    have G := E0.trans E13
    clear r7' hb' r11 e1 e2 E8 E10 E11 E12 E13 E0 E7
    have hl1 := len_bytes f1
    have hl2 := len_bytes' f2 (n := ((textB s).length : Int)) rfl
    go_wp2_with fail
    clear hla hlb
    go_loopw [160] (fun i wr => ∃ k : Nat, k ≤ (numB n).length ∧ i = .int .i64 k ∧ Ext w11 wr) (fun i _ => (numB n).length - (intOf i).toNat)
    case atStart => exact ⟨0, by omega, rfl, Ext.refl _⟩
    case round =>
      obtain ⟨k, hk, rfl, hE⟩ := hrel
      by_cases hlt : k < (numB n).length
      · have hsk := slice_b f1 (k : Int) (by omega) (by omega)
        rw [Int.toNat_natCast] at hsk
        have tk := (f1.take (k := k) (by omega)).ext hE
        have hno := takeN_short HN.out hlt
        clear f1 f2 hl1 hl2
        go_wp2_with fail
        refine (takeNum_any _ _ _ tk).mono ?_
        intro e w12 hp
        unfold TakeNumPost at hp
        rw [hno] at hp
        obtain ⟨rfl, rfl⟩ := hp
        clear hno tk hsk
        go_wp2
        go_roundw
        case rel => exact ⟨k + 1, by omega, by go_num, hE⟩
        case measure => simp [intOf]; omega
      · obtain ⟨wo, rfl⟩ : ∃ wo : World, wo = wr := ⟨_, rfl⟩
        have G2 := G.trans hE
        have g2 := f2.ext hE
        clear f1 f2 G hE
        go_wp2_with fail
        clear hl1
        go_loopw [176] (fun i wr => ∃ k : Nat, k ≤ (textB s).length ∧ i = .int .i64 k ∧ Ext wo wr) (fun i _ => (textB s).length - (intOf i).toNat)
        case atStart => exact ⟨0, by omega, rfl, Ext.refl _⟩
        case round =>
          clear hlt hk
          obtain ⟨k, hk, rfl, hE⟩ := hrel
          by_cases hlt : k < (textB s).length
          · have htl := textB_len s
            have HTL := Lib.hid htl; clear htl
            have hsk := slice_b g2 (k : Int) (by omega) (by omega)
            rw [Int.toNat_natCast] at hsk
            have tk := (g2.take (k := k) (by omega)).ext hE
            have hno := takeT_short (top := 1000) (show s.length ≤ 9223372036854775807 by omega) hlt
            have HNO := Lib.hid hno; clear hno
            have hkb : (k : Int) ≤ 1000 := by have := HTL.out; omega
            clear g2 hl2
            go_wp2_with fail
            refine (takeText_any _ _ 1000 (by unfold isI64; omega) _ tk).mono ?_
            intro e w12 hp
            unfold TakeTextPost at hp
            rw [HNO.out] at hp
            obtain ⟨nq12, rfl, hw12⟩ := hp
            have hE2 : Ext wo w12 := by rw [hw12]; exact hE.drewN nq12
            clear tk hsk hw12
            go_wp2
            go_roundw
            case rel => exact ⟨k + 1, by omega, by go_num, hE2⟩
            case measure => simp [intOf]; omega
          · have G3 := G2.trans hE
            have g3 := g2.ext hE
            have hno := takeT_less (show s.length ≤ 9223372036854775807 by omega)
            have HNO := Lib.hid hno; clear hno
            have hm1 : isI64 ((s.length : Int) - 1) := by unfold isI64; omega
            have HM1 := Lib.hid hm1; clear hm1
            clear g2 G2 hE
            go_wp2_with fail
            refine (takeText_any _ _ _ HM1.out _ g3).mono ?_
            intro e w13 hp
            unfold TakeTextPost at hp
            rw [HNO.out] at hp
            obtain ⟨nq13, rfl, hw13⟩ := hp
            have G4 : Ext w w13 := by rw [hw13]; exact G3.drewN nq13
            clear hw13 g3
            go_wp2_with fail
            refine (awake07 _).mono ?_
            rintro e w14 ⟨rfl, E14⟩
            go_wp2
            go_ret
            exact ⟨rfl, G4.trans E14⟩
  · go_enter Try.func6, Try.ntmps6
    go_wp2_with fail
    all_goals
      refine (awake07 w).mono ?_
      rintro e w1 ⟨rfl, hE⟩
      go_wp2
      go_ret
      exact ⟨rfl, hE⟩
end Go.Proofs.Ytoclheffkhdbhaa
