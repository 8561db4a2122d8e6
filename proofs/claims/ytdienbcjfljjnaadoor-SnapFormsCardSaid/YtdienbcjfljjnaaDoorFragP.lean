/- Walks: frag.Put, frag.Bytes. -/
import Derived.Test.YtdienbcjfljjnaaDoorFrgA
import Derived.Test.YtdienbcjfljjnaaDoorVaA
import Derived.Test.YtdienbcjfljjnaaDoorTake
open Go.RowKit Go.Shelf
namespace Go.Proofs.YtdienbcjfljjnaaDoor
open Go Go.Proofs Fm

theorem textB_ge (s : List UInt8) : s.length ≤ (textB s).length := by unfold textB; rw [List.length_append]; omega
theorem names_at (l : List (List UInt8)) (i : Nat) (hi : i < l.length) : namesBy (l.take (i + 1)) = namesBy (l.take i) ++ textB l[i] := flat_at textB l i hi
theorem names_le (l : List (List UInt8)) (i : Nat) : (namesBy (l.take i)).length ≤ (namesBy l).length := flat_take_le textB l i
theorem its_at (l : List It) (i : Nat) (hi : i < l.length) : itsBy (l.take (i + 1)) = itsBy (l.take i) ++ itBy l[i] := flat_at itBy l i hi
theorem its_le (l : List It) (i : Nat) : (itsBy (l.take i)).length ≤ (itsBy l).length := flat_take_le itBy l i

set_option maxRecDepth 100000 in
set_option maxHeartbeats 8000000 in
theorem fput_any (l : List It) (w : World) (b v : Value) (xs : List UInt8) (hb : Bytes w b xs) (hv : itE.Row w l v) (hsz : xs.length + (fragBy l).length ≤ 1000000000) :
    Calls Tryd.prog 54 #[b, v] w (RetBytes w (xs ++ fragBy l)) := by
  obtain ⟨a, cap, rfl, h1, h2⟩ := hv.slice
  have HR := Lib.hid hv
  have hll : l.length ≤ 9223372036854775807 := by omega
  have HLN := Lib.hid (i64_nat l.length hll)
  have hsz2 : xs.length + (numB l.length).length + (itsBy l).length ≤ 1000000000 := by unfold fragBy at hsz; rw [List.length_append] at hsz; omega
  have HB := Lib.hid hb
  clear hv h1 h2 hsz hb
  go_enter Tryd.func54, Tryd.ntmps54
  go_wp2_with fail
  refine (num_any _ xs w HB.out (by omega) (l.length : Int) HLN.out).mono ?_
  rintro e w1 ⟨v1, rfl, r1⟩
  have hE1 := r1.2
  have HO1 := Lib.hid r1.own
  clear r1
  go_wp2_with fail
  go_loopw [5, 16] (fun o i wr => ∃ j : Nat, j ≤ l.length ∧ i = .int .i64 j ∧ Hid (OwnB w.heap.size wr o (xs ++ numB l.length ++ itsBy (l.take j))) ∧ Ext w wr) (fun _ i _ => l.length - (intOf i).toNat)
  case atStart => exact ⟨0, by omega, rfl, Lib.hid (by have := HO1.out; simpa [itsBy] using this), hE1⟩
  case round =>
    clear HO1 hE1
    obtain ⟨j, hj, rfl, HO, hE⟩ := hrel
    by_cases hlt : j < l.length
    case neg =>
      have hj' : j = l.length := by omega
      have hR : ∃ vr, vr = u5 ∧ RetBytes w (xs ++ fragBy l) (.returned vr) wr := ⟨u5, rfl, u5, rfl, by
          have h := HO.out
          rw [hj', List.take_length] at h
          unfold fragBy
          rw [← List.append_assoc]
          exact ⟨h, hE⟩⟩
      obtain ⟨vr, rfl, hR⟩ := hR
      clear HO hj'
      go_wp2
      go_ret
      exact hR
    obtain ⟨wo, rfl⟩ : ∃ wo : World, wo = wr := ⟨_, rfl⟩
    obtain ⟨bb, off, rfl, hbb, aa, m, cc, c0, c1, c2, c3, c4, c5, hs⟩ := it_at HR.out hE j hlt
    have hat := its_at l j hlt
    have hle := its_le l (j + 1)
    have hat2 := congrArg List.length hat
    rw [List.length_append] at hat2
    obtain ⟨x, hx⟩ : ∃ x, x = l[j] := ⟨_, rfl⟩
    rw [← hx] at c0 c1 c3 c4 c5 hs hat hat2
    have HS := Lib.hid (hs.ext hE)
    have hml : m ≤ 9223372036854775807 := by have := HS.out.row.length_le; rw [← HS.out.len] at this; exact this
    have HM := Lib.hid HS.out.len
    have HAT := Lib.hid hat
    have hK0 : (0 : Int) ≤ (x.kind.toNat : Int) := by omega
    have hK1 : (x.kind.toNat : Int) ≤ 255 := by have := x.kind.toNat_lt; omega
    have ek : ((x.kind.toNat : Int) == 1) = decide (x.kind = 1) := by rw [show (1 : Int) = ((1 : UInt8).toNat : Int) from rfl, u8_eq]
    obtain ⟨P, hP⟩ : ∃ P, P = xs ++ numB l.length ++ itsBy (l.take j) := ⟨_, rfl⟩
    have HP := Lib.hid hP
    have hPl : P.length + (itBy x).length ≤ 1000000000 := by rw [hP]; simp only [List.length_append]; omega
    rw [← hP] at HO
    have hib : itBy x = textB x.name ++ (numB x.kind.toNat ++ (numB x.after.length ++ (namesBy x.after ++ (numB x.quota ++ (if x.kind = 1 then textB x.over ++ numB x.width else []))))) := rfl
    have hil := congrArg List.length hib
    simp only [List.length_append] at hil
    rw [← HM.out] at hib hil
    clear hs hx hbb hat hat2 hle hP
    obtain ⟨K, hK⟩ : ∃ K : Int, K = (x.kind.toNat : Int) := ⟨_, rfl⟩
    rw [← hK] at c1 hK0 hK1 ek hib hil HS
    have HIB := Lib.hid hib
    have HKi : Hid (isI64 K) := Lib.hid (by unfold isI64; omega)
    have HQi : Hid (isI64 x.quota) := Lib.hid (by obtain ⟨_, _, _, _, _, _, _, _, h⟩ := HS.out; exact h)
    have HWi : Hid (isI64 x.width) := Lib.hid (by obtain ⟨_, _, _, _, _, _, _, h, _⟩ := HS.out; exact h)
    have HMi := Lib.hid (i64_nat m hml)
    clear hib hK
    have HEW := Lib.hid hE
    have HE01 := Lib.hid ((Ext.refl wo).alloc (.cells #[.string (str x.name), .int .u8 K, .slice aa m cc, .string (str x.over), .int .i64 x.width, .int .i64 x.quota] 107))
    have HB1 : Hid (BoxL (wo.alloc (.cells #[.string (str x.name), .int .u8 K, .slice aa m cc, .string (str x.over), .int .i64 x.width, .int .i64 x.quota] 107)) wo.heap.size [.string (str x.name), .int .u8 K, .slice aa m cc, .string (str x.over), .int .i64 x.width, .int .i64 x.quota]) := Lib.hid (BoxL.new wo _ _)
    have HRx := Lib.hid (HS.out.row.ext HE01.out)
    have hwz : wo.heap.size < (wo.alloc (.cells #[.string (str x.name), .int .u8 K, .slice aa m cc, .string (str x.over), .int .i64 x.width, .int .i64 x.quota] 107)).heap.size := by simp
    go_wp2_with fail
    generalize wo.alloc (.cells #[.string (str x.name), .int .u8 K, .slice aa m cc, .string (str x.over), .int .i64 x.width, .int .i64 x.quota] 107) = W1 at *
    clear c0 c1 c2 c3 c4 c5 HS
    have HS5 : Hid (∀ w', Ext W1 w' → (w'.cell? ⟨wo.heap.size, 0, none⟩ = some (.string (str x.name)) ∧ w'.cell? ⟨wo.heap.size, 1, none⟩ = some (.int .u8 K))) := Lib.hid (fun w' h => by
      obtain ⟨p0, p1, -⟩ := (HB1.out.ext h).six
      exact ⟨p0, p1⟩)
    have D0 : Hid (Ext W1 W1.drew) := Lib.hid (Ext.refl W1).drew
    refine wp_region_held_drew (S := (fun w' => w'.cell? ⟨wo.heap.size, 0, none⟩ = some (.string (str x.name)) ∧ w'.cell? ⟨wo.heap.size, 1, none⟩ = some (.int .u8 K))) (by kernel_rfl) ?_ (fun hHeld => ?_)
    · (try dsimp only)
      (first | exact HS5.out _ D0.out | exact HS5.out _ D1.out | exact HS5.out _ D2.out)
    refine take_w 0 (some 20) (v := ?_) (by kernel_rfl) (by kernel_rfl) (by kernel_rfl) (by kernel_rfl) (by kernel_rfl) (fun _ _ _ h => h) (by rfl) ?_ (by assumption) ?_
    rotate_left
    · (intro w hSw; (try dsimp only at hSw); go_simp; try with_reducible rfl)
    try simp only [Act.put, List.setIfInBounds_toArray, List.set_cons_zero, List.set_cons_succ]
    refine take_w 1 (some 21) (v := ?_) (by kernel_rfl) (by kernel_rfl) (by kernel_rfl) (by kernel_rfl) (by kernel_rfl) (fun _ _ _ h => h) (by rfl) ?_ (by assumption) ?_
    rotate_left
    · (intro w hSw; (try dsimp only at hSw); go_simp; try with_reducible rfl)
    try simp only [Act.put, List.setIfInBounds_toArray, List.set_cons_zero, List.set_cons_succ]
    refine take_w 2 (some 22) (v := ?_) (by kernel_rfl) (by kernel_rfl) (by kernel_rfl) (by kernel_rfl) (by kernel_rfl) (fun _ _ _ h => h) (by rfl) ?_ (by assumption) ?_
    rotate_left
    · (intro w hSw; (try dsimp only at hSw); go_simp; try with_reducible rfl)
    try simp only [Act.put, List.setIfInBounds_toArray, List.set_cons_zero, List.set_cons_succ]
    refine take_w 4 (some 24) (v := ?_) (by kernel_rfl) (by kernel_rfl) (by kernel_rfl) (by kernel_rfl) (by kernel_rfl) (fun _ _ _ h => h) (by rfl) ?_ (by assumption) ?_
    rotate_left
    · (intro w hSw; (try dsimp only at hSw); go_simp; try with_reducible rfl)
    try simp only [Act.put, List.setIfInBounds_toArray, List.set_cons_zero, List.set_cons_succ]
    refine take_w 5 (some 25) (v := ?_) (by kernel_rfl) (by kernel_rfl) (by kernel_rfl) (by kernel_rfl) (by kernel_rfl) (fun _ _ _ h => h) (by rfl) ?_ (by assumption) ?_
    rotate_left
    · (intro w hSw; (try dsimp only at hSw); go_simp; try with_reducible rfl)
    try simp only [Act.put, List.setIfInBounds_toArray, List.set_cons_zero, List.set_cons_succ]
    refine take_w 6 (some 26) (v := ?_) (by kernel_rfl) (by kernel_rfl) (by kernel_rfl) (by kernel_rfl) (by kernel_rfl) (fun _ _ _ h => h) (by rfl) ?_ (by assumption) ?_
    rotate_left
    · (intro w hSw; (try dsimp only at hSw); go_simp; try with_reducible rfl)
    try simp only [Act.put, List.setIfInBounds_toArray, List.set_cons_zero, List.set_cons_succ]
    refine ready_one 3 (by kernel_rfl) (by kernel_rfl) (by rfl) (fun Kc hKc => ?_)
    go_simp
    refine (text_any _ P x.name _ (HO.out.bytes.ext (HE01.out.trans D0.out)) (by omega) (by have := textB_ge x.name; omega)).mono ?_
    rintro e y1 ⟨v1, rfl, r1⟩
    have D1 := Lib.hid (D0.out.trans r1.2)
    have O1 : Hid (OwnB w.heap.size y1 v1 (P ++ textB x.name)) := Lib.hid (r1.own.mono (by have := HEW.out.size; have := D0.out.size; omega))
    clear r1
    try go_wp2_with fail
    refine hKc.out _ _ ?_ (fun hHeld => ?_)
    · (try dsimp only)
      (first | exact HS5.out _ D0.out | exact HS5.out _ D1.out | exact HS5.out _ D2.out)
    clear hKc Kc
    try simp only [Act.put, List.setIfInBounds_toArray, List.set_cons_zero, List.set_cons_succ]
    refine ready_one 7 (by kernel_rfl) (by kernel_rfl) (by rfl) (fun Kc hKc => ?_)
    go_simp
    rw [show IntKind.i64.wrap K = K from IntWalk.i64_in _ (by omega)]
    refine (num_any _ _ _ O1.out.bytes (by simp only [List.length_append]; omega) K HKi.out).mono ?_
    rintro e y2 ⟨v2, rfl, r2⟩
    have D2 := Lib.hid (D1.out.trans r2.2)
    have O2 : Hid (OwnB w.heap.size y2 v2 (P ++ textB x.name ++ numB K)) := Lib.hid (r2.own.mono (by have := HEW.out.size; have := D1.out.size; omega))
    clear r2
    try go_wp2_with fail
    refine hKc.out _ _ ?_ (fun hHeld => ?_)
    · (try dsimp only)
      (first | exact HS5.out _ D0.out | exact HS5.out _ D1.out | exact HS5.out _ D2.out)
    clear hKc Kc
    try simp only [Act.put, List.setIfInBounds_toArray, List.set_cons_zero, List.set_cons_succ]
    refine take_w 8 (some 5) (v := ?_) (by kernel_rfl) (by kernel_rfl) (by kernel_rfl) (by kernel_rfl) (by kernel_rfl) (fun _ _ _ h => h) (by rfl) ?_ (by assumption) ?_
    rotate_left
    · (intro w hSw; (try dsimp only at hSw); go_simp; try with_reducible rfl)
    try simp only [Act.put, List.setIfInBounds_toArray, List.set_cons_zero, List.set_cons_succ]
    refine wpAnyH_done (by kernel_rfl) ?_ _
    have HEy2 := Lib.hid (HEW.out.trans (HE01.out.trans D2.out))
    obtain ⟨p0, p1, p2, p3, p4, p5⟩ := (HB1.out.ext D2.out).six
    clear HS5 D0 D1 O1 HO hHeld
    go_wp2_with fail
    refine (num_any _ _ _ O2.out.bytes (by simp only [List.length_append]; omega) (m : Int) HMi.out).mono ?_
    rintro e y3 ⟨v3, rfl, r3⟩
    have D3 := Lib.hid (D2.out.trans r3.2)
    have O3 : Hid (OwnB w.heap.size y3 v3 (P ++ textB x.name ++ numB K ++ numB m)) := Lib.hid (r3.own.mono HEy2.out.size)
    clear r3 O2 p0 p1 p2 p3 p4 p5 HEy2 D2
    obtain ⟨p0, p1, p2, p3, p4, p5⟩ := (HB1.out.ext D3.out).six
    go_wp2_with fail
    clear p0 p1 p2 p3 p4 p5
    go_loopw [5, 36] (fun o i wq => ∃ k : Nat, k ≤ m ∧ i = .int .i64 k ∧ Hid (OwnB w.heap.size wq o (P ++ textB x.name ++ numB K ++ numB m ++ namesBy (x.after.take k))) ∧ Hid (Ext W1 wq)) (fun _ i _ => m - (intOf i).toNat)
    case atStart => exact ⟨0, by omega, rfl, Lib.hid (by have := O3.out; simpa [namesBy] using this), D3⟩
    case round =>
      clear O3 D3
      obtain ⟨k, hk, rfl, O4, D4⟩ := hrel
      by_cases hkm : k < m
      · have hkx : k < x.after.length := by have := HM.out; omega
        obtain ⟨sb, so, rfl, hsb, hsc, hsl⟩ := str_at HRx.out D4.out k hkx
        have hna := names_at x.after k hkx
        have hnl := names_le x.after (k + 1)
        have hna2 := congrArg List.length hna
        rw [List.length_append] at hna2
        have HNA := Lib.hid hna
        clear hna
        go_wp2_with fail
        refine (text_any _ _ x.after[k] _ O4.out.bytes (by simp only [List.length_append]; omega) (by have := textB_ge x.after[k]; omega)).mono ?_
        rintro e y4 ⟨v4, rfl, r4⟩
        have D5 := Lib.hid (D4.out.trans r4.2)
        have O5 : Hid (OwnB w.heap.size y4 v4 (P ++ textB x.name ++ numB K ++ numB m ++ namesBy (x.after.take (k + 1)))) := Lib.hid (by
          rw [HNA.out, ← List.append_assoc]
          exact r4.own.mono (HEW.out.trans (HE01.out.trans D4.out)).size)
        clear r4 hsc hna2 hnl
        go_wp2
        go_roundw
        case rel => exact ⟨k + 1, by omega, by go_num, O5, D5⟩
        case measure => simp [intOf]; omega
      · have hkk : k = m := by omega
        obtain ⟨vo, hvo⟩ : ∃ vo, vo = u5 := ⟨_, rfl⟩
        have O4' : Hid (OwnB w.heap.size wr u5 (P ++ textB x.name ++ numB K ++ numB m ++ namesBy x.after)) := Lib.hid (by
          have := O4.out
          rwa [hkk, show m = x.after.length from HM.out, List.take_length, show x.after.length = m from HM.out.symm] at this)
        have hsy := (HEW.out.trans (HE01.out.trans D4.out)).size
        obtain ⟨p0, p1, p2, p3, p4, p5⟩ := (HB1.out.ext D4.out).six
        clear hkk O4 hvo vo
        go_wp2_with fail
        refine (num_any _ _ _ O4'.out.bytes (by simp only [List.length_append]; omega) x.quota HQi.out).mono ?_
        rintro e y5 ⟨v5, rfl, r5⟩
        have D5 := Lib.hid (D4.out.trans r5.2)
        have O5 : Hid (OwnB w.heap.size y5 v5 (P ++ textB x.name ++ numB K ++ numB m ++ namesBy x.after ++ numB x.quota)) := Lib.hid (r5.own.mono hsy)
        have hsy5 := (HEW.out.trans (HE01.out.trans D5.out)).size
        clear r5 O4' p0 p1 p2 p3 p4 p5 D4 hsy
        obtain ⟨p0, p1, p2, p3, p4, p5⟩ := (HB1.out.ext D5.out).six
        by_cases hk1 : x.kind = 1
        case neg =>
          have f1 : (K == 1) = false := by rw [ek]; simpa using hk1
          have HO2 : Hid (OwnB w.heap.size y5 v5 (xs ++ numB l.length ++ itsBy (l.take (j + 1)))) := Lib.hid (by
            rw [HAT.out, ← List.append_assoc, ← HP.out, HIB.out, if_neg hk1, List.append_nil]
            have := O5.out
            simp only [List.append_assoc] at this
            exact this)
          have HE5 := Lib.hid (HEW.out.trans (HE01.out.trans D5.out))
          clear ek hk1 O5 hil D5 hsy5
          go_wp2
          go_roundw
          case rel => exact ⟨j + 1, by omega, by go_num, HO2, HE5.out⟩
          case measure => simp [intOf]; omega
        have f1 : (K == 1) = true := by rw [ek]; simpa using hk1
        rw [if_pos hk1, List.length_append] at hil
        have HIB2 := Lib.hid (HIB.out.trans (by rw [if_pos hk1]))
        clear ek hk1
        go_wp2_with fail
        have HS14 : Hid (∀ w', Ext y5 w' → (w'.cell? ⟨wo.heap.size, 3, none⟩ = some (.string (str x.over)) ∧ w'.cell? ⟨wo.heap.size, 4, none⟩ = some (.int .i64 x.width))) := Lib.hid (fun w' h => by
          obtain ⟨-, -, -, p3, p4, -⟩ := (HB1.out.ext (D5.out.trans h)).six
          exact ⟨p3, p4⟩)
        have G0 : Hid (Ext y5 y5.drew) := Lib.hid (Ext.refl y5).drew
        clear p0 p1 p2 p3 p4 p5 f1
        refine wp_region_held_drew (S := (fun w' => w'.cell? ⟨wo.heap.size, 3, none⟩ = some (.string (str x.over)) ∧ w'.cell? ⟨wo.heap.size, 4, none⟩ = some (.int .i64 x.width))) (by kernel_rfl) ?_ (fun hHeld => ?_)
        · (try dsimp only)
          (first | exact HS14.out _ G0.out | exact HS14.out _ G1.out | exact HS14.out _ G2.out)
        refine take_w 0 (some 51) (v := ?_) (by kernel_rfl) (by kernel_rfl) (by kernel_rfl) (by kernel_rfl) (by kernel_rfl) (fun _ _ _ h => h) (by rfl) ?_ (by assumption) ?_
        rotate_left
        · (intro w hSw; (try dsimp only at hSw); go_simp; try with_reducible rfl)
        try simp only [Act.put, List.setIfInBounds_toArray, List.set_cons_zero, List.set_cons_succ]
        refine take_w 1 (some 52) (v := ?_) (by kernel_rfl) (by kernel_rfl) (by kernel_rfl) (by kernel_rfl) (by kernel_rfl) (fun _ _ _ h => h) (by rfl) ?_ (by assumption) ?_
        rotate_left
        · (intro w hSw; (try dsimp only at hSw); go_simp; try with_reducible rfl)
        try simp only [Act.put, List.setIfInBounds_toArray, List.set_cons_zero, List.set_cons_succ]
        refine take_w 2 (some 53) (v := ?_) (by kernel_rfl) (by kernel_rfl) (by kernel_rfl) (by kernel_rfl) (by kernel_rfl) (fun _ _ _ h => h) (by rfl) ?_ (by assumption) ?_
        rotate_left
        · (intro w hSw; (try dsimp only at hSw); go_simp; try with_reducible rfl)
        try simp only [Act.put, List.setIfInBounds_toArray, List.set_cons_zero, List.set_cons_succ]
        refine take_w 4 (some 55) (v := ?_) (by kernel_rfl) (by kernel_rfl) (by kernel_rfl) (by kernel_rfl) (by kernel_rfl) (fun _ _ _ h => h) (by rfl) ?_ (by assumption) ?_
        rotate_left
        · (intro w hSw; (try dsimp only at hSw); go_simp; try with_reducible rfl)
        try simp only [Act.put, List.setIfInBounds_toArray, List.set_cons_zero, List.set_cons_succ]
        refine take_w 5 (some 56) (v := ?_) (by kernel_rfl) (by kernel_rfl) (by kernel_rfl) (by kernel_rfl) (by kernel_rfl) (fun _ _ _ h => h) (by rfl) ?_ (by assumption) ?_
        rotate_left
        · (intro w hSw; (try dsimp only at hSw); go_simp; try with_reducible rfl)
        try simp only [Act.put, List.setIfInBounds_toArray, List.set_cons_zero, List.set_cons_succ]
        refine ready_one 3 (by kernel_rfl) (by kernel_rfl) (by rfl) (fun Kc hKc => ?_)
        go_simp
        refine (text_any _ _ x.over _ (O5.out.bytes.ext (Ext.refl y5).drew) (by simp only [List.length_append]; omega) (by have := textB_ge x.over; omega)).mono ?_
        rintro e y6 ⟨v6, rfl, r6⟩
        have G1 := Lib.hid (G0.out.trans r6.2)
        have O6 : Hid (OwnB w.heap.size y6 v6 (P ++ textB x.name ++ numB K ++ numB m ++ namesBy x.after ++ numB x.quota ++ textB x.over)) := Lib.hid (r6.own.mono (by have := HEW.out.size; have := G0.out.size; omega))
        clear r6
        try go_wp2_with fail
        refine hKc.out _ _ ?_ (fun hHeld => ?_)
        · (try dsimp only)
          (first | exact HS14.out _ G0.out | exact HS14.out _ G1.out | exact HS14.out _ G2.out)
        clear hKc Kc
        try simp only [Act.put, List.setIfInBounds_toArray, List.set_cons_zero, List.set_cons_succ]
        refine ready_one 6 (by kernel_rfl) (by kernel_rfl) (by rfl) (fun Kc hKc => ?_)
        go_simp
        refine (num_any _ _ _ O6.out.bytes (by simp only [List.length_append]; omega) x.width HWi.out).mono ?_
        rintro e y7 ⟨v7, rfl, r7⟩
        have G2 := Lib.hid (G1.out.trans r7.2)
        have O7 : Hid (OwnB w.heap.size y7 v7 (P ++ textB x.name ++ numB K ++ numB m ++ namesBy x.after ++ numB x.quota ++ textB x.over ++ numB x.width)) := Lib.hid (r7.own.mono (by have := HEW.out.size; have := G1.out.size; omega))
        clear r7
        try go_wp2_with fail
        refine hKc.out _ _ ?_ (fun hHeld => ?_)
        · (try dsimp only)
          (first | exact HS14.out _ G0.out | exact HS14.out _ G1.out | exact HS14.out _ G2.out)
        clear hKc Kc
        try simp only [Act.put, List.setIfInBounds_toArray, List.set_cons_zero, List.set_cons_succ]
        refine take_w 7 (some 5) (v := ?_) (by kernel_rfl) (by kernel_rfl) (by kernel_rfl) (by kernel_rfl) (by kernel_rfl) (fun _ _ _ h => h) (by rfl) ?_ (by assumption) ?_
        rotate_left
        · (intro w hSw; (try dsimp only at hSw); go_simp; try with_reducible rfl)
        try simp only [Act.put, List.setIfInBounds_toArray, List.set_cons_zero, List.set_cons_succ]
        refine wpAnyH_done (by kernel_rfl) ?_ _
        have HO2 : Hid (OwnB w.heap.size y7 v7 (xs ++ numB l.length ++ itsBy (l.take (j + 1)))) := Lib.hid (by
          rw [HAT.out, ← List.append_assoc, ← HP.out, HIB2.out]
          have := O7.out
          simp only [List.append_assoc] at this ⊢
          exact this)
        have HE7 := Lib.hid (HEW.out.trans (HE01.out.trans (D5.out.trans G2.out)))
        clear HS14 G0 G1 G2 O5 O6 O7 hil hHeld D5 hsy5
        go_wp2
        go_roundw
        case rel => exact ⟨j + 1, by omega, by go_num, HO2, HE7.out⟩
        case measure => simp [intOf]; omega

/-- What Bytes comes to. -/
def FBytes (w : World) (l : List It) (e : Ending) (w' : World) : Prop :=
  ∃ (a : Option Addr) (m c : Nat) (n : Int), e = .returned (.tuple #[.slice a m c, .int .i64 n]) ∧ Ext w w' ∧ (fragB l = false → n = 2 ∧ m = 0) ∧ (fragB l = true → n = 0 ∧ OwnBytes w w' (.slice a m c) (fragBy l))
theorem itBy_le {x : It} (h : itB x = true) : (itBy x).length ≤ 1000 := by
  obtain ⟨h1, h2, h3, h4, h5, h6⟩ := itB_iff.1 h
  have a1 := nameB_len h1
  have e1 := textB_le x.name
  have e2 := numB_le (x.kind.toNat : Int)
  have e3 := numB_le (x.after.length : Int)
  have e4 : (namesBy x.after).length ≤ x.after.length * 30 := flat_len textB 30 x.after (fun s hs => by have := textB_le s; have := nameB_len (List.all_eq_true.1 h5 s hs); omega)
  have e5 := numB_le x.quota
  have e6 := textB_le x.over
  have e7 := numB_le x.width
  unfold itBy
  simp only [List.length_append]
  rcases h6 with ⟨h7, _⟩ | ⟨h7, h8, _⟩
  · rw [if_neg (by rw [h7]; decide), List.length_nil]; omega
  · rw [if_pos h7, List.length_append]
    have := nameB_len h8
    omega
theorem fragBy_le {l : List It} (h : fragB l = true) : (fragBy l).length ≤ 50000 := by
  obtain ⟨h1, h2⟩ := fragB_iff.1 h
  unfold fragBy itsBy
  rw [List.length_append]
  have := numB_le (l.length : Int)
  have := flat_len itBy 1000 l (fun x hx => itBy_le (List.all_eq_true.1 h1 x hx))
  omega
end Go.Proofs.YtdienbcjfljjnaaDoor
