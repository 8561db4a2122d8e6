/- FragOne answers true at every input. -/
import Derived.Test.YtnbalamacpcanaaDoorFragV
import Derived.Test.YtnbalamacpcanaaDoorFragG
open Go.RowKit Go.Shelf
namespace Go.Proofs.YtnbalamacpcanaaDoor
open Go Go.Proofs Fm

theorem fragBy_dec {l m : List It} (hl : fragB l = true) (hm : fragB m = true) : decide (fragBy l = fragBy m) = eqF l m := by
  cases he : eqF l m with
  | true => rw [eqF_iff.1 he]; exact decide_eq_true rfl
  | false =>
    refine decide_eq_false (fun h => ?_)
    have := (fragBy_inj hl hm (r := []) (s := []) (by rw [h])).1
    rw [eqF_iff.2 this] at he
    cases he

set_option maxRecDepth 100000 in
set_option maxHeartbeats 8000000 in
theorem fragOne_any (w : World) (vb : Value) (be : List UInt8) (hb : Bytes w vb be) (l : List It) (v : Value) (hv : itE.Row w l v) (m : List It) (u : Value) (hu : itE.Row w m u) :
    Calls Tryd.prog 11 #[vb, v, u] w fun e w' => e = .returned (.bool true) ∧ Ext w w' := by
  have HV := Lib.hid hv
  have HU := Lib.hid hu
  have HB := Lib.hid hb
  obtain ⟨al, cl, rfl, -⟩ := hv.slice
  obtain ⟨am, cm, rfl, -⟩ := hu.slice
  obtain ⟨ab, cb, rfl, hcb, -⟩ := id hb
  have hlb := hb.length_le
  clear hv hu hb
  go_enter Tryd.func11, Tryd.ntmps11
  by_cases hB4 : 1500 < be.length
  case pos =>
    have hB4' : (1500 : Int) < (be.length : Int) := by omega
    go_wp2_with fail
    refine (awake09 _).mono ?_
    rintro e wz ⟨rfl, hEz⟩
    have HEz := Lib.hid ((Ext.refl w).trans hEz)
    clear hEz
    go_wp2
    go_ret
    exact ⟨rfl, HEz.out⟩
  have hB4' : ¬ (1500 : Int) < (be.length : Int) := by omega
  go_wp2_with fail
  refine (few09_any l w _ HV.out).mono ?_
  rintro e w1 ⟨rfl, hE1⟩
  have HE1 := Lib.hid hE1
  clear hE1
  cases hf : fewF l with
  | false =>
    clear hf
    go_wp2_with fail
    refine (awake09 _).mono ?_
    rintro e wz ⟨rfl, hEz⟩
    have HEz := Lib.hid (HE1.out.trans hEz)
    clear hEz
    go_wp2
    go_ret
    exact ⟨rfl, HEz.out⟩
  | true =>
  clear hf
  go_wp2_with fail
  refine (few09_any m w1 _ (HU.out.ext HE1.out)).mono ?_
  rintro e w2 ⟨rfl, hE2⟩
  have HE2 := Lib.hid (HE1.out.trans hE2)
  clear hE2
  cases hf : fewF m with
  | false =>
    clear hf
    go_wp2_with fail
    refine (awake09 _).mono ?_
    rintro e wz ⟨rfl, hEz⟩
    have HEz := Lib.hid (HE2.out.trans hEz)
    clear hEz
    go_wp2
    go_ret
    exact ⟨rfl, HEz.out⟩
  | true =>
  clear hf HE1
  go_wp2_with fail
  refine (ftake_any _ be w2 (HB.out.ext HE2.out)).mono ?_
  rintro e w4 ⟨a4, m4, c4, ar, mr, cr, f4, l4, rfl, hE4, hO4, hno, hyes⟩
  have HD4 : Hid (Ext w4 w4.drew) := Lib.hid (Ext.refl w4).drew
  obtain ⟨T, hT⟩ : ∃ T, T = takeF be := ⟨_, rfl⟩
  cases T with
  | none =>
    obtain ⟨rfl, rfl, rfl⟩ := hno hT.symm
    have HE5 := Lib.hid (HE2.out.trans (hE4.trans HD4.out))
    clear hE4 hno hyes hO4 hT HE2 HD4
    go_wp2_with fail
    refine wp_region_held_drew (S := fun w' => 0 ≤ w'.heap.size) (by kernel_rfl) ?_ (fun hHeld => ?_)
    · (try dsimp only)
      exact Nat.zero_le _
    refine take_w 0 (some 34) (v := ?_) (by kernel_rfl) (by kernel_rfl) (by kernel_rfl) (by kernel_rfl) (by kernel_rfl) (fun _ _ _ h => h) (by rfl) ?_ (by assumption) ?_
    rotate_left
    · (intro w hSw; (try dsimp only at hSw); go_simp; try with_reducible rfl)
    try simp only [Act.put, List.setIfInBounds_toArray, List.set_cons_zero, List.set_cons_succ]
    refine take_w 1 (some 35) (v := ?_) (by kernel_rfl) (by kernel_rfl) (by kernel_rfl) (by kernel_rfl) (by kernel_rfl) (fun _ _ _ h => h) (by rfl) ?_ (by assumption) ?_
    rotate_left
    · (intro w hSw; (try dsimp only at hSw); go_simp; try with_reducible rfl)
    try simp only [Act.put, List.setIfInBounds_toArray, List.set_cons_zero, List.set_cons_succ]
    refine take_w 2 (some 36) (v := ?_) (by kernel_rfl) (by kernel_rfl) (by kernel_rfl) (by kernel_rfl) (by kernel_rfl) (fun _ _ _ h => h) (by rfl) ?_ (by assumption) ?_
    rotate_left
    · (intro w hSw; (try dsimp only at hSw); go_simp; try with_reducible rfl)
    try simp only [Act.put, List.setIfInBounds_toArray, List.set_cons_zero, List.set_cons_succ]
    refine take_u 3 (some 37) (by kernel_rfl) (by kernel_rfl) (by kernel_rfl) (by kernel_rfl) (by kernel_rfl) (fun _ _ _ h => h) (by rfl) (by assumption) ?_
    try simp only [Act.put, List.setIfInBounds_toArray, List.set_cons_zero, List.set_cons_succ]
    refine ready_u 4 (some 38) (by kernel_rfl) (by kernel_rfl) (by kernel_rfl) (by rfl) (by assumption) ?_
    try simp only [Act.put, List.setIfInBounds_toArray, List.set_cons_zero, List.set_cons_succ]
    refine take_u 5 (some 39) (by kernel_rfl) (by kernel_rfl) (by kernel_rfl) (by kernel_rfl) (by kernel_rfl) (fun _ _ _ h => h) (by rfl) (by assumption) ?_
    try simp only [Act.put, List.setIfInBounds_toArray, List.set_cons_zero, List.set_cons_succ]
    refine take_u 6 (some 40) (by kernel_rfl) (by kernel_rfl) (by kernel_rfl) (by kernel_rfl) (by kernel_rfl) (fun _ _ _ h => h) (by rfl) (by assumption) ?_
    try simp only [Act.put, List.setIfInBounds_toArray, List.set_cons_zero, List.set_cons_succ]
    refine take_u 7 (some 41) (by kernel_rfl) (by kernel_rfl) (by kernel_rfl) (by kernel_rfl) (by kernel_rfl) (fun _ _ _ h => h) (by rfl) (by assumption) ?_
    try simp only [Act.put, List.setIfInBounds_toArray, List.set_cons_zero, List.set_cons_succ]
    refine take_u 8 (some 42) (by kernel_rfl) (by kernel_rfl) (by kernel_rfl) (by kernel_rfl) (by kernel_rfl) (fun _ _ _ h => h) (by rfl) (by assumption) ?_
    try simp only [Act.put, List.setIfInBounds_toArray, List.set_cons_zero, List.set_cons_succ]
    refine take_u 9 (some 43) (by kernel_rfl) (by kernel_rfl) (by kernel_rfl) (by kernel_rfl) (by kernel_rfl) (fun _ _ _ h => h) (by rfl) (by assumption) ?_
    try simp only [Act.put, List.setIfInBounds_toArray, List.set_cons_zero, List.set_cons_succ]
    refine take_u 10 (some 44) (by kernel_rfl) (by kernel_rfl) (by kernel_rfl) (by kernel_rfl) (by kernel_rfl) (fun _ _ _ h => h) (by rfl) (by assumption) ?_
    try simp only [Act.put, List.setIfInBounds_toArray, List.set_cons_zero, List.set_cons_succ]
    refine take_u 11 (some 45) (by kernel_rfl) (by kernel_rfl) (by kernel_rfl) (by kernel_rfl) (by kernel_rfl) (fun _ _ _ h => h) (by rfl) (by assumption) ?_
    try simp only [Act.put, List.setIfInBounds_toArray, List.set_cons_zero, List.set_cons_succ]
    refine take_u 12 (some 46) (by kernel_rfl) (by kernel_rfl) (by kernel_rfl) (by kernel_rfl) (by kernel_rfl) (fun _ _ _ h => h) (by rfl) (by assumption) ?_
    try simp only [Act.put, List.setIfInBounds_toArray, List.set_cons_zero, List.set_cons_succ]
    refine take_u 13 (some 47) (by kernel_rfl) (by kernel_rfl) (by kernel_rfl) (by kernel_rfl) (by kernel_rfl) (fun _ _ _ h => h) (by rfl) (by assumption) ?_
    try simp only [Act.put, List.setIfInBounds_toArray, List.set_cons_zero, List.set_cons_succ]
    refine take_u 14 (some 48) (by kernel_rfl) (by kernel_rfl) (by kernel_rfl) (by kernel_rfl) (by kernel_rfl) (fun _ _ _ h => h) (by rfl) (by assumption) ?_
    try simp only [Act.put, List.setIfInBounds_toArray, List.set_cons_zero, List.set_cons_succ]
    refine take_u 15 (some 49) (by kernel_rfl) (by kernel_rfl) (by kernel_rfl) (by kernel_rfl) (by kernel_rfl) (fun _ _ _ h => h) (by rfl) (by assumption) ?_
    try simp only [Act.put, List.setIfInBounds_toArray, List.set_cons_zero, List.set_cons_succ]
    refine ready_u 16 (some 50) (by kernel_rfl) (by kernel_rfl) (by kernel_rfl) (by rfl) (by assumption) ?_
    try simp only [Act.put, List.setIfInBounds_toArray, List.set_cons_zero, List.set_cons_succ]
    refine take_u 17 (some 51) (by kernel_rfl) (by kernel_rfl) (by kernel_rfl) (by kernel_rfl) (by kernel_rfl) (fun _ _ _ h => h) (by rfl) (by assumption) ?_
    try simp only [Act.put, List.setIfInBounds_toArray, List.set_cons_zero, List.set_cons_succ]
    refine take_u 18 (some 52) (by kernel_rfl) (by kernel_rfl) (by kernel_rfl) (by kernel_rfl) (by kernel_rfl) (fun _ _ _ h => h) (by rfl) (by assumption) ?_
    try simp only [Act.put, List.setIfInBounds_toArray, List.set_cons_zero, List.set_cons_succ]
    refine take_w 19 (some 53) (v := ?_) (by kernel_rfl) (by kernel_rfl) (by kernel_rfl) (by kernel_rfl) (by kernel_rfl) (fun _ _ _ h => h) (by rfl) ?_ (by assumption) ?_
    rotate_left
    · (intro w hSw; (try dsimp only at hSw); go_simp; try with_reducible rfl)
    try simp only [Act.put, List.setIfInBounds_toArray, List.set_cons_zero, List.set_cons_succ]
    refine wpAnyH_done (by kernel_rfl) ?_ _
    go_wp2_with fail
    refine (fbytes_any l _ _ (HV.out.ext HE5.out)).mono ?_
    rintro e w6 ⟨ax, mx, cx, nx, rfl, hE6, hno, hyes⟩
    have HE6 := Lib.hid (HE5.out.trans hE6)
    clear hE6 HE5
    go_wp2_with fail
    refine (fbytes_any m w6 _ (HU.out.ext HE6.out)).mono ?_
    rintro e w7 ⟨ay, my, cy, ny, rfl, hE7, hno', hyes'⟩
    have HE7 := Lib.hid (HE6.out.trans hE7)
    have HE67 := Lib.hid hE7
    clear hE7 HE6
    cases hr : fragB l with
    | false =>
      obtain ⟨rfl, rfl⟩ := hno hr
      clear hr hno hyes hno' hyes'
      go_wp2_with fail
      refine (awake09 _).mono ?_
      rintro e wz ⟨rfl, hEz⟩
      have HEz := Lib.hid (HE7.out.trans hEz)
      clear hEz
      go_wp2
      go_ret
      exact ⟨rfl, HEz.out⟩
    | true =>
      obtain ⟨rfl, hox⟩ := hyes hr
      cases hr' : fragB m with
      | false =>
        obtain ⟨rfl, rfl⟩ := hno' hr'
        clear hr hr' hno hyes hno' hyes' hox
        go_wp2_with fail
        refine (awake09 _).mono ?_
        rintro e wz ⟨rfl, hEz⟩
        have HEz := Lib.hid (HE7.out.trans hEz)
        clear hEz
        go_wp2
        go_ret
        exact ⟨rfl, HEz.out⟩
      | true =>
        obtain ⟨rfl, hoy⟩ := hyes' hr'
        have HX := Lib.hid (hox.bytes.ext HE67.out)
        have HY := Lib.hid hoy.bytes
        have HDE := Lib.hid (fragBy_dec hr hr')
        clear hr hr' hno hyes hno' hyes' hox hoy HE67
        go_wp2_with fail
        refine (same_any _ _ _ _ w7 HX.out HY.out).mono ?_
        rw [HDE.out]
        rintro e w8 ⟨rfl, rfl⟩
        go_wp2_with fail
        refine (fSame_any l m w7 _ _ (HV.out.ext HE7.out) (HU.out.ext HE7.out)).mono ?_
        rintro e w9 ⟨rfl, hE9⟩
        have HE9 := Lib.hid (HE7.out.trans hE9)
        clear hE9 HDE
        generalize eqF l m = q at *
        cases q with
        | false =>
          go_wp2_with fail
          refine (awake09 _).mono ?_
          rintro e wz ⟨rfl, hEz⟩
          have HEz := Lib.hid (HE9.out.trans hEz)
          clear hEz
          go_wp2
          go_ret
          exact ⟨rfl, HEz.out⟩
        | true =>
          go_wp2_with fail
          refine (awake09 _).mono ?_
          rintro e wz ⟨rfl, hEz⟩
          have HEz := Lib.hid (HE9.out.trans hEz)
          clear hEz
          go_wp2
          go_ret
          exact ⟨rfl, HEz.out⟩

  | some p =>
    obtain ⟨l', r⟩ := p
    obtain ⟨rfl, rfl, hrb⟩ := hyes _ _ hT.symm
    obtain ⟨hbe, hrt⟩ := takeF_inv hT.symm
    have hmr : mr = r.length := by obtain ⟨a', c', e', -⟩ := id hrb; injection e'
    have HO4 := Lib.hid hO4
    have HRt := Lib.hid hrt
    have hbl : be.length = (fragBy l4).length + r.length := by rw [hbe, List.length_append]
    have hml : mr ≤ be.length := by omega
    obtain ⟨K, hK⟩ : ∃ K : Nat, K = be.length - mr := ⟨_, rfl⟩
    have hKi : (be.length : Int) - (mr : Int) = (K : Int) := by omega
    have HBY : Hid ([] ++ fragBy l4 = be.take K) := Lib.hid (by rw [List.nil_append, hbe, List.take_left' (by omega)])
    have HE4 := Lib.hid (HE2.out.trans hE4)
    have hkc : (K : Int) ≤ (cb : Int) := by omega
    have hk0 : (0 : Int) ≤ (K : Int) := by omega
    have hsk := fun w' => slice_upto ab be.length cb (K : Int) hk0 hkc w'
    simp only [takeV, Int.toNat_natCast] at hsk
    have tk := (HB.out.ext HE4.out).take (k := K) (by omega)
    simp only [takeV] at tk
    have HTk := Lib.hid tk
    have hwj : IntKind.i64.wrap (K : Int) = (K : Int) := IntWalk.i64_in _ (by omega)
    have hEE := HD4.out
    clear hE4 hno hyes hO4 hT tk hrb hbe hrt hmr hbl hml hK hEE
    go_wp2_with fail
    refine wp_region_held_drew (S := fun w' => 0 ≤ w'.heap.size) (by kernel_rfl) ?_ (fun hHeld => ?_)
    · (try dsimp only)
      exact Nat.zero_le _
    refine take_w 0 (some 34) (v := ?_) (by kernel_rfl) (by kernel_rfl) (by kernel_rfl) (by kernel_rfl) (by kernel_rfl) (fun _ _ _ h => h) (by rfl) ?_ (by assumption) ?_
    rotate_left
    · (intro w hSw; (try dsimp only at hSw); go_simp; try with_reducible rfl)
    try simp only [Act.put, List.setIfInBounds_toArray, List.set_cons_zero, List.set_cons_succ]
    refine take_w 1 (some 35) (v := ?_) (by kernel_rfl) (by kernel_rfl) (by kernel_rfl) (by kernel_rfl) (by kernel_rfl) (fun _ _ _ h => h) (by rfl) ?_ (by assumption) ?_
    rotate_left
    · (intro w hSw; (try dsimp only at hSw); go_simp; try with_reducible rfl)
    try simp only [Act.put, List.setIfInBounds_toArray, List.set_cons_zero, List.set_cons_succ]
    refine take_w 2 (some 36) (v := ?_) (by kernel_rfl) (by kernel_rfl) (by kernel_rfl) (by kernel_rfl) (by kernel_rfl) (fun _ _ _ h => h) (by rfl) ?_ (by assumption) ?_
    rotate_left
    · (intro w hSw; (try dsimp only at hSw); go_simp; try with_reducible rfl)
    try simp only [Act.put, List.setIfInBounds_toArray, List.set_cons_zero, List.set_cons_succ]
    refine take_w 3 (some 37) (v := ?_) (by kernel_rfl) (by kernel_rfl) (by kernel_rfl) (by kernel_rfl) (by kernel_rfl) (fun _ _ _ h => h) (by rfl) ?_ (by assumption) ?_
    rotate_left
    · (intro w hSw; (try dsimp only at hSw); go_simp; try with_reducible rfl)
    try simp only [Act.put, List.setIfInBounds_toArray, List.set_cons_zero, List.set_cons_succ]
    refine ready_one 4 (by kernel_rfl) (by kernel_rfl) (by rfl) (fun Kc hKc => ?_)
    go_simp
    refine (fright_any l4 _ _ (HO4.out.row.ext HD4.out)).mono ?_
    rw [HRt.out]
    rintro e y1 ⟨rfl, hE⟩
    have E1 := Lib.hid (HD4.out.trans hE)
    clear hE
    try go_wp2_with fail
    refine hKc.out _ _ ?_ (fun hHeld => ?_)
    · (try dsimp only)
      exact Nat.zero_le _
    clear hKc Kc
    try simp only [Act.put, List.setIfInBounds_toArray, List.set_cons_zero, List.set_cons_succ]
    refine take_w 5 (some 39) (v := ?_) (by kernel_rfl) (by kernel_rfl) (by kernel_rfl) (by kernel_rfl) (by kernel_rfl) (fun _ _ _ h => h) (by rfl) ?_ (by assumption) ?_
    rotate_left
    · (intro w hSw; (try dsimp only at hSw); go_simp; try with_reducible rfl)
    try simp only [Act.put, List.setIfInBounds_toArray, List.set_cons_zero, List.set_cons_succ]
    refine take_w 6 (some 40) (v := ?_) (by kernel_rfl) (by kernel_rfl) (by kernel_rfl) (by kernel_rfl) (by kernel_rfl) (fun _ _ _ h => h) (by rfl) ?_ (by assumption) ?_
    rotate_left
    · (intro w hSw; (try dsimp only at hSw); go_simp; try with_reducible rfl)
    try simp only [Act.put, List.setIfInBounds_toArray, List.set_cons_zero, List.set_cons_succ]
    refine take_w 7 (some 41) (v := ?_) (by kernel_rfl) (by kernel_rfl) (by kernel_rfl) (by kernel_rfl) (by kernel_rfl) (fun _ _ _ h => h) (by rfl) ?_ (by assumption) ?_
    rotate_left
    · (intro w hSw; (try dsimp only at hSw); go_simp; try with_reducible rfl)
    try simp only [Act.put, List.setIfInBounds_toArray, List.set_cons_zero, List.set_cons_succ]
    refine take_w 9 (some 43) (v := ?_) (by kernel_rfl) (by kernel_rfl) (by kernel_rfl) (by kernel_rfl) (by kernel_rfl) (fun _ _ _ h => h) (by rfl) ?_ (by assumption) ?_
    rotate_left
    · (intro w hSw; (try dsimp only at hSw); go_simp; try with_reducible rfl)
    try simp only [Act.put, List.setIfInBounds_toArray, List.set_cons_zero, List.set_cons_succ]
    refine take_w 10 (some 44) (v := ?_) (by kernel_rfl) (by kernel_rfl) (by kernel_rfl) (by kernel_rfl) (by kernel_rfl) (fun _ _ _ h => h) (by rfl) ?_ (by assumption) ?_
    rotate_left
    · (intro w hSw; (try dsimp only at hSw); go_simp; try with_reducible rfl)
    try simp only [Act.put, List.setIfInBounds_toArray, List.set_cons_zero, List.set_cons_succ]
    refine take_w 11 (some 45) (v := ?_) (by kernel_rfl) (by kernel_rfl) (by kernel_rfl) (by kernel_rfl) (by kernel_rfl) (fun _ _ _ h => h) (by rfl) ?_ (by assumption) ?_
    rotate_left
    · (intro w hSw; (try dsimp only at hSw); go_simp; try with_reducible rfl)
    try simp only [Act.put, List.setIfInBounds_toArray, List.set_cons_zero, List.set_cons_succ]
    refine take_w 12 (some 46) (v := ?_) (by kernel_rfl) (by kernel_rfl) (by kernel_rfl) (by kernel_rfl) (by kernel_rfl) (fun _ _ _ h => h) (by rfl) ?_ (by assumption) ?_
    rotate_left
    · (intro w hSw; (try dsimp only at hSw); go_simp; try with_reducible rfl)
    try simp only [Act.put, List.setIfInBounds_toArray, List.set_cons_zero, List.set_cons_succ]
    refine take_w 13 (some 47) (v := ?_) (by kernel_rfl) (by kernel_rfl) (by kernel_rfl) (by kernel_rfl) (by kernel_rfl) (fun _ _ _ h => h) (by rfl) ?_ (by assumption) ?_
    rotate_left
    · (intro w hSw; (try dsimp only at hSw); go_simp; try with_reducible rfl)
    try simp only [Act.put, List.setIfInBounds_toArray, List.set_cons_zero, List.set_cons_succ]
    refine take_w 14 (some 48) (v := ?_) (by kernel_rfl) (by kernel_rfl) (by kernel_rfl) (by kernel_rfl) (by kernel_rfl) (fun _ _ _ h => h) (by rfl) ?_ (by assumption) ?_
    rotate_left
    · (intro w hSw; (try dsimp only at hSw); go_simp; try with_reducible rfl)
    try simp only [Act.put, List.setIfInBounds_toArray, List.set_cons_zero, List.set_cons_succ]
    refine take_w 15 (some 49) (v := ?_) (by kernel_rfl) (by kernel_rfl) (by kernel_rfl) (by kernel_rfl) (by kernel_rfl) (fun _ _ _ h => h) (by rfl) ?_ (by assumption) ?_
    rotate_left
    · (intro w hSw; (try dsimp only at hSw); go_simp; try with_reducible rfl)
    try simp only [Act.put, List.setIfInBounds_toArray, List.set_cons_zero, List.set_cons_succ]
    refine ready_one 8 (by kernel_rfl) (by kernel_rfl) (by rfl) (fun Kc hKc => ?_)
    go_simp
    refine (fput_any l4 _ _ _ [] (Bytes.nil _) (HO4.out.row.ext E1.out) (by have := fragBy_le HRt.out; simp only [List.length_nil]; omega)).mono ?_
    rintro e y2 ⟨v2, rfl, hop⟩
    have HP2 := Lib.hid hop.bytes
    have E2 := Lib.hid (E1.out.trans hop.2)
    obtain ⟨ap, cp, rfl, -⟩ := id hop.bytes
    clear hop
    try go_wp2_with fail
    refine hKc.out _ _ ?_ (fun hHeld => ?_)
    · (try dsimp only)
      exact Nat.zero_le _
    clear hKc Kc
    try simp only [Act.put, List.setIfInBounds_toArray, List.set_cons_zero, List.set_cons_succ]
    refine ready_one 16 (by kernel_rfl) (by kernel_rfl) (by rfl) (fun Kc hKc => ?_)
    go_simp
    refine (same_true HP2.out (HTk.out.ext E2.out) HBY.out).mono ?_
    rintro e y3 ⟨rfl, rfl⟩
    try go_wp2_with fail
    refine hKc.out _ _ ?_ (fun hHeld => ?_)
    · (try dsimp only)
      exact Nat.zero_le _
    clear hKc Kc
    try simp only [Act.put, List.setIfInBounds_toArray, List.set_cons_zero, List.set_cons_succ]
    refine take_w 17 (some 51) (v := ?_) (by kernel_rfl) (by kernel_rfl) (by kernel_rfl) (by kernel_rfl) (by kernel_rfl) (fun _ _ _ h => h) (by rfl) ?_ (by assumption) ?_
    rotate_left
    · (intro w hSw; (try dsimp only at hSw); go_simp; try with_reducible rfl)
    try simp only [Act.put, List.setIfInBounds_toArray, List.set_cons_zero, List.set_cons_succ]
    refine take_w 18 (some 52) (v := ?_) (by kernel_rfl) (by kernel_rfl) (by kernel_rfl) (by kernel_rfl) (by kernel_rfl) (fun _ _ _ h => h) (by rfl) ?_ (by assumption) ?_
    rotate_left
    · (intro w hSw; (try dsimp only at hSw); go_simp; try with_reducible rfl)
    try simp only [Act.put, List.setIfInBounds_toArray, List.set_cons_zero, List.set_cons_succ]
    refine take_w 19 (some 53) (v := ?_) (by kernel_rfl) (by kernel_rfl) (by kernel_rfl) (by kernel_rfl) (by kernel_rfl) (fun _ _ _ h => h) (by rfl) ?_ (by assumption) ?_
    rotate_left
    · (intro w hSw; (try dsimp only at hSw); go_simp; try with_reducible rfl)
    try simp only [Act.put, List.setIfInBounds_toArray, List.set_cons_zero, List.set_cons_succ]
    refine wpAnyH_done (by kernel_rfl) ?_ _
    have HE5 := Lib.hid (HE4.out.trans E2.out)
    clear HE4 E1 E2 HP2 HTk HBY hsk hwj HRt HO4 HD4
    go_wp2_with fail
    refine (fbytes_any l _ _ (HV.out.ext HE5.out)).mono ?_
    rintro e w6 ⟨ax, mx, cx, nx, rfl, hE6, hno, hyes⟩
    have HE6 := Lib.hid (HE5.out.trans hE6)
    clear hE6 HE5
    go_wp2_with fail
    refine (fbytes_any m w6 _ (HU.out.ext HE6.out)).mono ?_
    rintro e w7 ⟨ay, my, cy, ny, rfl, hE7, hno', hyes'⟩
    have HE7 := Lib.hid (HE6.out.trans hE7)
    have HE67 := Lib.hid hE7
    clear hE7 HE6
    cases hr : fragB l with
    | false =>
      obtain ⟨rfl, rfl⟩ := hno hr
      clear hr hno hyes hno' hyes'
      go_wp2_with fail
      refine (awake09 _).mono ?_
      rintro e wz ⟨rfl, hEz⟩
      have HEz := Lib.hid (HE7.out.trans hEz)
      clear hEz
      go_wp2
      go_ret
      exact ⟨rfl, HEz.out⟩
    | true =>
      obtain ⟨rfl, hox⟩ := hyes hr
      cases hr' : fragB m with
      | false =>
        obtain ⟨rfl, rfl⟩ := hno' hr'
        clear hr hr' hno hyes hno' hyes' hox
        go_wp2_with fail
        refine (awake09 _).mono ?_
        rintro e wz ⟨rfl, hEz⟩
        have HEz := Lib.hid (HE7.out.trans hEz)
        clear hEz
        go_wp2
        go_ret
        exact ⟨rfl, HEz.out⟩
      | true =>
        obtain ⟨rfl, hoy⟩ := hyes' hr'
        have HX := Lib.hid (hox.bytes.ext HE67.out)
        have HY := Lib.hid hoy.bytes
        have HDE := Lib.hid (fragBy_dec hr hr')
        clear hr hr' hno hyes hno' hyes' hox hoy HE67
        go_wp2_with fail
        refine (same_any _ _ _ _ w7 HX.out HY.out).mono ?_
        rw [HDE.out]
        rintro e w8 ⟨rfl, rfl⟩
        go_wp2_with fail
        refine (fSame_any l m w7 _ _ (HV.out.ext HE7.out) (HU.out.ext HE7.out)).mono ?_
        rintro e w9 ⟨rfl, hE9⟩
        have HE9 := Lib.hid (HE7.out.trans hE9)
        clear hE9 HDE
        generalize eqF l m = q at *
        cases q with
        | false =>
          go_wp2_with fail
          refine (awake09 _).mono ?_
          rintro e wz ⟨rfl, hEz⟩
          have HEz := Lib.hid (HE9.out.trans hEz)
          clear hEz
          go_wp2
          go_ret
          exact ⟨rfl, HEz.out⟩
        | true =>
          go_wp2_with fail
          refine (awake09 _).mono ?_
          rintro e wz ⟨rfl, hEz⟩
          have HEz := Lib.hid (HE9.out.trans hEz)
          clear hEz
          go_wp2
          go_ret
          exact ⟨rfl, HEz.out⟩

end Go.Proofs.YtnbalamacpcanaaDoor
