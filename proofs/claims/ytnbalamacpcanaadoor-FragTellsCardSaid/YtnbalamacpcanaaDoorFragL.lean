/- FragTells answers true at every input. -/
import Derived.Test.YtnbalamacpcanaaDoorFragV
import Derived.Test.YtnbalamacpcanaaDoorFragG
import Derived.Test.YtnbalamacpcanaaDoorFragF
import Derived.Test.YtnbalamacpcanaaDoorFragQ
import Derived.Test.YtnbalamacpcanaaDoorFrgM
open Go.RowKit Go.Shelf
namespace Go.Proofs.YtnbalamacpcanaaDoor
open Go Go.Proofs Fm

theorem eqF_refl (l : List It) : eqF l l = true := eqF_iff.2 rfl

set_option maxRecDepth 100000 in
set_option maxHeartbeats 16000000 in
theorem fragTells_any (w : World) (l : List It) (v : Value) (hv : itE.Row w l v) (m : List It) (u : Value) (hu : itE.Row w m u) (s : List UInt8) (hs : s.length ≤ 9223372036854775807) (vb : Value) (be : List UInt8) (hb : Bytes w vb be) :
    Calls Tryd.prog 9 #[v, u, .string (str s), vb] w fun e w' => e = .returned (.bool true) ∧ Ext w w' := by
  have HV := Lib.hid hv
  have HU := Lib.hid hu
  have HB := Lib.hid hb
  have hss := str_size s
  obtain ⟨al, cl, rfl, -⟩ := hv.slice
  obtain ⟨am, cm, rfl, -⟩ := hu.slice
  obtain ⟨ab, cb, rfl, hcb, -⟩ := id hb
  have hlb := hb.length_le
  clear hv hu hb
  go_enter Tryd.func9, Tryd.ntmps9
  go_wp2_with fail
  refine (few09_any l w _ HV.out).mono ?_
  rintro e w1 ⟨rfl, hE1⟩
  have HE1 := Lib.hid hE1
  clear hE1
  cases hf : fewF l with
  | false =>
    clear hf
    go_wp2_with fail
    refine (awake09 _).mono ?_
    rintro e wz ⟨rfl, hEz⟩
    have HEz := Lib.hid (HE1.out.trans hEz)
    clear hEz
    go_wp2
    go_ret
    exact ⟨rfl, HEz.out⟩
  | true =>
  clear hf
  go_wp2_with fail
  refine (few09_any m w1 _ (HU.out.ext HE1.out)).mono ?_
  rintro e w2 ⟨rfl, hE2⟩
  have HE2 := Lib.hid (HE1.out.trans hE2)
  clear hE2
  cases hf : fewF m with
  | false =>
    clear hf
    go_wp2_with fail
    refine (awake09 _).mono ?_
    rintro e wz ⟨rfl, hEz⟩
    have HEz := Lib.hid (HE2.out.trans hEz)
    clear hEz
    go_wp2
    go_ret
    exact ⟨rfl, HEz.out⟩
  | true =>
  clear hf HE1
  by_cases hS4 : 100 < s.length
  case pos =>
    have hS4' : (100 : Int) < (s.length : Int) := by omega
    go_wp2_with fail
    refine (awake09 _).mono ?_
    rintro e wz ⟨rfl, hEz⟩
    have HEz := Lib.hid (HE2.out.trans hEz)
    clear hEz
    go_wp2
    go_ret
    exact ⟨rfl, HEz.out⟩
  have hS4' : ¬ (100 : Int) < (s.length : Int) := by omega
  by_cases hB4 : 1500 < be.length
  case pos =>
    have hB4' : (1500 : Int) < (be.length : Int) := by omega
    go_wp2_with fail
    refine (awake09 _).mono ?_
    rintro e wz ⟨rfl, hEz⟩
    have HEz := Lib.hid (HE2.out.trans hEz)
    clear hEz
    go_wp2
    go_ret
    exact ⟨rfl, HEz.out⟩
  have hB4' : ¬ (1500 : Int) < (be.length : Int) := by omega
  go_wp2_with fail
  refine (rfright_any l w2 _ (HV.out.ext HE2.out)).mono ?_
  rintro e w3 ⟨rfl, hE3⟩
  have HE3 := Lib.hid (HE2.out.trans hE3)
  clear hE3 HE2 hS4' hB4'
  go_wp2_with fail
  refine (fbytes_any l w3 _ (HV.out.ext HE3.out)).mono ?_
  rintro e w4 ⟨ax, mx, cx, nx, rfl, hE4, hno, hyes⟩
  have HE4 := Lib.hid (HE3.out.trans hE4)
  clear hE4 HE3
  go_wp2_with fail
  refine (name_any s hs w4).mono ?_
  rintro e w5 ⟨rfl, hE5⟩
  have HE5 := Lib.hid (HE4.out.trans hE5)
  have HE45 := Lib.hid hE5
  clear hE5 HE4
  go_wp2_with fail
  refine (rname_any s hs w5).mono ?_
  rintro e w6 ⟨rfl, rfl⟩
  generalize nameB s = qn
  go_wp2_with fail
  refine (fright_any l w5 _ (HV.out.ext HE5.out)).mono ?_
  rintro e w7 ⟨rfl, hE7⟩
  have HE7 := Lib.hid (HE5.out.trans hE7)
  have HE47 := Lib.hid (HE45.out.trans hE7)
  clear hE7 HE5 HE45
  cases hr : fragB l with
  | false =>
    obtain ⟨rfl, rfl⟩ := hno hr
    clear hno hyes hr HE47
    go_wp2_with fail
    refine (fSame_any l m w7 _ _ (HV.out.ext HE7.out) (HU.out.ext HE7.out)).mono ?_
    rintro e w8 ⟨rfl, hE8⟩
    have HE8 := Lib.hid (HE7.out.trans hE8)
    have HE78 := Lib.hid hE8
    clear hE8
    go_wp2_with fail
    refine (rfSame_any l m w8 _ _ (HV.out.ext HE8.out) (HU.out.ext HE8.out)).mono ?_
    rintro e w9 ⟨rfl, hE9⟩
    have HE9 := Lib.hid (HE8.out.trans hE9)
    have HE79 := Lib.hid (HE78.out.trans hE9)
    clear hE9 HE8 HE78 HE7
    generalize eqF l m = qe
    go_wp2_with fail
    refine (ftake_any _ be w9 (HB.out.ext HE9.out)).mono ?_
    rintro e wB ⟨aB, mB, cB, ar, mr, cr, f4, lB, rfl, hEB, hOB, hno, hyes⟩
    have HEB := Lib.hid (HE9.out.trans hEB)
    have HOB := Lib.hid hOB
    have HB9 := Lib.hid hEB
    clear hEB hOB HE9
    go_wp2_with fail
    refine (rtake9_any _ be wB (HB.out.ext HEB.out)).mono ?_
    rintro e wC ⟨aC, mC, cC, lC, K, rfl, hEC, hOC, hno2, hyes2⟩
    have HEC := Lib.hid (HEB.out.trans hEC)
    have HRB := Lib.hid (HOB.out.row.ext hEC)
    have HRC := Lib.hid hOC.row
    have HB9C := Lib.hid (HB9.out.trans hEC)
    clear hEC hOC HEB HOB HB9
    obtain ⟨T, hT⟩ : ∃ T, T = takeF be := ⟨_, rfl⟩
    cases T with
    | none =>
      obtain ⟨e1, rfl, rfl⟩ := hno hT.symm
      obtain ⟨e2, rfl⟩ := hno2 hT.symm
      have HX1 : Hid (itE.Row wC [] (.slice aB mB cB)) := Lib.hid (by rw [← e1]; exact HRB.out)
      have HX2 : Hid (itE.Row wC [] (.slice aC mC cC)) := Lib.hid (by rw [← e2]; exact HRC.out)
      have HN := Lib.hid hT.symm
      clear hno hyes hno2 hyes2 e1 e2 hT HRB HRC
      go_wp2_with fail
      refine (rfSame_any [] [] wC _ _ HX1.out HX2.out).mono ?_
      rw [eqF_refl]
      rintro e wD ⟨rfl, hED⟩
      have HED := Lib.hid (HEC.out.trans hED)
      clear hED
      go_wp2_with fail
      refine (fparse_any _ be wD (HB.out.ext HED.out)).mono ?_
      rintro e wE ⟨aE, mE, cE, g, lE, rfl, hEE, hOE, hpno, hpyes⟩
      obtain ⟨rfl, rfl⟩ := hpno (fun l' h => by rw [HN.out] at h; cases h)
      obtain rfl : mE = 0 := by
        obtain ⟨a', c', e', -⟩ := hOE.row.slice
        injection e'
      have HEE := Lib.hid (HED.out.trans hEE)
      clear hEE hOE hpno hpyes
      go_wp2_with fail
      refine (awake09 _).mono ?_
      rintro e wz ⟨rfl, hEz⟩
      have HEz := Lib.hid (HEE.out.trans hEz)
      clear hEz
      go_wp2
      go_ret
      exact ⟨rfl, HEz.out⟩
    | some p =>
      obtain ⟨l', r⟩ := p
      obtain ⟨e1, rfl, hrb⟩ := hyes l' r hT.symm
      obtain ⟨e2, hK0, hKl, hrd⟩ := hyes2 l' r hT.symm
      have HX1 : Hid (itE.Row wC l' (.slice aB mB cB)) := Lib.hid (by rw [← e1]; exact HRB.out)
      have HX2 : Hid (itE.Row wC l' (.slice aC mC cC)) := Lib.hid (by rw [← e2]; exact HRC.out)
      have HN := Lib.hid hT.symm
      have HRS := Lib.hid (hrb.ext HB9C.out)
      have HRD := Lib.hid hrd
      have hK0i : (0 : Int) < (K : Int) := by omega
      have hsk := fun w' => slice_from ab be.length cb (K : Int) (by omega) (by omega) w'
      rw [Int.toNat_natCast] at hsk
      clear hno hyes hno2 hyes2 e1 e2 hT HRB HRC hrb hrd HB9C
      go_wp2_with fail
      refine (rfSame_any l' l' wC _ _ HX1.out HX2.out).mono ?_
      rw [eqF_refl]
      rintro e wD ⟨rfl, hED⟩
      have HED := Lib.hid (HEC.out.trans hED)
      have HCD := Lib.hid hED
      clear hED
      go_wp2_with fail
      refine (same_any _ _ r (be.drop K) wD (HRS.out.ext HCD.out) ((HB.out.ext HED.out).drop hKl)).mono ?_
      rw [decide_eq_true HRD.out]
      rintro e wD' ⟨rfl, rfl⟩
      go_wp2_with fail
      clear hsk
      refine (fparse_any _ be wD (HB.out.ext HED.out)).mono ?_
      rintro e wE ⟨aE, mE, cE, g, lE, rfl, hEE, hOE, hpno, hpyes⟩
      have HEE := Lib.hid (HED.out.trans hEE)
      cases r with
      | nil =>
        obtain ⟨e1, rfl⟩ := hpyes l' HN.out
        have HX3 : Hid (itE.Row wE l' (.slice aE mE cE)) := Lib.hid (by rw [← e1]; exact hOE.row)
        have HX4 : Hid (itE.Row wE l' (.slice aC mC cC)) := Lib.hid (HX2.out.ext (HCD.out.trans hEE))
        have hKe : ((K : Int) == (be.length : Int)) = true := by
          have := congrArg List.length HRD.out
          rw [List.length_drop, List.length_nil] at this
          simp; omega
        clear hEE hOE hpno hpyes e1 HX1 HX2 HCD hKl
        go_wp2_with fail
        refine (rfSame_any l' l' wE _ _ HX3.out HX4.out).mono ?_
        rw [eqF_refl]
        rintro e wF ⟨rfl, hEF⟩
        have HEF := Lib.hid (HEE.out.trans hEF)
        clear hEF
        go_wp2_with fail
        refine (awake09 _).mono ?_
        rintro e wz ⟨rfl, hEz⟩
        have HEz := Lib.hid (HEF.out.trans hEz)
        clear hEz
        go_wp2
        go_ret
        exact ⟨rfl, HEz.out⟩
      | cons y ys =>
        obtain ⟨rfl, rfl⟩ := hpno (fun l'' h => by rw [HN.out] at h; cases h)
        obtain rfl : mE = 0 := by
          obtain ⟨a', c', e', -⟩ := hOE.row.slice
          injection e'
        have hKe : ((K : Int) == (be.length : Int)) = false := by
          have := congrArg List.length HRD.out
          rw [List.length_drop, List.length_cons] at this
          simp; omega
        clear hEE hOE hpno hpyes HX1 HX2 HCD hKl
        go_wp2_with fail
        refine (awake09 _).mono ?_
        rintro e wz ⟨rfl, hEz⟩
        have HEz := Lib.hid (HEE.out.trans hEz)
        clear hEz
        go_wp2
        go_ret
        exact ⟨rfl, HEz.out⟩
  | true =>
    obtain ⟨rfl, hox⟩ := hyes hr
    have hbx := hox.bytes
    obtain ⟨ax', cx', e1, -⟩ := id hbx
    injection e1 with ea eb ec
    subst ea eb ec
    have HX := Lib.hid (hbx.ext HE47.out)
    have HRt := Lib.hid hr
    clear hno hyes hr HE47 hox hbx
    go_wp2_with fail
    refine (fSame_any l m w7 _ _ (HV.out.ext HE7.out) (HU.out.ext HE7.out)).mono ?_
    rintro e w8 ⟨rfl, hE8⟩
    have HE8 := Lib.hid (HE7.out.trans hE8)
    have HE78 := Lib.hid hE8
    clear hE8
    go_wp2_with fail
    refine (rfSame_any l m w8 _ _ (HV.out.ext HE8.out) (HU.out.ext HE8.out)).mono ?_
    rintro e w9 ⟨rfl, hE9⟩
    have HE9 := Lib.hid (HE8.out.trans hE9)
    have HE79 := Lib.hid (HE78.out.trans hE9)
    clear hE9 HE8 HE78 HE7
    generalize eqF l m = qe
    go_wp2_with fail
    refine (rfbytes_any l w9 _ (HV.out.ext HE9.out) (by have := fragBy_le HRt.out; omega)).mono ?_
    rintro e wA ⟨vA, rfl, hoA⟩
    have HEA := Lib.hid (HE9.out.trans hoA.2)
    have HXA := Lib.hid ((HX.out.ext HE79.out).ext hoA.2)
    have hbA := hoA.bytes
    obtain ⟨aA, cA, rfl, -⟩ := id hbA
    have HBA := Lib.hid hbA
    clear hoA hbA
    go_wp2_with fail
    refine (same_any _ _ _ _ wA HXA.out HBA.out).mono ?_
    rw [decide_eq_true (show fragBy l = fragBy l from rfl)]
    rintro e w9' ⟨rfl, rfl⟩
    clear HE9 HX HXA HBA HE79 HRt
    have HE9 := HEA
    clear HEA
    obtain ⟨w9, hw9⟩ : ∃ w9, w9 = wA := ⟨_, rfl⟩
    subst hw9
    go_wp2_with fail
    refine (ftake_any _ be w9 (HB.out.ext HE9.out)).mono ?_
    rintro e wB ⟨aB, mB, cB, ar, mr, cr, f4, lB, rfl, hEB, hOB, hno, hyes⟩
    have HEB := Lib.hid (HE9.out.trans hEB)
    have HOB := Lib.hid hOB
    have HB9 := Lib.hid hEB
    clear hEB hOB HE9
    go_wp2_with fail
    refine (rtake9_any _ be wB (HB.out.ext HEB.out)).mono ?_
    rintro e wC ⟨aC, mC, cC, lC, K, rfl, hEC, hOC, hno2, hyes2⟩
    have HEC := Lib.hid (HEB.out.trans hEC)
    have HRB := Lib.hid (HOB.out.row.ext hEC)
    have HRC := Lib.hid hOC.row
    have HB9C := Lib.hid (HB9.out.trans hEC)
    clear hEC hOC HEB HOB HB9
    obtain ⟨T, hT⟩ : ∃ T, T = takeF be := ⟨_, rfl⟩
    cases T with
    | none =>
      obtain ⟨e1, rfl, rfl⟩ := hno hT.symm
      obtain ⟨e2, rfl⟩ := hno2 hT.symm
      have HX1 : Hid (itE.Row wC [] (.slice aB mB cB)) := Lib.hid (by rw [← e1]; exact HRB.out)
      have HX2 : Hid (itE.Row wC [] (.slice aC mC cC)) := Lib.hid (by rw [← e2]; exact HRC.out)
      have HN := Lib.hid hT.symm
      clear hno hyes hno2 hyes2 e1 e2 hT HRB HRC
      go_wp2_with fail
      refine (rfSame_any [] [] wC _ _ HX1.out HX2.out).mono ?_
      rw [eqF_refl]
      rintro e wD ⟨rfl, hED⟩
      have HED := Lib.hid (HEC.out.trans hED)
      clear hED
      go_wp2_with fail
      refine (fparse_any _ be wD (HB.out.ext HED.out)).mono ?_
      rintro e wE ⟨aE, mE, cE, g, lE, rfl, hEE, hOE, hpno, hpyes⟩
      obtain ⟨rfl, rfl⟩ := hpno (fun l' h => by rw [HN.out] at h; cases h)
      obtain rfl : mE = 0 := by
        obtain ⟨a', c', e', -⟩ := hOE.row.slice
        injection e'
      have HEE := Lib.hid (HED.out.trans hEE)
      clear hEE hOE hpno hpyes
      go_wp2_with fail
      refine (awake09 _).mono ?_
      rintro e wz ⟨rfl, hEz⟩
      have HEz := Lib.hid (HEE.out.trans hEz)
      clear hEz
      go_wp2
      go_ret
      exact ⟨rfl, HEz.out⟩
    | some p =>
      obtain ⟨l', r⟩ := p
      obtain ⟨e1, rfl, hrb⟩ := hyes l' r hT.symm
      obtain ⟨e2, hK0, hKl, hrd⟩ := hyes2 l' r hT.symm
      have HX1 : Hid (itE.Row wC l' (.slice aB mB cB)) := Lib.hid (by rw [← e1]; exact HRB.out)
      have HX2 : Hid (itE.Row wC l' (.slice aC mC cC)) := Lib.hid (by rw [← e2]; exact HRC.out)
      have HN := Lib.hid hT.symm
      have HRS := Lib.hid (hrb.ext HB9C.out)
      have HRD := Lib.hid hrd
      have hK0i : (0 : Int) < (K : Int) := by omega
      have hsk := fun w' => slice_from ab be.length cb (K : Int) (by omega) (by omega) w'
      rw [Int.toNat_natCast] at hsk
      clear hno hyes hno2 hyes2 e1 e2 hT HRB HRC hrb hrd HB9C
      go_wp2_with fail
      refine (rfSame_any l' l' wC _ _ HX1.out HX2.out).mono ?_
      rw [eqF_refl]
      rintro e wD ⟨rfl, hED⟩
      have HED := Lib.hid (HEC.out.trans hED)
      have HCD := Lib.hid hED
      clear hED
      go_wp2_with fail
      refine (same_any _ _ r (be.drop K) wD (HRS.out.ext HCD.out) ((HB.out.ext HED.out).drop hKl)).mono ?_
      rw [decide_eq_true HRD.out]
      rintro e wD' ⟨rfl, rfl⟩
      go_wp2_with fail
      clear hsk
      refine (fparse_any _ be wD (HB.out.ext HED.out)).mono ?_
      rintro e wE ⟨aE, mE, cE, g, lE, rfl, hEE, hOE, hpno, hpyes⟩
      have HEE := Lib.hid (HED.out.trans hEE)
      cases r with
      | nil =>
        obtain ⟨e1, rfl⟩ := hpyes l' HN.out
        have HX3 : Hid (itE.Row wE l' (.slice aE mE cE)) := Lib.hid (by rw [← e1]; exact hOE.row)
        have HX4 : Hid (itE.Row wE l' (.slice aC mC cC)) := Lib.hid (HX2.out.ext (HCD.out.trans hEE))
        have hKe : ((K : Int) == (be.length : Int)) = true := by
          have := congrArg List.length HRD.out
          rw [List.length_drop, List.length_nil] at this
          simp; omega
        clear hEE hOE hpno hpyes e1 HX1 HX2 HCD hKl
        go_wp2_with fail
        refine (rfSame_any l' l' wE _ _ HX3.out HX4.out).mono ?_
        rw [eqF_refl]
        rintro e wF ⟨rfl, hEF⟩
        have HEF := Lib.hid (HEE.out.trans hEF)
        clear hEF
        go_wp2_with fail
        refine (awake09 _).mono ?_
        rintro e wz ⟨rfl, hEz⟩
        have HEz := Lib.hid (HEF.out.trans hEz)
        clear hEz
        go_wp2
        go_ret
        exact ⟨rfl, HEz.out⟩
      | cons y ys =>
        obtain ⟨rfl, rfl⟩ := hpno (fun l'' h => by rw [HN.out] at h; cases h)
        obtain rfl : mE = 0 := by
          obtain ⟨a', c', e', -⟩ := hOE.row.slice
          injection e'
        have hKe : ((K : Int) == (be.length : Int)) = false := by
          have := congrArg List.length HRD.out
          rw [List.length_drop, List.length_cons] at this
          simp; omega
        clear hEE hOE hpno hpyes HX1 HX2 HCD hKl
        go_wp2_with fail
        refine (awake09 _).mono ?_
        rintro e wz ⟨rfl, hEz⟩
        have HEz := Lib.hid (HEE.out.trans hEz)
        clear hEz
        go_wp2
        go_ret
        exact ⟨rfl, HEz.out⟩
end Go.Proofs.YtnbalamacpcanaaDoor
