/- OpIDs answers true at every input. -/
import Derived.Test.YtoaomhcffofapaaDoorOpF
open Go.RowKit Go.Shelf
namespace Go.Proofs.YtoaomhcffofapaaDoor
open Go Go.Proofs Fm

theorem extract_strO (s : List UInt8) (a b : Nat) : (str s).extract a b = str ((s.take b).drop a) := by
  unfold str
  rw [ByteArray.extract_mk]
  congr 1
  apply Array.ext'
  simp
  rw [List.drop_take]
theorem slice_oneO {P : Program} {t : TypeId} (ht : P.underlying t = some .string) (s : List UInt8) (k : Nat) (hk : k < s.length) (w : World) :
    (Instr.slice t (.string (str s)) (some (.int .i64 (k : Int))) (some (.int .i64 ((k : Int) + 1))) none).run P w = .ok (.string (str [s[k]])) w := by
  rw [run_slice_string w t (str s) .i64 .i64 (k : Int) ((k : Int) + 1) ht (by omega) (by omega) (by rw [str_size]; omega)]
  have e : (str s).extract (k : Int).toNat ((k : Int) + 1).toNat = str [s[k]] := by
    rw [extract_strO, show ((k : Int) + 1).toNat = k + 1 by omega, Int.toNat_natCast, List.take_add_one, List.getElem?_eq_getElem hk, List.drop_append_of_le_length (by simp; omega)]
    simp
  rw [e]
theorem idB_one (c : UInt8) : idB [c] = idC c := by unfold idB; simp
theorem idC_high {c : UInt8} (h : ¬ c.toNat < 128) : idC c = false := by unfold idC; simp; omega
theorem exO_id (k : UInt8) (h1 : oF k = false) (h2 : oQ k = false) (h3 : oI k = true) (h4 : oT k = false) (h5 : oV k = false) (h6 : oK k = true) (s : List UInt8) : rightO (exO k 0 0 s) = idB s := by
  unfold rightO exO
  simp only [h1, h2, h3, h4, h5, h6, cond_true, cond_false, List.length_nil, decide_true, Bool.true_and, Bool.and_true]
  rw [eqT_iff.2 rfl, Bool.and_true]

set_option maxRecDepth 100000 in
set_option maxHeartbeats 8000000 in
theorem opIDs_any (w : World) (s : List UInt8) (hs : s.length ≤ 9223372036854775807) (hT : KTab w) :
    Calls Tryd.prog 6 #[.string (str s)] w fun e w' => e = .returned (.bool true) ∧ Ext w w' := by
  have hss := str_size s
  have HT := Lib.hid hT
  clear hT
  by_cases h5 : 500 < s.length
  case pos =>
    have h5' : (500 : Int) < (s.length : Int) := by omega
    go_enter Tryd.func6, Tryd.ntmps6
    go_wp2_with fail
    refine (awake10 w HT.out).mono ?_
    rintro e wz ⟨rfl, hEz⟩
    have HEz := Lib.hid hEz
    clear hEz
    go_wp2
    go_ret
    exact ⟨rfl, HEz.out⟩
  have h5' : ¬ (500 : Int) < (s.length : Int) := by omega
  obtain ⟨L, hL⟩ : ∃ L, L = (decide (1 ≤ s.length) && decide (s.length ≤ 400)) := ⟨_, rfl⟩
  have HL := Lib.hid hL
  have hL2 : (decide ((1 : Int) ≤ (s.length : Int)) && decide ((s.length : Int) ≤ 400)) = L := by
    rw [hL]
    congr 1 <;> (rw [decide_eq_decide]; omega)
  have HL2 := Lib.hid hL2
  have HNB : Hid (idB s = (L && s.all idC)) := Lib.hid (by rw [hL]; unfold idB; cases decide (1 ≤ s.length) <;> cases decide (s.length ≤ 400) <;> cases s.all idC <;> rfl)
  clear hL hL2
  go_enter Tryd.func6, Tryd.ntmps6
  by_cases hA : 1 ≤ s.length
  case' pos =>
    have hA' : (1 : Int) ≤ (s.length : Int) := by omega
    have hq : Hid (L = decide ((s.length : Int) ≤ 400)) := Lib.hid (by rw [← HL2.out, decide_eq_true hA', Bool.true_and])
  case' neg =>
    have hA' : ¬ (1 : Int) ≤ (s.length : Int) := by omega
    have hq : Hid (L = false) := Lib.hid (by rw [← HL2.out, decide_eq_false hA', Bool.false_and])
  all_goals
    clear hA
    go_wp2_with fail
    clear hA'
    go_loopw [3, 19] (fun ev i wr => ∃ k : Nat, k ≤ s.length ∧ i = .int .i64 k ∧ ∃ eb : Bool, ev = .bool eb ∧ Hid (eb = (L && (s.take k).all idC)) ∧ Ext w wr) (fun _ i _ => s.length - (intOf i).toNat)
    case atStart => exact ⟨0, by omega, rfl, _, rfl, Lib.hid (by rw [hq.out]; simp), Ext.refl w⟩
    case round =>
      obtain ⟨k, hk, rfl, eb, rfl, HB, hE⟩ := hrel
      by_cases hlk : k < s.length
      · cases eb with
        | false =>
          have HB2 : Hid (false = (L && (s.take (k + 1)).all idC)) := Lib.hid (by
            rw [List.take_add_one, List.all_append, ← Bool.and_assoc, ← HB.out]; rfl)
          go_wp2
          go_roundw
          case rel => exact ⟨k + 1, by omega, by go_num, false, rfl, HB2, hE⟩
          case measure => simp [intOf]; omega
        | true =>
          have hsl := slice_oneO (P := Tryd.prog) Tryd.underlying9 s k hlk
          have hix := run_index_str (P := Tryd.prog) Tryd.underlying9 s k hlk
          have hgx : s[k]?.getD 0 = s[k] := by simp [hlk]
          rw [hgx] at hix
          have HB2 : Hid (idC s[k] = (L && (s.take (k + 1)).all idC)) := Lib.hid (by
            rw [List.take_add_one, List.getElem?_eq_getElem hlk, List.all_append, ← Bool.and_assoc, ← HB.out]
            simp)
          clear hgx
          generalize s[k] = ck at *
          by_cases h128 : ck.toNat < 128
          · have h128' : (ck.toNat : Int) < 128 := by omega
            go_wp2_with fail
            refine (opID_any [ck] (by simp) wr).mono ?_
            rw [idB_one]
            rintro e w1 ⟨rfl, hE1⟩
            have hE2 := hE.trans hE1
            clear hsl hE1 hix
            generalize idC ck = lb at *
            go_wp2
            go_roundw
            case rel => exact ⟨k + 1, by omega, by go_num, lb, rfl, HB2, hE2⟩
            case measure => simp [intOf]; omega
          · have h128' : ¬ (ck.toNat : Int) < 128 := by omega
            have HB3 : Hid (false = (L && (s.take (k + 1)).all idC)) := Lib.hid (by rw [← HB2.out, idC_high h128])
            clear HB2 hsl
            go_wp2
            go_roundw
            case rel => exact ⟨k + 1, by omega, by go_num, false, rfl, HB3, hE⟩
            case measure => simp [intOf]; omega
      · have hks : k = s.length := by omega
        have HB2 : Hid (eb = idB s) := Lib.hid (by rw [HB.out, HNB.out, hks, List.take_length])
        clear hks HB
        have HE := Lib.hid hE
        clear hE
        go_wp2_with fail
        clear hlk
        refine (opID_any s hs wr).mono ?_
        rw [← HB2.out]
        rintro e w1 ⟨rfl, hE1⟩
        have HE1 := Lib.hid (HE.out.trans hE1)
        clear hE1
        go_wp2_with fail
        refine (opRight_any (exO 5 0 0 s) w1 _ (exO_v w1 5 0 0 s (by unfold isI64; omega) (by unfold isI64; omega) (by omega)) (HT.out.ext HE1.out)).mono ?_
        rw [exO_id 5 (by decide) (by decide) (by decide) (by decide) (by decide) (by decide) s, ← HB2.out]
        rintro e w2 ⟨rfl, hE2⟩
        have HE2 := Lib.hid (HE1.out.trans hE2)
        clear hE2
        go_wp2_with fail
        refine (opRight_any (exO 2 0 0 s) w2 _ (exO_v w2 2 0 0 s (by unfold isI64; omega) (by unfold isI64; omega) (by omega)) (HT.out.ext HE2.out)).mono ?_
        rw [exO_id 2 (by decide) (by decide) (by decide) (by decide) (by decide) (by decide) s, ← HB2.out]
        rintro e w3 ⟨rfl, hE3⟩
        have HE3 := Lib.hid (HE2.out.trans hE3)
        clear hE3
        go_wp2_with fail
        refine (awake10 w3 (HT.out.ext HE3.out)).mono ?_
        rintro e wz ⟨rfl, hEz⟩
        have HEz := Lib.hid (HE3.out.trans hEz)
        clear hEz
        go_wp2
        go_ret
        exact ⟨rfl, HEz.out⟩
end Go.Proofs.YtoaomhcffofapaaDoor
