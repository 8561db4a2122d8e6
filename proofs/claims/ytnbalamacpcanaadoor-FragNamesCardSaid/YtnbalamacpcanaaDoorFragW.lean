/- FragNames answers true at every input. -/
import Derived.Test.YtnbalamacpcanaaDoorFragV
open Go.RowKit Go.Shelf
namespace Go.Proofs.YtnbalamacpcanaaDoor
open Go Go.Proofs Fm

theorem extract_str (s : List UInt8) (a b : Nat) : (str s).extract a b = str ((s.take b).drop a) := by
  unfold str
  rw [ByteArray.extract_mk]
  congr 1
  apply Array.ext'
  simp
  rw [List.drop_take]
theorem slice_one {P : Program} {t : TypeId} (ht : P.underlying t = some .string) (s : List UInt8) (k : Nat) (hk : k < s.length) (w : World) :
    (Instr.slice t (.string (str s)) (some (.int .i64 (k : Int))) (some (.int .i64 ((k : Int) + 1))) none).run P w = .ok (.string (str [s[k]])) w := by
  rw [run_slice_string w t (str s) .i64 .i64 (k : Int) ((k : Int) + 1) ht (by omega) (by omega) (by rw [str_size]; omega)]
  have e : (str s).extract (k : Int).toNat ((k : Int) + 1).toNat = str [s[k]] := by
    rw [extract_str, show ((k : Int) + 1).toNat = k + 1 by omega, Int.toNat_natCast, List.take_add_one, List.getElem?_eq_getElem hk, List.drop_append_of_le_length (by simp; omega)]
    simp
  rw [e]
theorem name_one (c : UInt8) : nameB [c] = letB c := by unfold nameB; simp
theorem two_names {s t : List UInt8} (hs : nameB s = true) (ht : nameB t = true) : fragB [⟨s, 0, [t], [], 0, 0⟩] = true := by
  rw [fragB_iff]
  refine ⟨?_, by simp⟩
  rw [List.all_cons, List.all_nil, Bool.and_true, itB_iff]
  exact ⟨hs, by simp, by simp, by simp, by simp [ht], .inl ⟨rfl, rfl, rfl⟩⟩
theorem two_names_by {s t : List UInt8} (hs : nameB s = true) (ht : nameB t = true) : decide (fragBy [⟨s, 0, [t], [], 0, 0⟩] = fragBy [⟨t, 0, [s], [], 0, 0⟩]) = decide (s = t) := by
  rw [decide_eq_decide]
  constructor
  · intro h
    have := (fragBy_inj (two_names hs ht) (two_names ht hs) (r := []) (s := []) (by rw [h])).1
    injection this with h1 _
    injection h1 with h1
  · rintro rfl; rfl

set_option maxRecDepth 100000 in
set_option maxHeartbeats 8000000 in
theorem fragNames_any (w : World) (s : List UInt8) (hls : s.length ≤ 9223372036854775807) (t : List UInt8) (hlt : t.length ≤ 9223372036854775807) :
    Calls Tryd.prog 13 #[.string (str s), .string (str t)] w fun e w' => e = .returned (.bool true) ∧ Ext w w' := by
  have hss := str_size s
  have hst := str_size t
  by_cases h100 : 100 < s.length
  case pos =>
    have h100' : (100 : Int) < (s.length : Int) := by omega
    clear h100
    go_enter Tryd.func13, Tryd.ntmps13
    go_wp2_with fail
    refine (awake09 _).mono ?_
    rintro e wz ⟨rfl, hEz⟩
    have HEz := Lib.hid ((Ext.refl w).trans hEz)
    clear hEz
    go_wp2
    go_ret
    exact ⟨rfl, HEz.out⟩
  have h100' : ¬ (100 : Int) < (s.length : Int) := by omega
  by_cases h200 : 100 < t.length
  case pos =>
    have h200' : (100 : Int) < (t.length : Int) := by omega
    clear h200
    go_enter Tryd.func13, Tryd.ntmps13
    go_wp2_with fail
    refine (awake09 _).mono ?_
    rintro e wz ⟨rfl, hEz⟩
    have HEz := Lib.hid ((Ext.refl w).trans hEz)
    clear hEz
    go_wp2
    go_ret
    exact ⟨rfl, HEz.out⟩
  have h200' : ¬ (100 : Int) < (t.length : Int) := by omega
  obtain ⟨L, hL⟩ : ∃ L, L = (decide (1 ≤ s.length) && decide (s.length ≤ 20)) := ⟨_, rfl⟩
  have HL := Lib.hid hL
  have hL2 : (decide ((1 : Int) ≤ (s.length : Int)) && decide ((s.length : Int) ≤ 20)) = L := by
    rw [hL]
    congr 1 <;> (rw [decide_eq_decide]; omega)
  have HL2 := Lib.hid hL2
  have HNB : Hid (nameB s = (L && s.all letB)) := Lib.hid (by rw [hL]; unfold nameB; cases decide (1 ≤ s.length) <;> cases decide (s.length ≤ 20) <;> cases s.all letB <;> rfl)
  clear hL hL2
  go_enter Tryd.func13, Tryd.ntmps13
  by_cases hA : 1 ≤ s.length
  case' pos =>
    have hA' : (1 : Int) ≤ (s.length : Int) := by omega
    have hq : Hid (L = decide ((s.length : Int) ≤ 20)) := Lib.hid (by rw [← HL2.out, decide_eq_true hA', Bool.true_and])
  case' neg =>
    have hA' : ¬ (1 : Int) ≤ (s.length : Int) := by omega
    have hq : Hid (L = false) := Lib.hid (by rw [← HL2.out, decide_eq_false hA', Bool.false_and])
  all_goals
    clear hA
    go_wp2_with fail
    clear hA'
    go_loopw [5, 32] (fun ev i wr => ∃ k : Nat, k ≤ s.length ∧ i = .int .i64 k ∧ ∃ eb : Bool, ev = .bool eb ∧ Hid (eb = (L && (s.take k).all letB)) ∧ Ext w wr) (fun _ i _ => s.length - (intOf i).toNat)
    case atStart => exact ⟨0, by omega, rfl, _, rfl, Lib.hid (by rw [hq.out]; simp), Ext.refl w⟩
    case round =>
      obtain ⟨k, hk, rfl, eb, rfl, HB, hE⟩ := hrel
      by_cases hlk : k < s.length
      · cases eb with
        | false =>
          have HB2 : Hid (false = (L && (s.take (k + 1)).all letB)) := Lib.hid (by
            rw [List.take_add_one, List.all_append, ← Bool.and_assoc, ← HB.out]; rfl)
          go_wp2
          go_roundw
          case rel => exact ⟨k + 1, by omega, by go_num, false, rfl, HB2, hE⟩
          case measure => simp [intOf]; omega
        | true =>
          have hsl := slice_one (P := Tryd.prog) Tryd.underlying9 s k hlk
          have HB2 : Hid (letB s[k] = (L && (s.take (k + 1)).all letB)) := Lib.hid (by
            rw [List.take_add_one, List.getElem?_eq_getElem hlk, List.all_append, ← Bool.and_assoc, ← HB.out]
            simp)
          generalize s[k] = ck at *
          go_wp2_with fail
          refine (name_any [ck] (by simp) wr).mono ?_
          rw [name_one]
          rintro e w1 ⟨rfl, hE1⟩
          have hE2 := hE.trans hE1
          clear hsl hE1
          generalize letB ck = lb at *
          go_wp2
          go_roundw
          case rel => exact ⟨k + 1, by omega, by go_num, lb, rfl, HB2, hE2⟩
          case measure => simp [intOf]; omega
      · have hks : k = s.length := by omega
        have HB2 : Hid (eb = nameB s) := Lib.hid (by rw [HB.out, HNB.out, hks, List.take_length])
        clear hks HB
        have HE := Lib.hid hE
        clear hE
        go_wp2_with fail
        clear hlk
        refine (name_any s hls wr).mono ?_
        rw [← HB2.out]
        rintro e w1 ⟨rfl, hE1⟩
        have HE1 := Lib.hid (HE.out.trans hE1)
        clear hE1 HE
        cases eb with
        | false =>
          go_wp2_with fail
          refine (name_any s hls w1).mono ?_
          rw [← HB2.out]
          rintro e w2 ⟨rfl, hE2⟩
          have HE2 := Lib.hid (HE1.out.trans hE2)
          clear hE2
          go_wp2_with fail
          refine (awake09 _).mono ?_
          rintro e wz ⟨rfl, hEz⟩
          have HEz := Lib.hid (HE2.out.trans hEz)
          clear hEz
          go_wp2
          go_ret
          exact ⟨rfl, HEz.out⟩
        | true =>
          go_wp2_with fail
          refine (name_any s hls w1).mono ?_
          rw [← HB2.out]
          rintro e w2 ⟨rfl, hE2⟩
          have HE2 := Lib.hid (HE1.out.trans hE2)
          clear hE2
          go_wp2_with fail
          refine (name_any t hlt w2).mono ?_
          cases hnt : nameB t with
          | false =>
            rintro e w3 ⟨rfl, hE3⟩
            have HE3 := Lib.hid (HE2.out.trans hE3)
            clear hE3 hnt
            go_wp2_with fail
            refine (awake09 _).mono ?_
            rintro e wz ⟨rfl, hEz⟩
            have HEz := Lib.hid (HE3.out.trans hEz)
            clear hEz
            go_wp2
            go_ret
            exact ⟨rfl, HEz.out⟩
          | true =>
            rintro e w3 ⟨rfl, hE3⟩
            have HE3 := Lib.hid (HE2.out.trans hE3)
            have HNT := Lib.hid hnt
            have HNS : Hid (nameB s = true) := Lib.hid HB2.out.symm
            clear hE3 hnt
            go_wp2_with fail
            have hb11 := heap_alloc_new w3 (.cells #[.string (str t)] 9)
            have hz11 : (w3.alloc (.cells #[.string (str t)] 9)).heap.size = w3.heap.size + 1 := by simp
            have hE11 := (Ext.refl w3).alloc (.cells #[.string (str t)] 9)
            generalize w3.alloc (.cells #[.string (str t)] 9) = W4a at *
            have hS1 := row_one_str W4a hb11 hlt
            have hb12 := heap_alloc_new W4a (.cells #[.string (str s), .int .u8 0, .slice (some ⟨w3.heap.size, 0, none⟩) 1 1, .string { data := #[] }, .int .i64 0, .int .i64 0] 47)
            have hz12 : (W4a.alloc (.cells #[.string (str s), .int .u8 0, .slice (some ⟨w3.heap.size, 0, none⟩) 1 1, .string { data := #[] }, .int .i64 0, .int .i64 0] 47)).heap.size = w3.heap.size + 1 + 1 := by simp [hz11]
            have hE12 := (Ext.refl W4a).alloc (.cells #[.string (str s), .int .u8 0, .slice (some ⟨w3.heap.size, 0, none⟩) 1 1, .string { data := #[] }, .int .i64 0, .int .i64 0] 47)
            rw [hz11] at hb12
            generalize W4a.alloc (.cells #[.string (str s), .int .u8 0, .slice (some ⟨w3.heap.size, 0, none⟩) 1 1, .string { data := #[] }, .int .i64 0, .int .i64 0] 47) = W4 at *
            have hI1 : itE.Row W4 [⟨s, 0, [t], [], 0, 0⟩] (.slice (some ⟨w3.heap.size + 1, 0, none⟩) 1 1) := row_one_it W4 (x := ⟨s, 0, [t], [], 0, 0⟩) (d := .slice (some ⟨w3.heap.size, 0, none⟩) 1 1) hb12 (hS1.ext hE12) ⟨hls, by simp, by unfold isI64; simp, by unfold isI64; simp⟩
            have hx2 := (hE11.trans hE12)
            have hb21 := heap_alloc_new W4 (.cells #[.string (str s)] 9)
            have hz21 : (W4.alloc (.cells #[.string (str s)] 9)).heap.size = w3.heap.size + 1 + 1 + 1 := by simp [hz12]
            rw [hz12] at hb21
            have hE21 := (Ext.refl W4).alloc (.cells #[.string (str s)] 9)
            generalize W4.alloc (.cells #[.string (str s)] 9) = W5a at *
            have hS2 := row_one_str W5a hb21 hls
            have hb22 := heap_alloc_new W5a (.cells #[.string (str t), .int .u8 0, .slice (some ⟨w3.heap.size + 1 + 1, 0, none⟩) 1 1, .string { data := #[] }, .int .i64 0, .int .i64 0] 47)
            have hz22 : (W5a.alloc (.cells #[.string (str t), .int .u8 0, .slice (some ⟨w3.heap.size + 1 + 1, 0, none⟩) 1 1, .string { data := #[] }, .int .i64 0, .int .i64 0] 47)).heap.size = w3.heap.size + 1 + 1 + 1 + 1 := by simp [hz21]
            have hE22 := (Ext.refl W5a).alloc (.cells #[.string (str t), .int .u8 0, .slice (some ⟨w3.heap.size + 1 + 1, 0, none⟩) 1 1, .string { data := #[] }, .int .i64 0, .int .i64 0] 47)
            rw [hz21] at hb22
            generalize W5a.alloc (.cells #[.string (str t), .int .u8 0, .slice (some ⟨w3.heap.size + 1 + 1, 0, none⟩) 1 1, .string { data := #[] }, .int .i64 0, .int .i64 0] 47) = W5 at *
            have hI2 : itE.Row W5 [⟨t, 0, [s], [], 0, 0⟩] (.slice (some ⟨w3.heap.size + 1 + 1 + 1, 0, none⟩) 1 1) := row_one_it W5 (x := ⟨t, 0, [s], [], 0, 0⟩) (d := .slice (some ⟨w3.heap.size + 1 + 1, 0, none⟩) 1 1) hb22 (hS2.ext hE22) ⟨hlt, by simp, by unfold isI64; simp, by unfold isI64; simp⟩
            have HI1 := Lib.hid (hI1.ext (hE21.trans hE22))
            have HI2 := Lib.hid hI2
            have HE5 := Lib.hid (HE3.out.trans (hx2.trans (hE21.trans hE22)))
            have HBY := Lib.hid (two_names_by HNS.out HNT.out)
            have hes : ((str s).toList == (str t).toList) = decide (s = t) := str_beq s t
            clear hb11 hb12 hb21 hb22 hz11 hz12 hz21 hz22 hE11 hE12 hE21 hE22 hS1 hS2 hx2 hI1 hI2
            refine (fbytes_any _ W5 _ HI1.out).mono ?_
            rintro e w6 ⟨a6, m6, c6, n6, rfl, hE6, -, hy⟩
            obtain ⟨rfl, hO6⟩ := hy (two_names HNS.out HNT.out)
            have HO6 := Lib.hid hO6.bytes
            have HE6 := Lib.hid (HE5.out.trans hE6)
            have HI2x := Lib.hid (HI2.out.ext hE6)
            clear hy hO6 hE6
            go_wp2_with fail
            refine (fbytes_any _ w6 _ HI2x.out).mono ?_
            rintro e w7 ⟨a7, m7, c7, n7, rfl, hE7, -, hy⟩
            obtain ⟨rfl, hO7⟩ := hy (two_names HNT.out HNS.out)
            have HO7 := Lib.hid hO7.bytes
            have HO6x := Lib.hid (HO6.out.ext hE7)
            have HE7 := Lib.hid (HE6.out.trans hE7)
            clear hy hO7 hE7
            go_wp2_with fail
            refine (same_any _ _ _ _ w7 HO6x.out HO7.out).mono ?_
            rw [HBY.out]
            rintro e w8 ⟨rfl, rfl⟩
            by_cases hst2 : s = t
            case' pos =>
              rw [decide_eq_true hst2] at hes ⊢
            case' neg =>
              rw [decide_eq_false hst2] at hes ⊢
            all_goals
              clear hst2
              go_wp2_with fail
              refine (awake09 _).mono ?_
              rintro e wz ⟨rfl, hEz⟩
              have HEz := Lib.hid (HE7.out.trans hEz)
              clear hEz
              go_wp2
              go_ret
              exact ⟨rfl, HEz.out⟩
end Go.Proofs.YtnbalamacpcanaaDoor
