/- Walks: Put. -/
import Derived.Test.YtnbalamacpcanaaDoorValF
import Derived.Test.YtnbalamacpcanaaDoorTreeB
open Go.RowKit Go.Shelf
namespace Go.Proofs.YtnbalamacpcanaaDoor
open Go Go.Proofs Fm

theorem i64_nat (n : Nat) (h : n ≤ 9223372036854775807) : isI64 (n : Int) := by unfold isI64; omega

set_option maxRecDepth 100000 in
set_option maxHeartbeats 4000000 in
theorem put_any (t : Tr) : ∀ (w : World) (b v : Value) (xs : List UInt8), Bytes w b xs → Lies w t v → xs.length + (bytesT t).length ≤ 1000000000 →
    Calls Tryd.prog 64 #[b, v] w (RetBytes w (xs ++ bytesT t)) := by
  induction t using Tr.ind with
  | h k n s l ih =>
  intro w b v xs hb hv hsz
  obtain ⟨d, rfl, hn, hs, hl⟩ := hv.parts
  have ⟨a, cap, hd, h1, h2, h3, C, h4, h5⟩ := hl
  subst hd
  have H4 := Lib.hid h4; have H5 := Lib.hid h5
  have hll : l.length ≤ 9223372036854775807 := by unfold maxLen at h2; omega
  have hk255 := k.toNat_lt
  have e0 := u8_eq k 0
  have e1 := u8_eq k 1
  rw [show ((0 : UInt8).toNat : Int) = 0 from rfl] at e0
  rw [show ((1 : UInt8).toNat : Int) = 1 from rfl] at e1
  have HK := Lib.hid (i64_nat k.toNat (by omega))
  have HN := Lib.hid hn
  have HT := Lib.hid (bytesT_node k n s l)
  have HZ := Lib.hid hsz
  have hK0 : (0 : Int) ≤ (k.toNat : Int) := by omega
  have hK255 : (k.toNat : Int) ≤ 255 := by omega
  have hxs : xs.length ≤ 1000000000 := by omega
  clear h1 h2 h3 h4 h5 hl hn hv hsz
  have hE0 := (Ext.refl w).alloc (.cells #[.int .u8 (k.toNat : Int), .int .i64 n, .string (str s), .slice a l.length cap] 24)
  obtain ⟨m0, m1, m2, m3, hsz⟩ := alloc4 w (.int .u8 (k.toNat : Int)) (.int .i64 n) (.string (str s)) (.slice a l.length cap) 24
  generalize (k.toNat : Int) = K at *
  go_enter Tryd.func64, Tryd.ntmps64
  go_wp2_with fail
  generalize w.alloc (.cells #[.int .u8 K, .int .i64 n, .string (str s), .slice a l.length cap] 24) = W1 at *
  refine (num_any _ xs W1 (hb.ext hE0) (by omega) K HK.out).mono ?_
  rintro e w1 ⟨vo, rfl, ro⟩
  have hE1 := hE0.trans ro.2
  have o1 := ro.own.mono hE0.size
  have q0 := (ro.2.cell (p := ⟨w.heap.size, 0, none⟩) hsz).trans m0
  have q1 := (ro.2.cell (p := ⟨w.heap.size, 1, none⟩) hsz).trans m1
  have q2 := (ro.2.cell (p := ⟨w.heap.size, 2, none⟩) hsz).trans m2
  have q3 := (ro.2.cell (p := ⟨w.heap.size, 3, none⟩) hsz).trans m3
  have hz1 := Nat.lt_of_lt_of_le hsz ro.2.size
  have hnk := numB_le K
  clear ro hE0 m0 m1 m2 m3 hsz hb
  by_cases hk0 : k = 0
  · have f0 : (K == 0) = true := by rw [e0]; simpa using hk0
    have HX : Hid (bytesT (.node k n s l) = numB K ++ numB n) := Lib.hid (by rw [HT.out, if_pos hk0])
    clear e0 e1 hk0
    go_wp2_with fail
    refine (num_any _ _ w1 o1.bytes (by simp; omega) n HN.out).mono ?_
    rintro e w2 ⟨v2, rfl, r2⟩
    have hE2 := hE1.trans r2.2
    have o2 := r2.own.mono hE1.size
    have hR : RetBytes w (xs ++ bytesT (.node k n s l)) (.returned v2) w2 := ⟨v2, rfl, by rw [HX.out, ← List.append_assoc]; exact ⟨o2, hE2⟩⟩
    clear r2 o1 o2 q0 q1 q2 q3
    go_wp2
    go_ret
    exact hR
  have f0 : (K == 0) = false := by rw [e0]; simpa using hk0
  by_cases hk1 : k = 1
  · have f1 : (K == 1) = true := by rw [e1]; simpa using hk1
    have HX : Hid (bytesT (.node k n s l) = numB K ++ textB s) := Lib.hid (by rw [HT.out, if_neg hk0, if_pos hk1])
    have hsl : s.length ≤ 1000000000 := by have := HZ.out; rw [HX.out, List.length_append, textB, List.length_append] at this; omega
    clear e0 e1 hk0 hk1
    go_wp2_with fail
    refine (text_any _ _ s w1 o1.bytes (by simp; omega) (by omega)).mono ?_
    rintro e w2 ⟨v2, rfl, r2⟩
    have hE2 := hE1.trans r2.2
    have o2 := r2.own.mono hE1.size
    have hR : RetBytes w (xs ++ bytesT (.node k n s l)) (.returned v2) w2 := ⟨v2, rfl, by rw [HX.out, ← List.append_assoc]; exact ⟨o2, hE2⟩⟩
    clear r2 o1 o2 q0 q1 q2 q3
    go_wp2
    go_ret
    exact hR
  · have f1 : (K == 1) = false := by rw [e1]; simpa using hk1
    have HX : Hid (bytesT (.node k n s l) = numB K ++ (numB l.length ++ bytesL l)) := Lib.hid (by rw [HT.out, if_neg hk0, if_neg hk1])
    have hbl : xs.length + (numB K).length + (numB l.length).length + (bytesL l).length ≤ 1000000000 := by have := HZ.out; rw [HX.out, List.length_append, List.length_append] at this; omega
    have HLN := Lib.hid (i64_nat l.length hll)
    clear e0 e1 hk0 hk1
    go_wp2_with fail
    refine (num_any _ _ w1 o1.bytes (by simp; omega) (l.length : Int) HLN.out).mono ?_
    rintro e w2 ⟨v2, rfl, r2⟩
    have hE2 := hE1.trans r2.2
    have o2 := r2.own.mono hE1.size
    have q3' := (r2.2.cell (p := ⟨w.heap.size, 3, none⟩) hz1).trans q3
    clear r2 o1 q0 q1 q2 q3 hE1
    go_wp2_with fail
    go_loopw [5, 35] (fun o i wr => ∃ j : Nat, j ≤ l.length ∧ i = .int .i64 j ∧ Hid (OwnB w.heap.size wr o (xs ++ numB K ++ numB l.length ++ bytesL (l.take j))) ∧ Ext w wr) (fun _ i _ => l.length - (intOf i).toNat)
    case atStart => exact ⟨0, by omega, rfl, Lib.hid (by rw [List.take_zero, bytesL_nil, List.append_nil]; exact o2), hE2⟩
    case round =>
      obtain ⟨j, hj, rfl, HO, hE⟩ := hrel
      clear o2 q3' hE2
      by_cases hlt : j < l.length
      · obtain ⟨b', off, rfl, hb, hc⟩ := H4.out (by omega)
        obtain ⟨k0, n0, s0, a0, m0, c0, e0, e1, e2, e3, hx⟩ := elem4 hE hb hc H5.out j hlt
        have hat := bytesL_at l j hlt
        have hle := bytesL_take_le l (j + 1)
        have hlen : (bytesL (l.take (j + 1))).length = (bytesL (l.take j)).length + (bytesT l[j]).length := by rw [hat, List.length_append]
        go_wp2_with fail
        refine (ih _ (List.getElem_mem hlt) _ _ _ _ (HO.out.bytes.ext ((Ext.refl wr).alloc _)) (hx.ext ((Ext.refl wr).alloc _)) (by simp only [List.length_append]; omega)).mono ?_
        rintro e w3 ⟨v3, rfl, r3⟩
        have hE3 := (hE.alloc _).trans r3.2
        have HO2 : Hid (OwnB w.heap.size w3 v3 (xs ++ numB K ++ numB l.length ++ bytesL (l.take (j + 1)))) := Lib.hid (by
          rw [hat, ← List.append_assoc]
          exact r3.own.mono (hE.alloc _).size)
        clear r3 e0 e1 e2 e3 hx hb hc hat hle hlen HO
        go_wp2
        go_roundw
        case rel => exact ⟨j + 1, by omega, by go_num, HO2, hE3⟩
        case measure => simp [intOf]; omega
      · have hj' : j = l.length := by omega
        have hR : ∃ vr, vr = u5 ∧ RetBytes w (xs ++ bytesT (.node k n s l)) (.returned vr) wr := ⟨u5, rfl, u5, rfl, by
          have h := HO.out
          rw [hj', List.take_length] at h
          rw [HX.out, ← List.append_assoc, ← List.append_assoc]
          exact ⟨h, hE⟩⟩
        obtain ⟨vr, rfl, hR⟩ := hR
        clear HO hj'
        go_wp2
        go_ret
        exact hR
end Go.Proofs.YtnbalamacpcanaaDoor
