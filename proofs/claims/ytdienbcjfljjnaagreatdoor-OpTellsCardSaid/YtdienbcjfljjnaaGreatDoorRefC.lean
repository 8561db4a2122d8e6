/- The reference's Bytes. -/
import Derived.Test.YtdienbcjfljjnaaGreatDoorWireR
import Derived.Test.YtdienbcjfljjnaaGreatDoorVaA
open Go.RowKit Go.Shelf
namespace Go.Proofs.YtdienbcjfljjnaaGreatDoor
open Go Go.Proofs Fm

set_option maxRecDepth 100000 in
set_option maxHeartbeats 4000000 in
theorem rbytes_any (t : Tr) : ∀ (w : World) (v : Value), Lies w t v → (bytesT t).length ≤ 1000000000 →
    Calls Tryz.prog 45 #[v] w (RetBytes w (bytesT t)) := by
  induction t using Tr.ind with
  | h k n s l ih =>
  intro w v hv hsz
  obtain ⟨d, rfl, hn, hs, hl⟩ := hv.parts
  have ⟨a, cap, hd, h1, h2, h3, C, h4, h5⟩ := hl
  subst hd
  have H4 := Lib.hid h4; have H5 := Lib.hid h5
  have hll : l.length ≤ 9223372036854775807 := by unfold maxLen at h2; omega
  have hk255 := k.toNat_lt
  have e0 := u8_eq k 0
  have e1 := u8_eq k 1
  rw [show ((0 : UInt8).toNat : Int) = 0 from rfl] at e0
  rw [show ((1 : UInt8).toNat : Int) = 1 from rfl] at e1
  have HK := Lib.hid (i64_nat k.toNat (by omega))
  have HN := Lib.hid hn
  have HT := Lib.hid (bytesT_node k n s l)
  have HZ := Lib.hid hsz
  have hK0 : (0 : Int) ≤ (k.toNat : Int) := by omega
  have hK255 : (k.toNat : Int) ≤ 255 := by omega
  clear h1 h2 h3 h4 h5 hl hn hv hsz
  have hE0 := (Ext.refl w).alloc (.cells #[.int .u8 (k.toNat : Int), .int .i64 n, .string (str s), .slice a l.length cap] 43)
  obtain ⟨m0, m1, m2, m3, hsz⟩ := alloc4 w (.int .u8 (k.toNat : Int)) (.int .i64 n) (.string (str s)) (.slice a l.length cap) 43
  generalize (k.toNat : Int) = K at *
  go_enter Tryz.func45, Tryz.ntmps45
  go_wp2_with fail
  generalize w.alloc (.cells #[.int .u8 K, .int .i64 n, .string (str s), .slice a l.length cap] 43) = W1 at *
  refine (rnum_any K HK.out W1).mono ?_
  rintro e w1 ⟨vo, rfl, ro⟩
  have hE1 := hE0.trans ro.2
  have o1 := ro.own
  have hB1 := ro.2.size
  have hB := hsz
  have q0 := (ro.2.cell (p := ⟨w.heap.size, 0, none⟩) hsz).trans m0
  have q1 := (ro.2.cell (p := ⟨w.heap.size, 1, none⟩) hsz).trans m1
  have q2 := (ro.2.cell (p := ⟨w.heap.size, 2, none⟩) hsz).trans m2
  have q3 := (ro.2.cell (p := ⟨w.heap.size, 3, none⟩) hsz).trans m3
  have hz1 := Nat.lt_of_lt_of_le hsz ro.2.size
  have hnk := numB_le K
  clear ro hE0 m0 m1 m2 m3 hsz
  generalize W1.heap.size = Z at *
  by_cases hk0 : k = 0
  · have f0 : (K == 0) = true := by rw [e0]; simpa using hk0
    have HX : Hid (bytesT (.node k n s l) = numB K ++ numB n) := Lib.hid (by rw [HT.out, if_pos hk0])
    have hnn := numB_le n
    clear e0 e1 hk0
    go_wp2_with fail
    refine (rnum_any n HN.out w1).mono ?_
    rintro e w2 ⟨v2, rfl, r2⟩
    have hE2 := hE1.trans r2.2
    have o2 := o1.ext r2.2
    have b2 := r2.bytes
    have hsz2 := Nat.le_trans hB1 r2.2.size
    clear r2 o1 q0 q1 q2 q3 hE1
    go_wp2_with (at_builtin; refine appB rfl _ _ rfl rfl o2 rfl b2 ?b1 hsz2 ?_)
    case b1 => omega
    intro v3 w3 o3 _ B3
    have hR : RetBytes w (bytesT (.node k n s l)) (.returned v3) w3 := ⟨v3, rfl, by rw [HX.out]; exact ⟨o3.mono (Nat.le_of_lt hB), hE2.then (Below.mono B3 (Nat.le_of_lt hB))⟩⟩
    clear o3 B3 o2 b2
    go_wp2
    go_ret
    exact hR
  have f0 : (K == 0) = false := by rw [e0]; simpa using hk0
  by_cases hk1 : k = 1
  · have f1 : (K == 1) = true := by rw [e1]; simpa using hk1
    have HX : Hid (bytesT (.node k n s l) = numB K ++ textB s) := Lib.hid (by rw [HT.out, if_neg hk0, if_pos hk1])
    have htl : (textB s).length ≤ 1000000000 := by have := HZ.out; rw [HX.out, List.length_append] at this; omega
    have hsl : s.length ≤ 1000000000 := by rw [textB, List.length_append] at htl; omega
    clear e0 e1 hk0 hk1
    go_wp2_with fail
    refine (rtext_any s (by omega) w1).mono ?_
    rintro e w2 ⟨v2, rfl, r2⟩
    have hE2 := hE1.trans r2.2
    have o2 := o1.ext r2.2
    have b2 := r2.bytes
    have hsz2 := Nat.le_trans hB1 r2.2.size
    clear r2 o1 q0 q1 q2 q3 hE1
    go_wp2_with (at_builtin; refine appB rfl _ _ rfl rfl o2 rfl b2 ?b1 hsz2 ?_)
    case b1 => omega
    intro v3 w3 o3 _ B3
    have hR : RetBytes w (bytesT (.node k n s l)) (.returned v3) w3 := ⟨v3, rfl, by rw [HX.out]; exact ⟨o3.mono (Nat.le_of_lt hB), hE2.then (Below.mono B3 (Nat.le_of_lt hB))⟩⟩
    clear o3 B3 o2 b2
    go_wp2
    go_ret
    exact hR
  · have f1 : (K == 1) = false := by rw [e1]; simpa using hk1
    have HX : Hid (bytesT (.node k n s l) = numB K ++ (numB l.length ++ bytesL l)) := Lib.hid (by rw [HT.out, if_neg hk0, if_neg hk1])
    have hbl : (numB K).length + (numB l.length).length + (bytesL l).length ≤ 1000000000 := by have := HZ.out; rw [HX.out, List.length_append, List.length_append] at this; omega
    have HLN := Lib.hid (i64_nat l.length hll)
    clear e0 e1 hk0 hk1
    go_wp2_with fail
    refine (rnum_any (l.length : Int) HLN.out w1).mono ?_
    rintro e w2 ⟨v2, rfl, r2⟩
    have hE2 := hE1.trans r2.2
    have o2 := o1.ext r2.2
    have b2 := r2.bytes
    have hsz2 := Nat.le_trans hB1 r2.2.size
    have q3' := (r2.2.cell (p := ⟨w.heap.size, 3, none⟩) hz1).trans q3
    have hz2 := Nat.lt_of_lt_of_le hz1 r2.2.size
    clear r2 o1 q0 q1 q2 q3 hE1
    go_wp2_with (at_builtin; refine appB rfl _ _ rfl rfl o2 rfl b2 ?b1 hsz2 ?_)
    case b1 => omega
    intro v3 w3 o3 hg3 B3
    have hE3 := hE2.then (Below.mono B3 (Nat.le_of_lt hB))
    have q3 : w3.cell? ⟨w.heap.size, 3, none⟩ = some (.slice a l.length cap) := (Below.cell B3 (p := ⟨w.heap.size, 3, none⟩) hB).trans q3'
    have hz3 := Nat.lt_of_lt_of_le hz2 hg3.size
    have hZ3 := Nat.le_trans hsz2 hg3.size
    clear B3 hg3 o2 b2 q3'
    go_wp2_with fail
    go_loopw [3, 4] (fun o i wr => ∃ j : Nat, j ≤ l.length ∧ i = .int .i64 j ∧ Hid (OwnB Z wr o (numB K ++ numB l.length ++ bytesL (l.take j))) ∧ Ext w wr ∧ wr.cell? ⟨w.heap.size, 3, none⟩ = some (.slice a l.length cap) ∧ w.heap.size < wr.heap.size ∧ Z ≤ wr.heap.size) (fun _ i _ => l.length - (intOf i).toNat)
    case atStart => exact ⟨0, by omega, rfl, Lib.hid (by rw [List.take_zero, bytesL_nil, List.append_nil]; exact o3), hE3, q3, hz3, hZ3⟩
    case round =>
      obtain ⟨j, hj, rfl, HO, hE, q3', hzr, hZr⟩ := hrel
      clear o3 q3 hE3 hE2
      by_cases hlt : j < l.length
      · obtain ⟨b', off, rfl, hb, hc⟩ := H4.out (by omega)
        obtain ⟨k0, n0, s0, a0, m0, c0, e0, e1, e2, e3, hx⟩ := elem4 hE hb hc H5.out j hlt
        have hat := bytesL_at l j hlt
        have hle := bytesL_take_le l (j + 1)
        have hlen : (bytesL (l.take (j + 1))).length = (bytesL (l.take j)).length + (bytesT l[j]).length := by rw [hat, List.length_append]
        go_wp2_with fail
        refine (ih _ (List.getElem_mem hlt) _ _ hx (by omega)).mono ?_
        rintro e w4 ⟨v4, rfl, r4⟩
        have hE4 := hE.trans r4.2
        have o4 := HO.out.ext r4.2
        have b4 := r4.bytes
        have hsz4 := Nat.le_trans hZr r4.2.size
        have q4 := (r4.2.cell (p := ⟨w.heap.size, 3, none⟩) hzr).trans q3'
        have hz4 := Nat.lt_of_lt_of_le hzr r4.2.size
        clear r4 e0 e1 e2 e3 hx hb hc HO
        go_wp2_with (at_builtin; refine appB rfl _ _ rfl rfl o4 rfl b4 ?b1 hsz4 ?_)
        case b1 => simp only [List.length_append]; omega
        intro v5 w5 o5 hg5 B5
        have hE5 := hE4.then (Below.mono B5 (Nat.le_of_lt hB))
        have q5 : w5.cell? ⟨w.heap.size, 3, none⟩ = some (.slice (some ⟨b', off, none⟩) l.length cap) := (Below.cell B5 (p := ⟨w.heap.size, 3, none⟩) hB).trans q4
        have hz5 := Nat.lt_of_lt_of_le hz4 hg5.size
        have hZ5 := Nat.le_trans hsz4 hg5.size
        have HO2 : Hid (OwnB Z w5 v5 (numB K ++ numB l.length ++ bytesL (l.take (j + 1)))) := Lib.hid (by
          rw [hat]
          simpa only [List.append_assoc] using o5)
        clear o4 o5 B5 hg5 b4 q4 hat hle hlen
        go_wp2
        go_roundw
        case rel => exact ⟨j + 1, by omega, by go_num, HO2, hE5, q5, hz5, hZ5⟩
        case measure => simp [intOf]; omega
      · have hj' : j = l.length := by omega
        have hR : ∃ vr, vr = u3 ∧ RetBytes w (bytesT (.node k n s l)) (.returned vr) wr := ⟨u3, rfl, u3, rfl, by
          have h := HO.out
          rw [hj', List.take_length] at h
          rw [HX.out, ← List.append_assoc]
          exact ⟨h.mono (Nat.le_of_lt hB), hE⟩⟩
        obtain ⟨vr, rfl, hR⟩ := hR
        clear HO hj'
        go_wp2
        go_ret
        exact hR
end Go.Proofs.YtdienbcjfljjnaaGreatDoor
