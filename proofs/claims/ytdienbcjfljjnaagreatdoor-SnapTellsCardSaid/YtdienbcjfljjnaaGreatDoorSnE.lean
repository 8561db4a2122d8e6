/- Walks of package snap: put, Bytes. -/
import Derived.Test.YtdienbcjfljjnaaGreatDoorSnI
import Derived.Test.YtdienbcjfljjnaaGreatDoorSnB
import Derived.Test.YtdienbcjfljjnaaGreatDoorWireR
import Derived.Test.YtdienbcjfljjnaaGreatDoorSnG
open Go.RowKit Go.Shelf
namespace Go.Proofs.YtdienbcjfljjnaaGreatDoor
open Go Go.Proofs Fm

set_option maxRecDepth 100000 in
set_option maxHeartbeats 16000000 in
theorem nput_any (n : Nd) (w : World) (b v : Value) (xs : List UInt8) (hb : Bytes w b xs) (h : NdV w n v) (hsz : xs.length + (ndBy n).length ≤ 1000000000) :
    Calls Tryz.prog 34 #[b, v] w (RetBytes w (xs ++ ndBy n)) := by
  obtain ⟨a, m, c, k, N, s, l, rfl, hr, hl, hid, hnm, i1, i2, i3, i4, i5, i6, i7⟩ := h
  have hm : m = n.after.length := by obtain ⟨_, _, e, _⟩ := hr.slice; injection e
  have hml : m ≤ 9223372036854775807 := by rw [hm]; exact hr.length_le
  simp only [ndCells]
  obtain ⟨K, hK⟩ : ∃ K : Int, K = (n.kind.toNat : Int) := ⟨_, rfl⟩
  obtain ⟨S, hS⟩ : ∃ S : Int, S = (n.stand.toNat : Int) := ⟨_, rfl⟩
  have hK0 : 0 ≤ K := by omega
  have hK1 : K ≤ 255 := by have := n.kind.toNat_lt; omega
  have hS0 : 0 ≤ S := by omega
  have hS1 : S ≤ 255 := by have := n.stand.toNat_lt; omega
  rw [← hK, ← hS]
  have b1 := BoxL.new w [.string (str n.id), .string (str n.name), .int .u8 K, .int .i64 n.flow, .int .i64 n.owner, .int .i64 n.place, .slice a m c, .int .i64 n.width, .int .i64 n.quota, .int .u8 S, .int .i64 n.fails, .int .i64 n.tok, k, N, s, l] 59
  have e1 := (Ext.refl w).alloc (.cells #[.string (str n.id), .string (str n.name), .int .u8 K, .int .i64 n.flow, .int .i64 n.owner, .int .i64 n.place, .slice a m c, .int .i64 n.width, .int .i64 n.quota, .int .u8 S, .int .i64 n.fails, .int .i64 n.tok, k, N, s, l] 59)
  have z1 : (w.alloc (.cells #[.string (str n.id), .string (str n.name), .int .u8 K, .int .i64 n.flow, .int .i64 n.owner, .int .i64 n.place, .slice a m c, .int .i64 n.width, .int .i64 n.quota, .int .u8 S, .int .i64 n.fails, .int .i64 n.tok, k, N, s, l] 59)).heap.size = w.heap.size + 1 := by simp
  have b2 := BoxL.new (w.alloc (.cells #[.string (str n.id), .string (str n.name), .int .u8 K, .int .i64 n.flow, .int .i64 n.owner, .int .i64 n.place, .slice a m c, .int .i64 n.width, .int .i64 n.quota, .int .u8 S, .int .i64 n.fails, .int .i64 n.tok, k, N, s, l] 59)) [.int .i64 K, .int .i64 S] 116
  have e2 := e1.alloc (.cells #[.int .i64 K, .int .i64 S] 116)
  have b1 := b1.ext ((Ext.refl _).alloc (.cells #[.int .i64 K, .int .i64 S] 116))
  rw [z1] at b2
  have kI : isI64 K := by unfold isI64; omega
  have sI : isI64 S := by unfold isI64; omega
  have hp1 : Pts ((w.alloc (.cells #[.string (str n.id), .string (str n.name), .int .u8 K, .int .i64 n.flow, .int .i64 n.owner, .int .i64 n.place, .slice a m c, .int .i64 n.width, .int .i64 n.quota, .int .u8 S, .int .i64 n.fails, .int .i64 n.tok, k, N, s, l] 59)).alloc (.cells #[.int .i64 K, .int .i64 S] 116)) (firstF w.heap.size (w.heap.size + 1)) (nF n) := by
    unfold firstF nF; rw [← hK]
    exact .cons (b2.cell 0 _ rfl) b2.lt kI (.cons (b1.cell 3 _ rfl) b1.lt i1 (.cons (b1.cell 4 _ rfl) b1.lt i2 (.cons (b1.cell 5 _ rfl) b1.lt i3 (.nil _))))
  have hp2 : Pts ((w.alloc (.cells #[.string (str n.id), .string (str n.name), .int .u8 K, .int .i64 n.flow, .int .i64 n.owner, .int .i64 n.place, .slice a m c, .int .i64 n.width, .int .i64 n.quota, .int .u8 S, .int .i64 n.fails, .int .i64 n.tok, k, N, s, l] 59)).alloc (.cells #[.int .i64 K, .int .i64 S] 116)) (lastF w.heap.size (w.heap.size + 1)) (nL n) := by
    unfold lastF nL; rw [← hS]
    exact .cons (b1.cell 7 _ rfl) b1.lt i4 (.cons (b1.cell 8 _ rfl) b1.lt i5 (.cons (b2.cell 1 _ rfl) b2.lt sI (.cons (b1.cell 10 _ rfl) b1.lt i6 (.nil _))))
  have HR := Lib.hid (hr.ext e2)
  have HL := Lib.hid (hl.ext e2)
  have HP1 := Lib.hid hp1
  have HP2 := Lib.hid hp2
  have HB := Lib.hid b1
  have HW := Lib.hid e2
  have HM := Lib.hid hm
  have HMi := Lib.hid (i64_nat m hml)
  have HTI := Lib.hid i7
  have HB0 := Lib.hid (hb.ext e2)
  have hzz := e2.size
  have hsz2 : xs.length + (textB n.id).length + (textB n.name).length + (numsB (nF n)).length + (numB m).length + (numsB n.after).length + (numsB (nL n)).length + (numB n.tok).length + (bytesT n.val).length ≤ 1000000000 := by
    unfold ndBy at hsz; rw [← hm] at hsz; simp only [List.length_append] at hsz; omega
  have HZ : Hid (xs ++ textB n.id ++ textB n.name ++ numsB (nF n) ++ numB m ++ numsB n.after ++ numsB (nL n) ++ numB n.tok ++ bytesT n.val = xs ++ ndBy n) := Lib.hid (by unfold ndBy; rw [← hm]; simp only [List.append_assoc])
  clear hsz hr hl hp1 hp2 b1 b2 e1 e2 hm hK hS z1 kI sI i1 i2 i3 i4 i5 i6 i7 hid hnm hb
  go_enter Tryz.func34, Tryz.ntmps34
  go_upto_region 2 with (fail)
  generalize (w.alloc (.cells #[.string (str n.id), .string (str n.name), .int .u8 K, .int .i64 n.flow, .int .i64 n.owner, .int .i64 n.place, .slice a m c, .int .i64 n.width, .int .i64 n.quota, .int .u8 S, .int .i64 n.fails, .int .i64 n.tok, k, N, s, l] 59)).alloc (.cells #[.int .i64 K, .int .i64 S] 116) = W2 at *
  have HS : Hid (∀ w', Ext W2 w' → (w'.cell? ⟨w.heap.size, 0, none⟩ = some (.string (str n.id)) ∧ w'.cell? ⟨w.heap.size, 1, none⟩ = some (.string (str n.name)))) := Lib.hid (fun w' h => by
    obtain ⟨p0, p1, -⟩ := (HB.out.ext h).n16
    exact ⟨p0, p1⟩)
  have D0 : Hid (Ext W2 W2.drew) := Lib.hid (Ext.refl W2).drew
  refine wp_region_held_drew (S := (fun w' => w'.cell? ⟨w.heap.size, 0, none⟩ = some (.string (str n.id)) ∧ w'.cell? ⟨w.heap.size, 1, none⟩ = some (.string (str n.name)))) (by kernel_rfl) ?_ (fun hHeld => ?_)
  · (try dsimp only)
    (first | exact HS.out _ D0.out | exact HS.out _ D1.out | exact HS.out _ D2.out | exact HS.out _ D3.out | exact HS.out _ D4.out)
  refine take_w 0 (some 17) (v := ?_) (by kernel_rfl) (by kernel_rfl) (by kernel_rfl) (by kernel_rfl) (by kernel_rfl) (fun _ _ _ h => h) (by rfl) ?_ (by assumption) ?_
  rotate_left
  · (intro w hSw; (try dsimp only at hSw); go_simp; try with_reducible rfl)
  try simp only [Act.put, List.setIfInBounds_toArray, List.set_cons_zero, List.set_cons_succ]
  refine take_w 1 (some 18) (v := ?_) (by kernel_rfl) (by kernel_rfl) (by kernel_rfl) (by kernel_rfl) (by kernel_rfl) (fun _ _ _ h => h) (by rfl) ?_ (by assumption) ?_
  rotate_left
  · (intro w hSw; (try dsimp only at hSw); go_simp; try with_reducible rfl)
  try simp only [Act.put, List.setIfInBounds_toArray, List.set_cons_zero, List.set_cons_succ]
  refine take_w 2 (some 19) (v := ?_) (by kernel_rfl) (by kernel_rfl) (by kernel_rfl) (by kernel_rfl) (by kernel_rfl) (fun _ _ _ h => h) (by rfl) ?_ (by assumption) ?_
  rotate_left
  · (intro w hSw; (try dsimp only at hSw); go_simp; try with_reducible rfl)
  try simp only [Act.put, List.setIfInBounds_toArray, List.set_cons_zero, List.set_cons_succ]
  refine take_w 4 (some 21) (v := ?_) (by kernel_rfl) (by kernel_rfl) (by kernel_rfl) (by kernel_rfl) (by kernel_rfl) (fun _ _ _ h => h) (by rfl) ?_ (by assumption) ?_
  rotate_left
  · (intro w hSw; (try dsimp only at hSw); go_simp; try with_reducible rfl)
  try simp only [Act.put, List.setIfInBounds_toArray, List.set_cons_zero, List.set_cons_succ]
  refine take_w 5 (some 22) (v := ?_) (by kernel_rfl) (by kernel_rfl) (by kernel_rfl) (by kernel_rfl) (by kernel_rfl) (fun _ _ _ h => h) (by rfl) ?_ (by assumption) ?_
  rotate_left
  · (intro w hSw; (try dsimp only at hSw); go_simp; try with_reducible rfl)
  try simp only [Act.put, List.setIfInBounds_toArray, List.set_cons_zero, List.set_cons_succ]
  refine take_w 7 (some 24) (v := ?_) (by kernel_rfl) (by kernel_rfl) (by kernel_rfl) (by kernel_rfl) (by kernel_rfl) (fun _ _ _ h => h) (by rfl) ?_ (by assumption) ?_
  rotate_left
  · (intro w hSw; (try dsimp only at hSw); go_simp; try with_reducible rfl)
  try simp only [Act.put, List.setIfInBounds_toArray, List.set_cons_zero, List.set_cons_succ]
  refine ready_one 3 (by kernel_rfl) (by kernel_rfl) (by rfl) (fun Kc hKc => ?_)
  go_simp
  refine (text_any _ xs n.id _ (HB0.out.ext D0.out) (by omega) (by have := textB_ge n.id; omega)).mono ?_
  rintro e y1 ⟨v1, rfl, r1⟩
  have D1 := Lib.hid (D0.out.trans r1.2)
  have O1 : Hid (OwnB w.heap.size y1 v1 (xs ++ textB n.id)) := Lib.hid (r1.own.mono (by have := D0.out.size; omega))
  clear r1
  try go_wp2_with fail
  refine hKc.out _ _ ?_ (fun hHeld => ?_)
  · (try dsimp only)
    (first | exact HS.out _ D0.out | exact HS.out _ D1.out | exact HS.out _ D2.out | exact HS.out _ D3.out | exact HS.out _ D4.out)
  clear hKc Kc
  try simp only [Act.put, List.setIfInBounds_toArray, List.set_cons_zero, List.set_cons_succ]
  refine ready_one 6 (by kernel_rfl) (by kernel_rfl) (by rfl) (fun Kc hKc => ?_)
  go_simp
  refine (text_any _ _ n.name _ O1.out.bytes (by (try simp only [List.length_append]); omega) (by have := textB_ge n.name; omega)).mono ?_
  rintro e y2 ⟨v2, rfl, r2⟩
  have D2 := Lib.hid (D1.out.trans r2.2)
  have O2 : Hid (OwnB w.heap.size y2 v2 (xs ++ textB n.id ++ textB n.name)) := Lib.hid (r2.own.mono (by have := D1.out.size; omega))
  clear r2
  try go_wp2_with fail
  refine hKc.out _ _ ?_ (fun hHeld => ?_)
  · (try dsimp only)
    (first | exact HS.out _ D0.out | exact HS.out _ D1.out | exact HS.out _ D2.out | exact HS.out _ D3.out | exact HS.out _ D4.out)
  clear hKc Kc
  try simp only [Act.put, List.setIfInBounds_toArray, List.set_cons_zero, List.set_cons_succ]
  refine ready_one 8 (by kernel_rfl) (by kernel_rfl) (by rfl) (fun Kc hKc => ?_)
  go_simp
  refine (first_any w.heap.size (w.heap.size + 1) _).mono ?_
  rintro e y3 ⟨v3, rfl, hR3, hE3⟩
  have D3 := Lib.hid (D2.out.trans hE3)
  have O3 := Lib.hid (O2.out.ext hE3)
  have F3 := Lib.hid hR3
  clear hR3 hE3
  try go_wp2_with fail
  refine hKc.out _ _ ?_ (fun hHeld => ?_)
  · (try dsimp only)
    (first | exact HS.out _ D0.out | exact HS.out _ D1.out | exact HS.out _ D2.out | exact HS.out _ D3.out | exact HS.out _ D4.out)
  clear hKc Kc
  try simp only [Act.put, List.setIfInBounds_toArray, List.set_cons_zero, List.set_cons_succ]
  refine ready_one 9 (by kernel_rfl) (by kernel_rfl) (by rfl) (fun Kc hKc => ?_)
  go_simp
  refine (nums_any _ (nF n) _ v2 v3 _ O3.out.bytes F3.out (HP1.out.ext D3.out) (by simp [firstF]) (by (try simp only [List.length_append]); omega)).mono ?_
  rintro e y4 ⟨v4, rfl, r4⟩
  have D4 := Lib.hid (D3.out.trans r4.2)
  have O4 : Hid (OwnB w.heap.size y4 v4 (xs ++ textB n.id ++ textB n.name ++ numsB (nF n))) := Lib.hid (r4.own.mono (by have := D3.out.size; omega))
  clear r4
  try go_wp2_with fail
  refine hKc.out _ _ ?_ (fun hHeld => ?_)
  · (try dsimp only)
    (first | exact HS.out _ D0.out | exact HS.out _ D1.out | exact HS.out _ D2.out | exact HS.out _ D3.out | exact HS.out _ D4.out)
  clear hKc Kc
  try simp only [Act.put, List.setIfInBounds_toArray, List.set_cons_zero, List.set_cons_succ]
  refine take_w 10 (some 6) (v := ?_) (by kernel_rfl) (by kernel_rfl) (by kernel_rfl) (by kernel_rfl) (by kernel_rfl) (fun _ _ _ h => h) (by rfl) ?_ (by assumption) ?_
  rotate_left
  · (intro w hSw; (try dsimp only at hSw); go_simp; try with_reducible rfl)
  try simp only [Act.put, List.setIfInBounds_toArray, List.set_cons_zero, List.set_cons_succ]
  refine wpAnyH_done (by kernel_rfl) ?_ _

  have ⟨p0, p1, p2, p3, p4, p5, p6, p7, p8, p9, p10, p11, p12, p13, p14, p15⟩ := (HB.out.ext D4.out).n16
  go_wp2_with fail
  refine (num_any v4 _ y4 O4.out.bytes (by (try simp only [List.length_append]); omega) (m : Int) HMi.out).mono ?_
  rintro e y5 ⟨v5, rfl, r5⟩
  have D5 := Lib.hid (D4.out.trans r5.2)
  have O5 : Hid (OwnB w.heap.size y5 v5 (xs ++ textB n.id ++ textB n.name ++ numsB (nF n) ++ numB m)) := Lib.hid (r5.own.mono (by have := D4.out.size; omega))
  clear r5 O1 O2 O3 O4 F3 D0 D1 D2 D3 D4 HS HP1 HB0 p0 p1 p2 p3 p4 p5 p6 p7 p8 p9 p10 p11 p12 p13 p14 p15
  obtain ⟨P0, hP0⟩ : ∃ P0, P0 = xs ++ textB n.id ++ textB n.name ++ numsB (nF n) ++ numB m := ⟨_, rfl⟩
  have hPl : P0.length + (numsB n.after).length + (numsB (nL n)).length + (numB n.tok).length + (bytesT n.val).length ≤ 1000000000 := by rw [hP0]; simp only [List.length_append]; omega
  rw [← hP0] at O5 HZ
  clear hP0 hsz2
  have ⟨p0, p1, p2, p3, p4, p5, p6, p7, p8, p9, p10, p11, p12, p13, p14, p15⟩ := (HB.out.ext D5.out).n16
  go_wp2_with fail
  clear p0 p1 p2 p3 p4 p5 p6 p7 p8 p9 p10 p11 p12 p13 p14 p15
  go_loopw [6, 35] (fun o i wr => ∃ j : Nat, j ≤ m ∧ i = .int .i64 j ∧ Hid (OwnB w.heap.size wr o (P0 ++ numsB (n.after.take j))) ∧ Hid (Ext W2 wr)) (fun _ i _ => m - (intOf i).toNat)
  case atStart => exact ⟨0, by omega, rfl, Lib.hid (by rw [List.take_zero, numsB_nil, List.append_nil]; exact O5.out), D5⟩
  case round =>
    clear O5 D5
    obtain ⟨j, hj, rfl, HO, HE⟩ := hrel
    by_cases hlt : j < m
    · have hja : j < n.after.length := by have := HM.out; omega
      obtain ⟨bb, off, rfl, hbb, c0, hi0⟩ := int_at HR.out HE.out j hja
      have HI := Lib.hid hi0
      have hle := flat_take_le numB n.after j
      have HN : Hid (P0 ++ numsB (n.after.take j) ++ numB n.after[j] = P0 ++ numsB (n.after.take (j + 1))) := Lib.hid (by unfold numsB; rw [flat_at numB n.after j hja, List.append_assoc])
      have HLn : Hid ((P0 ++ numsB (n.after.take j)).length ≤ 1099511627776) := Lib.hid (by unfold numsB at hPl ⊢; simp only [List.length_append]; omega)
      have hj0 : (0 : Int) ≤ (j : Int) := by omega
      clear hi0 hle
      go_wp2_with fail
      refine (num_any _ _ wr HO.out.bytes HLn.out n.after[j] HI.out).mono ?_
      rintro e w6 ⟨v6, rfl, r6⟩
      have HE6 := Lib.hid (HE.out.trans r6.2)
      have HO6 : Hid (OwnB w.heap.size w6 v6 (P0 ++ numsB (n.after.take (j + 1)))) := Lib.hid (by rw [← HN.out]; exact r6.own.mono (by have := HE.out.size; omega))
      clear r6 c0 HO HE
      go_wp2
      go_roundw
      case rel => exact ⟨j + 1, by omega, by go_num, HO6, HE6⟩
      case measure => simp [intOf]; omega
    · have hjm : j = n.after.length := by have := HM.out; omega
      have hQ : ∃ vr, vr = u6 ∧ OwnB w.heap.size wr vr (P0 ++ numsB n.after) := ⟨u6, rfl, by have := HO.out; rwa [hjm, List.take_length] at this⟩
      obtain ⟨vr, rfl, hQ⟩ := hQ
      obtain ⟨P, hP⟩ : ∃ P, P = P0 ++ numsB n.after := ⟨_, rfl⟩
      have hPl2 : P.length + (numsB (nL n)).length + (numB n.tok).length + (bytesT n.val).length ≤ 1000000000 := by rw [hP]; simp only [List.length_append]; omega
      rw [← hP] at hQ HZ
      have HQ := Lib.hid hQ
      obtain ⟨wo, rfl⟩ : ∃ wo : World, wo = wr := ⟨_, rfl⟩
      have HS2 : Hid (∀ w', Ext wo w' → (w'.cell? ⟨w.heap.size, 11, none⟩ = some (.int .i64 n.tok) ∧ w'.cell? ⟨w.heap.size, 12, none⟩ = some k ∧ w'.cell? ⟨w.heap.size, 13, none⟩ = some N ∧ w'.cell? ⟨w.heap.size, 14, none⟩ = some s ∧ w'.cell? ⟨w.heap.size, 15, none⟩ = some l)) := Lib.hid (fun w' h => by
        have ⟨p0, p1, p2, p3, p4, p5, p6, p7, p8, p9, p10, p11, p12, p13, p14, p15⟩ := (HB.out.ext (HE.out.trans h)).n16
        exact ⟨p11, p12, p13, p14, p15⟩)
      have HP2o := Lib.hid (HP2.out.ext HE.out)
      have HLo := Lib.hid (HL.out.ext HE.out)
      have HWo := Lib.hid (HW.out.trans HE.out)
      have hzo := HWo.out.size
      clear hjm hQ hP hPl HO HP2 HL HW HE HB HR
      have HP2 := HP2o
      have HL := HLo
      clear HP2o HLo
      go_upto_region 9 with (fail)
      have G0 : Hid (Ext wo wo.drew) := Lib.hid (Ext.refl wo).drew
      have Q0 := Lib.hid (HQ.out.ext G0.out)
      refine wp_region_held_drew (S := (fun w' => w'.cell? ⟨w.heap.size, 11, none⟩ = some (.int .i64 n.tok) ∧ w'.cell? ⟨w.heap.size, 12, none⟩ = some k ∧ w'.cell? ⟨w.heap.size, 13, none⟩ = some N ∧ w'.cell? ⟨w.heap.size, 14, none⟩ = some s ∧ w'.cell? ⟨w.heap.size, 15, none⟩ = some l)) (by kernel_rfl) ?_ (fun hHeld => ?_)
      · (try dsimp only)
        (first | exact HS2.out _ G0.out | exact HS2.out _ G1.out | exact HS2.out _ G2.out | exact HS2.out _ G3.out | exact HS2.out _ G4.out)
      refine take_w 0 (some 43) (v := ?_) (by kernel_rfl) (by kernel_rfl) (by kernel_rfl) (by kernel_rfl) (by kernel_rfl) (fun _ _ _ h => h) (by rfl) ?_ (by assumption) ?_
      rotate_left
      · (intro w hSw; (try dsimp only at hSw); go_simp; try with_reducible rfl)
      try simp only [Act.put, List.setIfInBounds_toArray, List.set_cons_zero, List.set_cons_succ]
      refine take_w 1 (some 44) (v := ?_) (by kernel_rfl) (by kernel_rfl) (by kernel_rfl) (by kernel_rfl) (by kernel_rfl) (fun _ _ _ h => h) (by rfl) ?_ (by assumption) ?_
      rotate_left
      · (intro w hSw; (try dsimp only at hSw); go_simp; try with_reducible rfl)
      try simp only [Act.put, List.setIfInBounds_toArray, List.set_cons_zero, List.set_cons_succ]
      refine take_w 4 (some 47) (v := ?_) (by kernel_rfl) (by kernel_rfl) (by kernel_rfl) (by kernel_rfl) (by kernel_rfl) (fun _ _ _ h => h) (by rfl) ?_ (by assumption) ?_
      rotate_left
      · (intro w hSw; (try dsimp only at hSw); go_simp; try with_reducible rfl)
      try simp only [Act.put, List.setIfInBounds_toArray, List.set_cons_zero, List.set_cons_succ]
      refine take_w 5 (some 48) (v := ?_) (by kernel_rfl) (by kernel_rfl) (by kernel_rfl) (by kernel_rfl) (by kernel_rfl) (fun _ _ _ h => h) (by rfl) ?_ (by assumption) ?_
      rotate_left
      · (intro w hSw; (try dsimp only at hSw); go_simp; try with_reducible rfl)
      try simp only [Act.put, List.setIfInBounds_toArray, List.set_cons_zero, List.set_cons_succ]
      refine take_w 7 (some 50) (v := ?_) (by kernel_rfl) (by kernel_rfl) (by kernel_rfl) (by kernel_rfl) (by kernel_rfl) (fun _ _ _ h => h) (by rfl) ?_ (by assumption) ?_
      rotate_left
      · (intro w hSw; (try dsimp only at hSw); go_simp; try with_reducible rfl)
      try simp only [Act.put, List.setIfInBounds_toArray, List.set_cons_zero, List.set_cons_succ]
      refine take_w 8 (some 51) (v := ?_) (by kernel_rfl) (by kernel_rfl) (by kernel_rfl) (by kernel_rfl) (by kernel_rfl) (fun _ _ _ h => h) (by rfl) ?_ (by assumption) ?_
      rotate_left
      · (intro w hSw; (try dsimp only at hSw); go_simp; try with_reducible rfl)
      try simp only [Act.put, List.setIfInBounds_toArray, List.set_cons_zero, List.set_cons_succ]
      refine ready_one 2 (by kernel_rfl) (by kernel_rfl) (by rfl) (fun Kc hKc => ?_)
      go_simp
      refine (last_any w.heap.size (w.heap.size + 1) _).mono ?_
      rintro e z1 ⟨x1, rfl, hR, hE⟩
      have G1 := Lib.hid (G0.out.trans hE)
      have Q1 := Lib.hid (Q0.out.ext hE)
      have F1 := Lib.hid hR
      clear hR hE
      try go_wp2_with fail
      refine hKc.out _ _ ?_ (fun hHeld => ?_)
      · (try dsimp only)
        (first | exact HS2.out _ G0.out | exact HS2.out _ G1.out | exact HS2.out _ G2.out | exact HS2.out _ G3.out | exact HS2.out _ G4.out)
      clear hKc Kc
      try simp only [Act.put, List.setIfInBounds_toArray, List.set_cons_zero, List.set_cons_succ]
      refine ready_one 3 (by kernel_rfl) (by kernel_rfl) (by rfl) (fun Kc hKc => ?_)
      go_simp
      refine (nums_any _ (nL n) _ vr x1 _ Q1.out.bytes F1.out (HP2.out.ext G1.out) (by simp [lastF]) (by (try simp only [List.length_append]); omega)).mono ?_
      rintro e z2 ⟨x2, rfl, r⟩
      have G2 := Lib.hid (G1.out.trans r.2)
      have Q2 : Hid (OwnB w.heap.size z2 x2 (P ++ numsB (nL n))) := Lib.hid (r.own.mono (by have := G1.out.size; omega))
      clear r
      try go_wp2_with fail
      refine hKc.out _ _ ?_ (fun hHeld => ?_)
      · (try dsimp only)
        (first | exact HS2.out _ G0.out | exact HS2.out _ G1.out | exact HS2.out _ G2.out | exact HS2.out _ G3.out | exact HS2.out _ G4.out)
      clear hKc Kc
      try simp only [Act.put, List.setIfInBounds_toArray, List.set_cons_zero, List.set_cons_succ]
      refine ready_one 6 (by kernel_rfl) (by kernel_rfl) (by rfl) (fun Kc hKc => ?_)
      go_simp
      refine (num_any _ _ _ Q2.out.bytes (by (try simp only [List.length_append]); omega) n.tok HTI.out).mono ?_
      rintro e z3 ⟨x3, rfl, r⟩
      have G3 := Lib.hid (G2.out.trans r.2)
      have Q3 : Hid (OwnB w.heap.size z3 x3 (P ++ numsB (nL n) ++ numB n.tok)) := Lib.hid (r.own.mono (by have := G2.out.size; omega))
      clear r
      try go_wp2_with fail
      refine hKc.out _ _ ?_ (fun hHeld => ?_)
      · (try dsimp only)
        (first | exact HS2.out _ G0.out | exact HS2.out _ G1.out | exact HS2.out _ G2.out | exact HS2.out _ G3.out | exact HS2.out _ G4.out)
      clear hKc Kc
      try simp only [Act.put, List.setIfInBounds_toArray, List.set_cons_zero, List.set_cons_succ]
      refine ready_one 9 (by kernel_rfl) (by kernel_rfl) (by rfl) (fun Kc hKc => ?_)
      go_simp
      refine (put_any n.val _ x3 _ _ Q3.out.bytes (HL.out.ext G3.out) (by (try simp only [List.length_append]); omega)).mono ?_
      rintro e z4 ⟨x4, rfl, r⟩
      have G4 := Lib.hid (G3.out.trans r.2)
      have Q4 : Hid (OwnB w.heap.size z4 x4 (P ++ numsB (nL n) ++ numB n.tok ++ bytesT n.val)) := Lib.hid (r.own.mono (by have := G3.out.size; omega))
      clear r
      try go_wp2_with fail
      refine hKc.out _ _ ?_ (fun hHeld => ?_)
      · (try dsimp only)
        (first | exact HS2.out _ G0.out | exact HS2.out _ G1.out | exact HS2.out _ G2.out | exact HS2.out _ G3.out | exact HS2.out _ G4.out)
      clear hKc Kc
      try simp only [Act.put, List.setIfInBounds_toArray, List.set_cons_zero, List.set_cons_succ]
      refine take_w 10 (some 4) (v := ?_) (by kernel_rfl) (by kernel_rfl) (by kernel_rfl) (by kernel_rfl) (by kernel_rfl) (fun _ _ _ h => h) (by rfl) ?_ (by assumption) ?_
      rotate_left
      · (intro w hSw; (try dsimp only at hSw); go_simp; try with_reducible rfl)
      try simp only [Act.put, List.setIfInBounds_toArray, List.set_cons_zero, List.set_cons_succ]
      refine wpAnyH_done (by kernel_rfl) ?_ _

      have HX : Hid (RetBytes w (xs ++ ndBy n) (.returned x4) z4) := Lib.hid (by rw [← HZ.out]; exact ⟨x4, rfl, Q4.out, HWo.out.trans G4.out⟩)
      clear Q0 Q1 Q2 Q3 Q4 F1 HP2 HL HS2 HZ
      go_wp2
      go_ret
      exact HX.out

/-- What Bytes comes to. -/
def SBytes (s : Sn) (w : World) (e : Ending) (w' : World) : Prop := ∃ (a : Option Addr) (m c : Nat) (n : Int), e = .returned (.tuple #[.slice a m c, .int .i64 n]) ∧ Ext w w' ∧ (snB s = false → n = 2 ∧ m = 0) ∧ (snB s = true → n = 0 ∧ OwnB w.heap.size w' (.slice a m c) (snBy s))
theorem info_ndE : (Tryz.prog.info? 59).map (·.size) = some 16 := by kernel_rfl

set_option maxRecDepth 100000 in
set_option maxHeartbeats 16000000 in
theorem sbytes_any (s : Sn) (w : World) (v : Value) (h : SnV w s v) :
    Calls Tryz.prog 8 #[v] w (SBytes s w) := by
  have HV := Lib.hid h
  obtain ⟨a, m, c, rfl, hr, i1, i2, i3, i4, i5, i6, i7⟩ := h
  have hm : m = s.nodes.length := by obtain ⟨_, _, e, _⟩ := hr.slice; injection e
  have hml : m ≤ 9223372036854775807 := by rw [hm]; exact hr.length_le
  have b1 := BoxL.new w [.int .i64 s.cq, .int .i64 s.cd, .int .i64 s.cw, .int .i64 s.cr, .int .i64 s.cf, .int .i64 s.flows, .slice a m c, .int .i64 s.tok] 26
  have e1 := (Ext.refl w).alloc (.cells #[.int .i64 s.cq, .int .i64 s.cd, .int .i64 s.cw, .int .i64 s.cr, .int .i64 s.cf, .int .i64 s.flows, .slice a m c, .int .i64 s.tok] 26)
  have HR := Lib.hid (hr.ext e1)
  have HP : Hid (Pts (w.alloc (.cells #[.int .i64 s.cq, .int .i64 s.cd, .int .i64 s.cw, .int .i64 s.cr, .int .i64 s.cf, .int .i64 s.flows, .slice a m c, .int .i64 s.tok] 26)) (headF w.heap.size) (nH s)) := Lib.hid (by
    unfold headF nH
    exact .cons (b1.cell 0 _ rfl) b1.lt i1 (.cons (b1.cell 1 _ rfl) b1.lt i2 (.cons (b1.cell 2 _ rfl) b1.lt i3 (.cons (b1.cell 3 _ rfl) b1.lt i4 (.cons (b1.cell 4 _ rfl) b1.lt i5 (.cons (b1.cell 5 _ rfl) b1.lt i6 (.nil _)))))))
  have HV1 := Lib.hid (HV.out.ext e1)
  have HB := Lib.hid b1
  have HW := Lib.hid e1
  have HM := Lib.hid hm
  have HTI := Lib.hid i7
  have HMi := Lib.hid (i64_nat m hml)
  clear hr b1 e1 hm i1 i2 i3 i4 i5 i6 i7 HV
  go_enter Tryz.func8, Tryz.ntmps8
  go_upto_region 1 with (fail)
  generalize w.alloc (.cells #[.int .i64 s.cq, .int .i64 s.cd, .int .i64 s.cw, .int .i64 s.cr, .int .i64 s.cf, .int .i64 s.flows, .slice a m c, .int .i64 s.tok] 26) = W1 at *
  have ⟨p0, p1, p2, p3, p4, p5, p6, p7⟩ := HB.out.n8
  go_wp2_with fail
  refine (sright_any s W1 _ HV1.out).mono ?_
  rintro e w2 ⟨rfl, hE2⟩
  have HE2 := Lib.hid hE2
  clear hE2 p0 p1 p2 p3 p4 p5 p6 p7
  cases hq : snB s with
  | false =>
    have HX : Hid (SBytes s w (.returned (.tuple #[.slice none 0 0, .int .i64 2])) w2) := Lib.hid ⟨none, 0, 0, 2, rfl, HW.out.trans HE2.out, (fun _ => ⟨rfl, rfl⟩), fun h => by rw [hq] at h; cases h⟩
    clear hq
    go_wp2
    go_ret2
    exact HX.out
  | true =>
  have Q := Lib.hid hq
  have hsz := (snB_iff.1 hq).2.2.1
  have hal := (snB_iff.1 hq).2.2.2
  have HA := Lib.hid hal
  have hnl := nodesBy_le hal
  have l1 : (numsB (nH s)).length ≤ 60 := by have := flat_len numB 10 (nH s) (fun x _ => numB_le x); have e : (nH s).length = 6 := rfl; rw [e] at this; exact this
  have l2 := numB_le s.tok
  have l3 := numB_le m
  have hm48 : m ≤ 4800 := by have := HM.out; omega
  clear hq hal
  have HS : Hid (∀ w', Ext w2 w' → (w'.cell? ⟨w.heap.size, 6, none⟩ = some (.slice a m c) ∧ w'.cell? ⟨w.heap.size, 7, none⟩ = some (.int .i64 s.tok))) := Lib.hid (fun w' h => by
    have ⟨p0, p1, p2, p3, p4, p5, p6, p7⟩ := (HB.out.ext (HE2.out.trans h)).n8
    exact ⟨p6, p7⟩)
  have HPw := Lib.hid (HP.out.ext HE2.out)
  clear HP
  have HP := HPw
  clear HPw
  have hzz := (HW.out.trans HE2.out).size
  have D0 : Hid (Ext w2 w2.drew) := Lib.hid (Ext.refl w2).drew
  go_upto_region 3 with (fail)
  refine wp_region_held_drew (S := (fun w' => w'.cell? ⟨w.heap.size, 6, none⟩ = some (.slice a m c) ∧ w'.cell? ⟨w.heap.size, 7, none⟩ = some (.int .i64 s.tok))) (by kernel_rfl) ?_ (fun hHeld => ?_)
  · (try dsimp only)
    (first | exact HS.out _ D0.out | exact HS.out _ D1.out | exact HS.out _ D2.out | exact HS.out _ D3.out | exact HS.out _ D4.out)
  refine take_w 2 (some 13) (v := ?_) (by kernel_rfl) (by kernel_rfl) (by kernel_rfl) (by kernel_rfl) (by kernel_rfl) (fun _ _ _ h => h) (by rfl) ?_ (by assumption) ?_
  rotate_left
  · (intro w hSw; (try dsimp only at hSw); go_simp; try with_reducible rfl)
  try simp only [Act.put, List.setIfInBounds_toArray, List.set_cons_zero, List.set_cons_succ]
  refine take_w 3 (some 14) (v := ?_) (by kernel_rfl) (by kernel_rfl) (by kernel_rfl) (by kernel_rfl) (by kernel_rfl) (fun _ _ _ h => h) (by rfl) ?_ (by assumption) ?_
  rotate_left
  · (intro w hSw; (try dsimp only at hSw); go_simp; try with_reducible rfl)
  try simp only [Act.put, List.setIfInBounds_toArray, List.set_cons_zero, List.set_cons_succ]
  refine take_w 5 (some 16) (v := ?_) (by kernel_rfl) (by kernel_rfl) (by kernel_rfl) (by kernel_rfl) (by kernel_rfl) (fun _ _ _ h => h) (by rfl) ?_ (by assumption) ?_
  rotate_left
  · (intro w hSw; (try dsimp only at hSw); go_simp; try with_reducible rfl)
  try simp only [Act.put, List.setIfInBounds_toArray, List.set_cons_zero, List.set_cons_succ]
  refine take_w 6 (some 17) (v := ?_) (by kernel_rfl) (by kernel_rfl) (by kernel_rfl) (by kernel_rfl) (by kernel_rfl) (fun _ _ _ h => h) (by rfl) ?_ (by assumption) ?_
  rotate_left
  · (intro w hSw; (try dsimp only at hSw); go_simp; try with_reducible rfl)
  try simp only [Act.put, List.setIfInBounds_toArray, List.set_cons_zero, List.set_cons_succ]
  refine take_w 7 (some 18) (v := ?_) (by kernel_rfl) (by kernel_rfl) (by kernel_rfl) (by kernel_rfl) (by kernel_rfl) (fun _ _ _ h => h) (by rfl) ?_ (by assumption) ?_
  rotate_left
  · (intro w hSw; (try dsimp only at hSw); go_simp; try with_reducible rfl)
  try simp only [Act.put, List.setIfInBounds_toArray, List.set_cons_zero, List.set_cons_succ]
  refine ready_one 0 (by kernel_rfl) (by kernel_rfl) (by rfl) (fun Kc hKc => ?_)
  go_simp
  refine (head_any w.heap.size _).mono ?_
  rintro e y1 ⟨v1, rfl, hR1, hE1⟩
  have D1 := Lib.hid (D0.out.trans hE1)
  have F1 := Lib.hid hR1
  clear hR1 hE1
  try go_wp2_with fail
  refine hKc.out _ _ ?_ (fun hHeld => ?_)
  · (try dsimp only)
    (first | exact HS.out _ D0.out | exact HS.out _ D1.out | exact HS.out _ D2.out | exact HS.out _ D3.out | exact HS.out _ D4.out)
  clear hKc Kc
  try simp only [Act.put, List.setIfInBounds_toArray, List.set_cons_zero, List.set_cons_succ]
  refine ready_one 1 (by kernel_rfl) (by kernel_rfl) (by rfl) (fun Kc hKc => ?_)
  go_simp
  refine (nums_any _ (nH s) _ _ v1 [] (Bytes.nil _) F1.out (HP.out.ext D1.out) (by simp [headF]) (by rw [List.length_nil]; omega)).mono ?_
  rintro e y2 ⟨v2, rfl, r2⟩
  have D2 := Lib.hid (D1.out.trans r2.2)
  have O2 : Hid (OwnB w.heap.size y2 v2 (numsB (nH s))) := Lib.hid (r2.own.mono (by have := D1.out.size; omega))
  clear r2
  try go_wp2_with fail
  refine hKc.out _ _ ?_ (fun hHeld => ?_)
  · (try dsimp only)
    (first | exact HS.out _ D0.out | exact HS.out _ D1.out | exact HS.out _ D2.out | exact HS.out _ D3.out | exact HS.out _ D4.out)
  clear hKc Kc
  try simp only [Act.put, List.setIfInBounds_toArray, List.set_cons_zero, List.set_cons_succ]
  refine ready_one 4 (by kernel_rfl) (by kernel_rfl) (by rfl) (fun Kc hKc => ?_)
  go_simp
  refine (num_any _ _ _ O2.out.bytes (by (try simp only [List.length_append]); omega) s.tok HTI.out).mono ?_
  rintro e y3 ⟨v3, rfl, r3⟩
  have D3 := Lib.hid (D2.out.trans r3.2)
  have O3 : Hid (OwnB w.heap.size y3 v3 (numsB (nH s) ++ numB s.tok)) := Lib.hid (r3.own.mono (by have := D2.out.size; omega))
  clear r3
  try go_wp2_with fail
  refine hKc.out _ _ ?_ (fun hHeld => ?_)
  · (try dsimp only)
    (first | exact HS.out _ D0.out | exact HS.out _ D1.out | exact HS.out _ D2.out | exact HS.out _ D3.out | exact HS.out _ D4.out)
  clear hKc Kc
  try simp only [Act.put, List.setIfInBounds_toArray, List.set_cons_zero, List.set_cons_succ]
  refine ready_one 8 (by kernel_rfl) (by kernel_rfl) (by rfl) (fun Kc hKc => ?_)
  go_simp
  refine (num_any _ _ _ O3.out.bytes (by (try simp only [List.length_append]); omega) (m : Int) HMi.out).mono ?_
  rintro e y4 ⟨v4, rfl, r4⟩
  have D4 := Lib.hid (D3.out.trans r4.2)
  have O4 : Hid (OwnB w.heap.size y4 v4 (numsB (nH s) ++ numB s.tok ++ numB m)) := Lib.hid (r4.own.mono (by have := D3.out.size; omega))
  clear r4
  try go_wp2_with fail
  refine hKc.out _ _ ?_ (fun hHeld => ?_)
  · (try dsimp only)
    (first | exact HS.out _ D0.out | exact HS.out _ D1.out | exact HS.out _ D2.out | exact HS.out _ D3.out | exact HS.out _ D4.out)
  clear hKc Kc
  try simp only [Act.put, List.setIfInBounds_toArray, List.set_cons_zero, List.set_cons_succ]
  refine take_w 9 (some 4) (v := ?_) (by kernel_rfl) (by kernel_rfl) (by kernel_rfl) (by kernel_rfl) (by kernel_rfl) (fun _ _ _ h => h) (by rfl) ?_ (by assumption) ?_
  rotate_left
  · (intro w hSw; (try dsimp only at hSw); go_simp; try with_reducible rfl)
  try simp only [Act.put, List.setIfInBounds_toArray, List.set_cons_zero, List.set_cons_succ]
  refine wpAnyH_done (by kernel_rfl) ?_ _

  clear O2 O3 F1 D0 D1 D2 D3 HS HP
  have HW4 := Lib.hid (HE2.out.trans D4.out)
  have ⟨p0, p1, p2, p3, p4, p5, p6, p7⟩ := (HB.out.ext HW4.out).n8
  go_wp2_with fail
  clear p0 p1 p2 p3 p4 p5 p6 p7
  have hz4 := (HW.out.trans HW4.out).size
  go_loopw [5, 23] (fun o i wr => ∃ j : Nat, j ≤ m ∧ i = .int .i64 j ∧ Hid (OwnBs y4.heap.size wr o ((s.nodes.take j).map ndBy)) ∧ Hid (Ext y4 wr)) (fun _ i _ => m - (intOf i).toNat)
  case atStart => exact ⟨0, by omega, rfl, Lib.hid (by simpa using OwnBs.nil _ _), Lib.hid (Ext.refl _)⟩
  case round =>
    obtain ⟨j, hj, rfl, HO, HE⟩ := hrel
    by_cases hlt : j < m
    · have hjn : j < s.nodes.length := by have := HM.out; omega
      obtain ⟨wo, rfl⟩ : ∃ wo : World, wo = wr := ⟨_, rfl⟩
      have HEw := Lib.hid (HW4.out.trans HE.out)
      obtain ⟨bb, off, rfl, hbb, C, hC, hC1, hRg, hs⟩ := nd_op HR.out HEw.out j hjn
      have HC := Lib.hid (show wo.rangeAt bb (off + j * 16) C from hRg)
      have HC0 := Lib.hid hC
      have HC1 := Lib.hid hC1
      have HS := Lib.hid (hs.ext HEw.out)
      have HCi : Hid ((Tryz.prog.info? 59).map (·.size) = some C.length) := Lib.hid (by rw [hC]; exact info_ndE)
      have hzo := HE.out.size
      have hj0 : (0 : Int) ≤ (j : Int) := by omega
      clear hs hC hC1 hRg hbb
      go_upto_region 8 with (first | (refine wpList_load_mid rfl _ _ rfl _ _ rfl _ _ HC.out Tryz.underlying59 rfl HCi.out ?_) | (refine wpList_storeBox rfl _ _ _ rfl _ _ _ _ rfl rfl rfl rfl info_ndE rfl HC0.out HC1.out ?_))
      have hE1 := (Ext.refl wo).alloc (.cells C.toArray 59)
      have hX := rangeAt_new wo C 59
      generalize wo.alloc (.cells C.toArray 59) = W3 at *
      have HE1 := Lib.hid hE1
      have HX := Lib.hid hX
      have hz3 := hE1.size
      have HNn : Hid ((ndBy s.nodes[j]).length ≤ 25000) := Lib.hid (ndBy_le (List.all_eq_true.1 HA.out _ (List.getElem_mem hjn)))
      clear hE1 hX
      go_wp2_with (refine wpList_load_mid rfl _ _ rfl _ _ rfl _ _ HX.out Tryz.underlying59 rfl HCi.out ?_)
      refine (nput_any s.nodes[j] W3 _ _ [] (Bytes.nil _) (HS.out.ext HE1.out) (by have := HNn.out; rw [List.length_nil]; omega)).mono ?_
      rintro e w5 ⟨v5, rfl, r5⟩
      rw [List.nil_append] at r5
      obtain ⟨a5, m5, c5, rfl⟩ := r5.own.slice
      have HO5 := Lib.hid (r5.own.ext ((Ext.refl w5).alloc (.cells #[.slice a5 m5 c5] 27)))
      have HE5 := Lib.hid (r5.2.alloc (.cells #[.slice a5 m5 c5] 27))
      have HNb : Hid ((w5.alloc (.cells #[.slice a5 m5 c5] 27)).heap[w5.heap.size]? = some (.cells [.slice a5 m5 c5].toArray 27 (0, 0))) := Lib.hid (heap_alloc_new w5 _)
      have hz5 := HE5.out.size
      obtain ⟨LS, hLS⟩ : ∃ LS, LS = (s.nodes.take j).map ndBy := ⟨_, rfl⟩
      have hlen : LS.length = j := by rw [hLS, List.length_map, List.length_take]; omega
      have HLS := Lib.hid hLS
      rw [← hLS] at HO
      obtain ⟨ds, g1, g2, g3⟩ := HO.out.ext (HE1.out.trans HE5.out)
      have G1 := Lib.hid g1
      have G2 := Lib.hid g2
      have G3 := Lib.hid g3
      have hob := fun b hb => (HO.out.row_lt b hb)
      have HOB := Lib.hid hob
      have hjk : LS.length ≤ 100000 := by omega
      clear r5 g1 g2 g3 hlen hob HO hLS
      go_wp2_with (at_builtin; refine wpList_appOneB elem_bys rfl _ _ rfl rfl G2.out rfl HNb.out rfl (by simp [Value.oneCell']) hjk (by omega) (by omega) ?_)
      intro v6 w6 hown6 hg6 hat6
      have HO6 : Hid (OwnBs y4.heap.size w6 v6 ((s.nodes.take (j + 1)).map ndBy)) := Lib.hid (by
        rw [List.take_add_one, List.getElem?_eq_getElem hjn, Option.toList_some, List.map_append, List.map_cons, List.map_nil, ← HLS.out]
        refine OwnBs.snoc G1.out G3.out (HO5.out.mono (by omega)) (fun b hb e => ?_) hown6 hg6 (by simp only [World.size_alloc]; exact hat6)
        have q1 := (World.ownsRow.lt (show World.ownsRow _ _ _ _ _ _ _ from HO5.out) b hb).1
        have q2 := HOB.out b e
        omega)
      have HE6 : Hid (Ext y4 w6) := Lib.hid ((HE.out.trans (HE1.out.trans HE5.out)).grown hg6 (fun x hx => by have := World.ownsRow.lt G2.out x hx; omega))
      clear hown6 hg6 hat6 HOB G1 G2 G3 HNb HO5 HE5 HE1 HE HX HS HC
      go_wp2
      go_roundw
      case rel => exact ⟨j + 1, by omega, by go_num, HO6, HE6⟩
      case measure => simp [intOf]; omega
    · have hjm : j = s.nodes.length := by have := HM.out; omega
      have hQ : ∃ vr, vr = u5 ∧ bysE.Row wr (s.nodes.map ndBy) vr := ⟨u5, rfl, by have := HO.out.row; rwa [hjm, List.take_length] at this⟩
      obtain ⟨vr, rfl, hQ⟩ := hQ
      obtain ⟨av, cv, hvr, -⟩ := hQ.slice
      have HQ := Lib.hid hQ
      obtain ⟨wo, rfl⟩ : ∃ wo : World, wo = wr := ⟨_, rfl⟩
      have hzo := HE.out.size
      have HO4 := Lib.hid (O4.out.ext HE.out)
      have hfl : (s.nodes.map ndBy).flatten.length ≤ 1000000000 := by have : (s.nodes.map ndBy).flatten = nodesBy s.nodes := rfl; rw [this]; omega
      have HFL := Lib.hid hfl
      have HNl : Hid ((nodesBy s.nodes).length ≤ 120000000) := Lib.hid (by have : s.nodes.length * 25000 ≤ 4800 * 25000 := Nat.mul_le_mul hsz (Nat.le_refl _); omega)
      clear hjm hQ hvr HO O4 hfl hnl hsz
      go_wp2_with fail
      refine (concat_any (s.nodes.map ndBy) wo _ HQ.out HFL.out).mono ?_
      rintro e w7 ⟨v7, rfl, r7⟩
      have HB7 := Lib.hid (show Bytes w7 v7 (nodesBy s.nodes) from r7.own.bytes)
      have HO7 := Lib.hid (HO4.out.ext r7.2)
      have HE7 := Lib.hid ((HW.out.trans (HW4.out.trans HE.out)).trans r7.2)
      have hz7 := HE7.out.size
      clear r7 HO4 HE HQ
      go_wp2_with (at_builtin; refine appB rfl _ _ rfl rfl HO7.out rfl HB7.out ?b1 hz7 ?_)
      case b1 => have := HNl.out; simp only [List.length_append]; omega
      intro v8 w8 o8 _ B8
      obtain ⟨a8, m8, c8, rfl⟩ := o8.slice
      have HX : Hid (SBytes s w (.returned (.tuple #[.slice a8 m8 c8, .int .i64 0])) w8) := Lib.hid ⟨a8, m8, c8, 0, rfl, HE7.out.then B8, (fun h => by rw [Q.out] at h; cases h), fun _ => ⟨rfl, by
        have e : snBy s = numsB (nH s) ++ numB s.tok ++ numB m ++ nodesBy s.nodes := by unfold snBy; rw [HM.out]; simp only [List.append_assoc]
        rw [e]; simpa only [List.append_assoc] using o8⟩⟩
      clear o8 B8 HO7 HB7 HE7
      go_wp2
      go_ret2
      exact HX.out
end Go.Proofs.YtdienbcjfljjnaaGreatDoor
