/- ValueOne answers true at every input. -/
import Derived.Test.YtdmdabcjoealhaaDoorAwakeA
import Derived.Test.YtdmdabcjoealhaaDoorTreeI
open Go.RowKit Go.Shelf
namespace Go.Proofs.YtdmdabcjoealhaaDoor
open Go Go.Proofs Fm

theorem lies_four {w : World} {t : Tr} {v : Value} (hv : Lies w t v) : ∃ (k : Int) (n : Int) (s : ByteArray) (a : Option Addr) (m c : Nat), v = .agg #[.int .u8 k, .int .i64 n, .string s, .slice a m c] := by
  obtain ⟨k, n, s, l⟩ := t
  obtain ⟨dd, rfl, hn, hs, hl⟩ := hv.parts
  obtain ⟨a, cap, rfl, _⟩ := hl
  exact ⟨_, _, _, _, _, _, rfl⟩

theorem same_is {a b : Value} {xs ys : List UInt8} {w : World} (ha : Bytes w a xs) (hb : Bytes w b ys) {q : Bool} (h : decide (xs = ys) = q) :
    Calls Tryd.prog 12 #[a, b] w fun e w' => e = .returned (.bool q) ∧ w = w' := by
  subst h
  exact same_any a b xs ys w ha hb
theorem VBytes.any {w : World} {t : Tr} {e : Ending} {w' : World} (h : VBytes w t e w') : ∃ (a : Option Addr) (m c : Nat) (n : Int), e = .returned (.tuple #[.slice a m c, .int .i64 n]) ∧ Ext w w' ∧ (rightT t = false → n = 2) ∧ (rightT t = true → n = 0 ∧ Bytes w' (.slice a m c) (bytesT t)) := by
  unfold VBytes at h
  by_cases hr : rightT t = true
  · rw [if_pos hr] at h
    obtain ⟨v, rfl, ho⟩ := h
    obtain ⟨a, cap, rfl, -⟩ := id ho.bytes
    refine ⟨_, _, _, _, rfl, ho.2, fun h => ?_, fun _ => ⟨rfl, ho.bytes⟩⟩
    rw [hr] at h; cases h
  · rw [if_neg hr] at h
    obtain ⟨rfl, hE⟩ := h
    exact ⟨_, _, _, _, rfl, hE, fun _ => rfl, fun h => absurd h hr⟩

set_option maxRecDepth 100000 in
set_option maxHeartbeats 4000000 in
theorem valueOne_any (w : World) (b : Value) (xs : List UInt8) (hb : Bytes w b xs) (t : Tr) (v : Value) (hv : Lies w t v) (u : Tr) (x : Value) (hx : Lies w u x) (hT : Tab w) :
    Calls Tryd.prog 3 #[b, v, x] w fun e w' => e = .returned (.bool true) ∧ Ext w w' := by
  have HT := Lib.hid hT
  have HV := Lib.hid hv
  have HX := Lib.hid hx
  have HB := Lib.hid hb
  obtain ⟨k, n, s, ad, md, cd, rfl⟩ := lies_four hv
  obtain ⟨k', n', s', ad', md', cd', rfl⟩ := lies_four hx
  obtain ⟨ab, capb, rfl, hcb, hcm, -⟩ := id hb
  have hlm := hb.length_le
  clear hT hv hx hb
  have HE0 : Hid (Ext w ((w.alloc (.cells #[.int .u8 k, .int .i64 n, .string s, .slice ad md cd] 25)).alloc (.cells #[.int .u8 k', .int .i64 n', .string s', .slice ad' md' cd'] 25))) := Lib.hid (((Ext.refl w).alloc _).alloc _)
  by_cases hbig : 1500 < xs.length
  · have hb1 : (1500 : Int) < (xs.length : Int) := by omega
    have HTa := Lib.hid (HT.out.ext HE0.out)
    go_enter Tryd.func3, Tryd.ntmps3
    go_wp2_with fail
    refine (awake08 _ HTa.out).mono ?_
    rintro e w2 ⟨rfl, hEz⟩
    have HEz := Lib.hid (HE0.out.trans hEz)
    clear hEz
    go_wp2
    go_ret
    exact ⟨rfl, HEz.out⟩
  have hb1 : ¬ (1500 : Int) < (xs.length : Int) := by omega
  have hBv : Box4 ((w.alloc (.cells #[.int .u8 k, .int .i64 n, .string s, .slice ad md cd] 25)).alloc (.cells #[.int .u8 k', .int .i64 n', .string s', .slice ad' md' cd'] 25)) w.heap.size (.int .u8 k) (.int .i64 n) (.string s) (.slice ad md cd) := (Box4.new w _ _ _ _).ext ((Ext.refl _).alloc _)
  have hBx : Box4 ((w.alloc (.cells #[.int .u8 k, .int .i64 n, .string s, .slice ad md cd] 25)).alloc (.cells #[.int .u8 k', .int .i64 n', .string s', .slice ad' md' cd'] 25)) (w.heap.size + 1) (.int .u8 k') (.int .i64 n') (.string s') (.slice ad' md' cd') := by
    have := Box4.new (w.alloc (.cells #[.int .u8 k, .int .i64 n, .string s, .slice ad md cd] 25)) (.int .u8 k') (.int .i64 n') (.string s') (.slice ad' md' cd')
    rwa [show (w.alloc (.cells #[.int .u8 k, .int .i64 n, .string s, .slice ad md cd] 25)).heap.size = w.heap.size + 1 by simp] at this
  go_enter Tryd.func3, Tryd.ntmps3
  go_wp2_with fail
  generalize ((w.alloc (.cells #[.int .u8 k, .int .i64 n, .string s, .slice ad md cd] 25)).alloc (.cells #[.int .u8 k', .int .i64 n', .string s', .slice ad' md' cd'] 25)) = W0 at *
  refine (Few_any t W0 _ (HV.out.ext HE0.out)).mono ?_
  rintro e w1 ⟨rfl, hE1⟩
  have HE1 := Lib.hid (HE0.out.trans hE1)
  have HBv1 := Lib.hid (hBv.ext hE1)
  have HBx1 := Lib.hid (hBx.ext hE1)
  clear hBv hBx hE1 HE0
  by_cases hf : fewT 20 t ≤ 600
  case neg =>
    have hfd : decide (fewT 20 t ≤ 600) = false := decide_eq_false hf
    rw [hfd]
    clear hfd hf
    have HTa := Lib.hid (HT.out.ext HE1.out)
    go_wp2_with fail
    refine (awake08 _ HTa.out).mono ?_
    rintro e w2 ⟨rfl, hEz⟩
    have HEz := Lib.hid (HE1.out.trans hEz)
    clear hEz
    go_wp2
    go_ret
    exact ⟨rfl, HEz.out⟩
  have hfd : decide (fewT 20 t ≤ 600) = true := decide_eq_true hf
  rw [hfd]
  clear hfd hf
  obtain ⟨p0, p1, p2, p3⟩ := HBx1.out.cells
  go_wp2_with fail
  refine (Few_any u w1 _ (HX.out.ext HE1.out)).mono ?_
  rintro e w2 ⟨rfl, hE2⟩
  have HE2 := Lib.hid (HE1.out.trans hE2)
  have HBv2 := Lib.hid (HBv1.out.ext hE2)
  have HBx2 := Lib.hid (HBx1.out.ext hE2)
  clear p0 p1 p2 p3 hE2 HE1 HBv1 HBx1
  by_cases hf : fewT 20 u ≤ 600
  case neg =>
    have hfd : decide (fewT 20 u ≤ 600) = false := decide_eq_false hf
    rw [hfd]
    clear hfd hf
    have HTa := Lib.hid (HT.out.ext HE2.out)
    go_wp2_with fail
    refine (awake08 _ HTa.out).mono ?_
    rintro e w3 ⟨rfl, hEz⟩
    have HEz := Lib.hid (HE2.out.trans hEz)
    clear hEz
    go_wp2
    go_ret
    exact ⟨rfl, HEz.out⟩
  have hfd : decide (fewT 20 u ≤ 600) = true := decide_eq_true hf
  rw [hfd]
  clear hfd hf
  go_wp2_with fail
  refine (vtake_any _ xs w2 (HB.out.ext HE2.out)).mono ?_
  intro e w3 hp3
  unfold TakePost at hp3
  have hlv := HBv2.out.lt
  have hlx := HBx2.out.lt
  cases hTk : takeV' xs
  case' none =>
    rw [hTk] at hp3
    obtain ⟨rfl, hE3⟩ := hp3
    have HE3 := Lib.hid (HE2.out.trans hE3)
    clear hTk
    go_wp2_with fail
    have hEa := hE3.alloc (.cells #[.int .u8 0, .int .i64 0, .string (str []), .slice none 0 0] 25)
    have hE3b := HE3.out.alloc (.cells #[.int .u8 0, .int .i64 0, .string (str []), .slice none 0 0] 25)
    generalize w3.alloc (.cells #[.int .u8 0, .int .i64 0, .string (str []), .slice none 0 0] 25) = W3 at *
    have HE4 := Lib.hid hE3b
    clear hE3b
    go_quiet (fail)
    have HE5 := Lib.hid (HE4.out.drewN nq)
    have HBv5 := Lib.hid (HBv2.out.ext (hEa.trans ((Ext.refl W3).drewN nq)))
    have HBx5 := Lib.hid (HBx2.out.ext (hEa.trans ((Ext.refl W3).drewN nq)))
    clear HE4 HE3 HE2 HBv2 HBx2 hEa
    generalize W3.drewN nq = w4 at *
    clear W3
  case' some p =>
    obtain ⟨z, r⟩ := p
    rw [hTk] at hp3
    obtain ⟨vz, vr, rfl, hE3, hOz, hr⟩ := hp3
    obtain ⟨kz, nz, sz, az, mz, cz, rfl⟩ := ownT_four hOz
    obtain ⟨ar, capr, rfl, -⟩ := id hr
    obtain ⟨hxz, hrz, hnz⟩ := takeV_inv hTk
    have HRz := Lib.hid hrz
    have HE3 := Lib.hid (HE2.out.trans hE3)
    have hOz3 := hOz.ext ((Ext.refl w3).alloc (.cells #[.int .u8 kz, .int .i64 nz, .string sz, .slice az mz cz] 25))
    have hb3 : Box4 (w3.alloc (.cells #[.int .u8 kz, .int .i64 nz, .string sz, .slice az mz cz] 25)) w3.heap.size (.int .u8 kz) (.int .i64 nz) (.string sz) (.slice az mz cz) := Box4.new w3 _ _ _ _
    have hEa := hE3.alloc (.cells #[.int .u8 kz, .int .i64 nz, .string sz, .slice az mz cz] 25)
    have hE3b := HE3.out.alloc (.cells #[.int .u8 kz, .int .i64 nz, .string sz, .slice az mz cz] 25)
    have HXZ := Lib.hid hxz
    clear hTk hr hOz hE3 hxz hrz
    go_wp2_with fail
    have hxz := HXZ.out
    generalize w3.alloc (.cells #[.int .u8 kz, .int .i64 nz, .string sz, .slice az mz cz] 25) = W3 at *
    have hK2 : (bytesT z).length ≤ xs.length := by rw [hxz, List.length_append]; omega
    have HDr : Hid (Ext W3 W3.drew) := Lib.hid (Ext.refl W3).drew
    have HE3b := Lib.hid hE3b
    have HLz : Hid (∀ wx, Ext W3 wx → Lies wx z (.agg #[.int .u8 kz, .int .i64 nz, .string sz, .slice az mz cz])) := Lib.hid (fun wx h => (hOz3.ext h).lies)
    have HS : Hid (∀ w', Ext W3 w' → (w'.cell? ⟨w3.heap.size, 0, none⟩ = some (.int .u8 kz) ∧ w'.cell? ⟨w3.heap.size, 1, none⟩ = some (.int .i64 nz) ∧ w'.cell? ⟨w3.heap.size, 2, none⟩ = some (.string sz) ∧ w'.cell? ⟨w3.heap.size, 3, none⟩ = some (.slice az mz cz))) := Lib.hid (fun w' h => (hb3.ext h).cells)
    have hlen : xs.length = (bytesT z).length + r.length := by rw [hxz, List.length_append]
    obtain ⟨K, hK⟩ : ∃ K : Nat, K = (bytesT z).length := ⟨_, rfl⟩
    have hsub : (IntKind.i64.wrap ((xs.length : Int) - (r.length : Int))) = (K : Int) := by rw [IntWalk.i64_in _ (by omega)]; omega
    have hK0 : (0 : Int) ≤ (K : Int) := by omega
    have hKc : (K : Int) ≤ (capb : Int) := by omega
    have hsk := fun w' => slice_upto ab xs.length capb (K : Int) hK0 hKc w'
    simp only [takeV, Int.toNat_natCast] at hsk
    have HTkB : Hid (∀ wx, Ext w wx → Bytes wx (.slice ab K capb) (bytesT z)) := Lib.hid (fun wx h => by
      have h1 := (HB.out.ext h).take (k := K) (by omega)
      rwa [hxz, hK, List.take_left, ← hK] at h1)
    have HLb : Hid ((bytesT z).length ≤ 1500) := Lib.hid (by omega)
    have HNil : Hid (∀ wx, Bytes wx (.slice none 0 0) []) := Lib.hid Bytes.nil
    clear hE3b hOz3 hb3 hlen hK hnz hxz hK2
    go_region_held3 (fun w' => w'.cell? ⟨w3.heap.size, 0, none⟩ = some (.int .u8 kz) ∧ w'.cell? ⟨w3.heap.size, 1, none⟩ = some (.int .i64 nz) ∧ w'.cell? ⟨w3.heap.size, 2, none⟩ = some (.string sz) ∧ w'.cell? ⟨w3.heap.size, 3, none⟩ = some (.slice az mz cz))
      (first | exact HS.out _ HDr.out | exact HS.out _ E1.out | exact HS.out _ E2.out)
      (first
        | (go_at_call 11
           refine (vright_any _ _ _ (HLz.out _ HDr.out)).mono ?_
           rw [HRz.out]
           rintro e y1 ⟨rfl, hE⟩
           have E1 := Lib.hid (HDr.out.trans hE)
           clear hE)
        | (go_at_call 13
           refine (put_any z _ _ _ [] (HNil.out _) (HLz.out _ E1.out) (by have := HLb.out; simp only [List.length_nil]; omega)).mono ?_
           rw [List.nil_append]
           rintro e y2 ⟨vp, rfl, hop⟩
           have E2 := Lib.hid (E1.out.trans hop.2)
           have P2 := Lib.hid hop.bytes
           clear hop)
        | (go_at_call 12
           refine (same_any _ _ _ _ _ P2.out (HTkB.out _ (HE3b.out.trans E2.out))).mono ?_
           rw [decide_eq_true (show bytesT z = bytesT z from rfl)]
           rintro e y3 ⟨rfl, rfl⟩))
    have HE5 := Lib.hid (HE3b.out.trans E2.out)
    have HBv5 := Lib.hid (HBv2.out.ext (hEa.trans E2.out))
    have HBx5 := Lib.hid (HBx2.out.ext (hEa.trans E2.out))
    clear HE3 HE2 HBv2 HBx2 hEa HE3b HLz HS hsub hK0 hKc hsk HTkB HLb HNil P2 E2 E1 HDr HXZ HRz
    generalize y2 = w4 at *
  all_goals
   (obtain ⟨p0, p1, p2, p3⟩ := HBv5.out.cells
    go_wp2_with fail
    refine (vbytes_any t w4 _ (HV.out.ext HE5.out)).mono ?_
    intro e w5 hp5
    obtain ⟨a5, m5, c5, n5, rfl, hE5, hno5, hyes5⟩ := hp5.any
    have HE5b := Lib.hid (HE5.out.trans hE5)
    have HBx5b := Lib.hid (HBx5.out.ext hE5)
    have HBv5b := Lib.hid (HBv5.out.ext hE5)
    have HNO5 := Lib.hid hno5
    have HYES5 := Lib.hid hyes5
    clear hp5 hE5 p0 p1 p2 p3 HE5 HBv5 HBx5 hno5 hyes5
    obtain ⟨p0, p1, p2, p3⟩ := HBx5b.out.cells
    go_wp2_with fail
    refine (vbytes_any u w5 _ (HX.out.ext HE5b.out)).mono ?_
    intro e w6 hp6
    obtain ⟨a6, m6, c6, n6, rfl, hE6, hno6, hyes6⟩ := hp6.any
    have HE6 := Lib.hid (HE5b.out.trans hE6)
    have HBx6 := Lib.hid (HBx5b.out.ext hE6)
    have HBv6 := Lib.hid (HBv5b.out.ext hE6)
    have HE56 := Lib.hid hE6
    clear hp6 hE6 p0 p1 p2 p3 HE5b HBv5b HBx5b
    by_cases hrt : rightT t = true
    case neg =>
      obtain rfl := HNO5.out (by simpa using hrt)
      clear hno6 hyes6 HNO5 HYES5 hrt
      have HTa := Lib.hid (HT.out.ext HE6.out)
      go_wp2_with fail
      refine (awake08 _ HTa.out).mono ?_
      rintro e wz ⟨rfl, hEz⟩
      have HEz := Lib.hid (HE6.out.trans hEz)
      clear hEz
      go_wp2
      go_ret
      exact ⟨rfl, HEz.out⟩
    obtain ⟨rfl, hby5⟩ := HYES5.out hrt
    by_cases hru : rightT u = true
    case neg =>
      obtain rfl := hno6 (by simpa using hru)
      clear hno6 hyes6 HNO5 HYES5 hrt hru hby5
      have HTa := Lib.hid (HT.out.ext HE6.out)
      go_wp2_with fail
      refine (awake08 _ HTa.out).mono ?_
      rintro e wz ⟨rfl, hEz⟩
      have HEz := Lib.hid (HE6.out.trans hEz)
      clear hEz
      go_wp2
      go_ret
      exact ⟨rfl, HEz.out⟩
    obtain ⟨rfl, hby6⟩ := hyes6 hru
    have HB1 := Lib.hid (hby5.ext HE56.out)
    have HB2 := Lib.hid hby6
    have hnt := HV.out.nums
    have hnu := HX.out.nums
    have HLT := Lib.hid (show (showT t).length ≤ 1000000000 from Nat.le_trans (right_show hrt hnt) (by omega))
    have HLU := Lib.hid (show (showT u).length ≤ 1000000000 from Nat.le_trans (right_show hru hnu) (by omega))
    have HI1 : Hid (bytesT t = bytesT u → t = u) := Lib.hid (fun h => (bytesT_inj (r := []) (s := []) hrt hru hnt hnu (by rw [h])).1)
    have HI2 : Hid (showT t = showT u → t = u) := Lib.hid (fun h => showT_inj hrt hru h)
    clear hby5 hby6 hno6 hyes6 HNO5 HYES5 hrt hru hnt hnu HE56
    obtain ⟨p0, p1, p2, p3⟩ := HBv6.out.cells
    obtain ⟨q0, q1, q2, q3⟩ := HBx6.out.cells
    go_wp2_with fail
    refine (vsame_any t u w6 _ _ (HV.out.ext HE6.out) (HX.out.ext HE6.out)).mono ?_
    rintro e w7 ⟨rfl, hE7⟩
    have HE7 := Lib.hid (HE6.out.trans hE7)
    have hBv7 := HBv6.out.ext hE7
    have hBx7 := HBx6.out.ext hE7
    have HB1b := Lib.hid (HB1.out.ext hE7)
    have HB2b := Lib.hid (HB2.out.ext hE7)
    have HS : Hid (∀ w', Ext w7 w' → (w'.cell? ⟨w.heap.size, 0, none⟩ = some (.int .u8 k) ∧ w'.cell? ⟨w.heap.size, 1, none⟩ = some (.int .i64 n) ∧ w'.cell? ⟨w.heap.size, 2, none⟩ = some (.string s) ∧ w'.cell? ⟨w.heap.size, 3, none⟩ = some (.slice ad md cd) ∧ w'.cell? ⟨w.heap.size + 1, 0, none⟩ = some (.int .u8 k') ∧ w'.cell? ⟨w.heap.size + 1, 1, none⟩ = some (.int .i64 n') ∧ w'.cell? ⟨w.heap.size + 1, 2, none⟩ = some (.string s') ∧ w'.cell? ⟨w.heap.size + 1, 3, none⟩ = some (.slice ad' md' cd'))) := Lib.hid (fun w' h => by
      obtain ⟨a0, a1, a2, a3⟩ := (hBv7.ext h).cells
      obtain ⟨b0, b1, b2, b3⟩ := (hBx7.ext h).cells
      exact ⟨a0, a1, a2, a3, b0, b1, b2, b3⟩)
    have HTw := Lib.hid (HT.out.ext HE7.out)
    have HV7 := Lib.hid (HV.out.ext HE7.out)
    have HX7 := Lib.hid (HX.out.ext HE7.out)
    have HDr : Hid (Ext w7 w7.drew) := Lib.hid (Ext.refl w7).drew
    clear hE7 hBv7 hBx7 p0 p1 p2 p3 q0 q1 q2 q3 HB1 HB2 HBv6 HBx6 HE6
    have HB1 := HB1b
    have HB2 := HB2b
    clear HB1b HB2b
    by_cases htu : t = u
    case pos =>
      have HDEC : Hid (decide (bytesT t = bytesT u) = true) := Lib.hid (decide_eq_true (by rw [htu]))
      obtain ⟨A, hA⟩ : ∃ A, str (showT t) = A := ⟨_, rfl⟩
      obtain ⟨B, hB⟩ : ∃ B, str (showT u) = B := ⟨_, rfl⟩
      have HA := Lib.hid hA
      have HBB := Lib.hid hB
      have hABb : (A.toList == B.toList) = true := by rw [← hA, ← hB, htu]; simp
      rw [eqT_iff.2 htu]
      clear hA hB HI1 HI2 htu
      go_wp2_with fail
      go_region_held3 (fun w' => w'.cell? ⟨w.heap.size, 0, none⟩ = some (.int .u8 k) ∧ w'.cell? ⟨w.heap.size, 1, none⟩ = some (.int .i64 n) ∧ w'.cell? ⟨w.heap.size, 2, none⟩ = some (.string s) ∧ w'.cell? ⟨w.heap.size, 3, none⟩ = some (.slice ad md cd) ∧ w'.cell? ⟨w.heap.size + 1, 0, none⟩ = some (.int .u8 k') ∧ w'.cell? ⟨w.heap.size + 1, 1, none⟩ = some (.int .i64 n') ∧ w'.cell? ⟨w.heap.size + 1, 2, none⟩ = some (.string s') ∧ w'.cell? ⟨w.heap.size + 1, 3, none⟩ = some (.slice ad' md' cd'))
        (first | exact HS.out _ HDr.out | exact HS.out _ E1.out | exact HS.out _ E2.out | exact HS.out _ E3.out | exact HS.out _ E4.out)
        (first
          | (go_at_call 12
             refine (same_is (HB1.out.ext HDr.out) (HB2.out.ext HDr.out) HDEC.out).mono ?_
             rintro e y1 ⟨rfl, rfl⟩
             have E1 := Lib.hid HDr.out)
          | (go_at_call_of 16 (Value.agg #[Value.int IntKind.u8 k, Value.int IntKind.i64 n, Value.string s, Value.slice ad md cd])
             refine (vshow_any t _ _ (HTw.out.ext E1.out) (HV7.out.ext E1.out) HLT.out).mono ?_
             rw [HA.out]
             rintro e y2 ⟨rfl, hE⟩
             have E2 := Lib.hid (E1.out.trans hE)
             clear hE)
          | (go_at_call_of 16 (Value.agg #[Value.int IntKind.u8 k', Value.int IntKind.i64 n', Value.string s', Value.slice ad' md' cd'])
             refine (vshow_any u _ _ (HTw.out.ext E2.out) (HX7.out.ext E2.out) HLU.out).mono ?_
             rw [HBB.out]
             rintro e y3 ⟨rfl, hE⟩
             have E3 := Lib.hid (E2.out.trans hE)
             clear hE)
          | (go_at_call 9
             refine (awake08 _ (HTw.out.ext E3.out)).mono ?_
             rintro e y4 ⟨rfl, hE⟩
             have E4 := Lib.hid (E3.out.trans hE)
             clear hE))
      go_wp2
      go_ret
      exact ⟨rfl, HE7.out.trans E4.out⟩
    case neg =>
      have HDEC : Hid (decide (bytesT t = bytesT u) = false) := Lib.hid (decide_eq_false (fun h => htu (HI1.out h)))
      obtain ⟨A, hA⟩ : ∃ A, str (showT t) = A := ⟨_, rfl⟩
      obtain ⟨B, hB⟩ : ∃ B, str (showT u) = B := ⟨_, rfl⟩
      have HA := Lib.hid hA
      have HBB := Lib.hid hB
      have hABb : (A.toList == B.toList) = false := by
        rw [← hA, ← hB, str_toList, str_toList]
        simpa using fun h => htu (HI2.out h)
      rw [eqT_ne htu]
      clear hA hB HI1 HI2 htu
      go_wp2_with fail
      go_region_held3 (fun w' => w'.cell? ⟨w.heap.size, 0, none⟩ = some (.int .u8 k) ∧ w'.cell? ⟨w.heap.size, 1, none⟩ = some (.int .i64 n) ∧ w'.cell? ⟨w.heap.size, 2, none⟩ = some (.string s) ∧ w'.cell? ⟨w.heap.size, 3, none⟩ = some (.slice ad md cd) ∧ w'.cell? ⟨w.heap.size + 1, 0, none⟩ = some (.int .u8 k') ∧ w'.cell? ⟨w.heap.size + 1, 1, none⟩ = some (.int .i64 n') ∧ w'.cell? ⟨w.heap.size + 1, 2, none⟩ = some (.string s') ∧ w'.cell? ⟨w.heap.size + 1, 3, none⟩ = some (.slice ad' md' cd'))
        (first | exact HS.out _ HDr.out | exact HS.out _ E1.out | exact HS.out _ E2.out | exact HS.out _ E3.out | exact HS.out _ E4.out)
        (first
          | (go_at_call 12
             refine (same_is (HB1.out.ext HDr.out) (HB2.out.ext HDr.out) HDEC.out).mono ?_
             rintro e y1 ⟨rfl, rfl⟩
             have E1 := Lib.hid HDr.out)
          | (go_at_call_of 16 (Value.agg #[Value.int IntKind.u8 k, Value.int IntKind.i64 n, Value.string s, Value.slice ad md cd])
             refine (vshow_any t _ _ (HTw.out.ext E1.out) (HV7.out.ext E1.out) HLT.out).mono ?_
             rw [HA.out]
             rintro e y2 ⟨rfl, hE⟩
             have E2 := Lib.hid (E1.out.trans hE)
             clear hE)
          | (go_at_call_of 16 (Value.agg #[Value.int IntKind.u8 k', Value.int IntKind.i64 n', Value.string s', Value.slice ad' md' cd'])
             refine (vshow_any u _ _ (HTw.out.ext E2.out) (HX7.out.ext E2.out) HLU.out).mono ?_
             rw [HBB.out]
             rintro e y3 ⟨rfl, hE⟩
             have E3 := Lib.hid (E2.out.trans hE)
             clear hE)
          | (go_at_call 9
             refine (awake08 _ (HTw.out.ext E3.out)).mono ?_
             rintro e y4 ⟨rfl, hE⟩
             have E4 := Lib.hid (E3.out.trans hE)
             clear hE))
      go_wp2
      go_ret
      exact ⟨rfl, HE7.out.trans E4.out⟩)
end Go.Proofs.YtdmdabcjoealhaaDoor
