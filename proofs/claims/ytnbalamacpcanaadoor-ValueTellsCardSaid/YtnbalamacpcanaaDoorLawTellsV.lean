/- ValueTells answers true at every input. -/
import Derived.Test.YtnbalamacpcanaaDoorAwakeA
import Derived.Test.YtnbalamacpcanaaDoorRefB
import Derived.Test.YtnbalamacpcanaaDoorRefC
import Derived.Test.YtnbalamacpcanaaDoorRefD
import Derived.Test.YtnbalamacpcanaaDoorTake
open Go.RowKit Go.Shelf
namespace Go.Proofs.YtnbalamacpcanaaDoor
open Go Go.Proofs Fm

theorem lies_four {w : World} {t : Tr} {v : Value} (hv : Lies w t v) : ∃ (k : Int) (n : Int) (s : ByteArray) (a : Option Addr) (m c : Nat), v = .agg #[.int .u8 k, .int .i64 n, .string s, .slice a m c] := by
  obtain ⟨k, n, s, l⟩ := t
  obtain ⟨dd, rfl, hn, hs, hl⟩ := hv.parts
  obtain ⟨a, cap, rfl, _⟩ := hl
  exact ⟨_, _, _, _, _, _, rfl⟩

theorem TakePost.all {w : World} {xs : List UInt8} {e : Ending} {w' : World} (h : TakePost w xs e w') : ∃ (tv : Tr) (kv nv : Int) (sv : ByteArray) (av : Option Addr) (mv cv : Nat) (ar : Option Addr) (mr cr : Nat) (f : Int),
    e = .returned (.tuple #[.agg #[.int .u8 kv, .int .i64 nv, .string sv, .slice av mv cv], .slice ar mr cr, .int .i64 f]) ∧ Ext w w' ∧ Lies w' tv (.agg #[.int .u8 kv, .int .i64 nv, .string sv, .slice av mv cv]) ∧
    (takeV' xs = none → tv = .node 0 0 [] [] ∧ f = 30 ∧ mr = 0) ∧ (∀ t r, takeV' xs = some (t, r) → tv = t ∧ f = 0 ∧ Bytes w' (.slice ar mr cr) r) := by
  unfold TakePost at h
  cases hT : takeV' xs with
  | none =>
    rw [hT] at h
    obtain ⟨rfl, hE⟩ := h
    exact ⟨.node 0 0 [] [], _, _, _, _, _, _, _, _, _, _, rfl, hE, lies_num _ (by unfold isI64; omega), fun _ => ⟨rfl, rfl, rfl⟩, fun t r h => by cases h⟩
  | some p =>
    obtain ⟨t, r⟩ := p
    rw [hT] at h
    obtain ⟨v, vr, rfl, hE, hO, hB⟩ := h
    obtain ⟨k, n, s, a, m, c, rfl⟩ := lies_four hO.lies
    obtain ⟨ar, cr, rfl, -⟩ := id hB
    exact ⟨t, _, _, _, _, _, _, _, _, _, _, rfl, hE, hO.lies, (fun h => by cases h), (fun t' r' h => by cases h; exact ⟨rfl, rfl, hB.ext hE⟩)⟩
theorem RTakePost.all {w : World} {xs : List UInt8} {e : Ending} {w' : World} (h : RTakePost xs w e w') : ∃ (tv : Tr) (kv nv : Int) (sv : ByteArray) (av : Option Addr) (mv cv : Nat) (A : Int),
    e = .returned (.tuple #[.agg #[.int .u8 kv, .int .i64 nv, .string sv, .slice av mv cv], .int .i64 A]) ∧ Ext w w' ∧ Lies w' tv (.agg #[.int .u8 kv, .int .i64 nv, .string sv, .slice av mv cv]) ∧
    (takeV' xs = none → tv = .node 0 0 [] [] ∧ A = 0) ∧ (∀ t r, takeV' xs = some (t, r) → tv = t ∧ ∃ AN : Nat, A = (AN : Int) ∧ 0 < AN ∧ AN ≤ xs.length ∧ r = xs.drop AN) := by
  unfold RTakePost at h
  cases hT : takeV' xs with
  | none =>
    rw [hT] at h
    obtain ⟨t, v, rfl, rfl, rfl, hE⟩ := h
    exact ⟨.node 0 0 [] [], _, _, _, _, _, _, _, rfl, hE, lies_num _ (by unfold isI64; omega), fun _ => ⟨rfl, rfl⟩, fun t r h => by cases h⟩
  | some p =>
    obtain ⟨t, r⟩ := p
    rw [hT] at h
    obtain ⟨v, A, rfl, h0, h1, h2, hE, hO⟩ := h
    obtain ⟨k, n, s, a, m, c, rfl⟩ := lies_four hO.lies
    exact ⟨t, _, _, _, _, _, _, _, rfl, hE, hO.lies, (fun h => by cases h), (fun t' r' h => by cases h; exact ⟨rfl, A, rfl, h0, h1, h2⟩)⟩
theorem ParsePost.all {w : World} {xs : List UInt8} {e : Ending} {w' : World} (h : ParsePost w xs e w') : ∃ (tv : Tr) (kv nv : Int) (sv : ByteArray) (av : Option Addr) (mv cv : Nat) (g : Int),
    e = .returned (.tuple #[.agg #[.int .u8 kv, .int .i64 nv, .string sv, .slice av mv cv], .int .i64 g]) ∧ Ext w w' ∧ Lies w' tv (.agg #[.int .u8 kv, .int .i64 nv, .string sv, .slice av mv cv]) ∧
    ((∀ t, takeV' xs ≠ some (t, [])) → tv = .node 0 0 [] [] ∧ g = 30) ∧ (∀ t, takeV' xs = some (t, []) → tv = t ∧ g = 0) := by
  unfold ParsePost at h
  have zero : ∀ {e : Ending}, (e = .returned (.tuple #[.agg #[.int .u8 0, .int .i64 0, .string (str []), .slice none 0 0], .int .i64 30]) ∧ Ext w w') → (∀ t, takeV' xs ≠ some (t, [])) → ∃ (tv : Tr) (kv nv : Int) (sv : ByteArray) (av : Option Addr) (mv cv : Nat) (g : Int),
    e = .returned (.tuple #[.agg #[.int .u8 kv, .int .i64 nv, .string sv, .slice av mv cv], .int .i64 g]) ∧ Ext w w' ∧ Lies w' tv (.agg #[.int .u8 kv, .int .i64 nv, .string sv, .slice av mv cv]) ∧
    ((∀ t, takeV' xs ≠ some (t, [])) → tv = .node 0 0 [] [] ∧ g = 30) ∧ (∀ t, takeV' xs = some (t, []) → tv = t ∧ g = 0) := by
    rintro e ⟨rfl, hE⟩ hn
    exact ⟨.node 0 0 [] [], _, _, _, _, _, _, _, rfl, hE, lies_num _ (by unfold isI64; omega), fun _ => ⟨rfl, rfl⟩, fun t ht => absurd ht (hn t)⟩
  cases hT : takeV' xs with
  | none =>
    rw [hT] at h
    rw [← hT]
    exact zero h (fun t ht => by rw [hT] at ht; cases ht)
  | some p =>
    obtain ⟨t, r⟩ := p
    cases r with
    | nil =>
      rw [hT] at h
      obtain ⟨v, rfl, hE, hO⟩ := h
      obtain ⟨k, n, s, a, m, c, rfl⟩ := lies_four hO.lies
      exact ⟨t, _, _, _, _, _, _, _, rfl, hE, hO.lies, fun h => absurd rfl (h t), fun t' h => by cases h; exact ⟨rfl, rfl⟩⟩
    | cons y ys =>
      rw [hT] at h
      rw [← hT]
      exact zero h (fun t ht => by rw [hT] at ht; cases ht)
theorem VBytes.all {w : World} {t : Tr} {e : Ending} {w' : World} (h : VBytes w t e w') : ∃ (a : Option Addr) (m c : Nat) (n : Int), e = .returned (.tuple #[.slice a m c, .int .i64 n]) ∧ Ext w w' ∧ (rightT t = false → n = 2 ∧ m = 0) ∧ (rightT t = true → n = 0 ∧ Bytes w' (.slice a m c) (bytesT t)) := by
  unfold VBytes at h
  by_cases hr : rightT t = true
  · rw [if_pos hr] at h
    obtain ⟨v, rfl, ho⟩ := h
    obtain ⟨a, cap, rfl, -⟩ := id ho.bytes
    refine ⟨_, _, _, _, rfl, ho.2, fun h => ?_, fun _ => ⟨rfl, ho.bytes⟩⟩
    rw [hr] at h; cases h
  · rw [if_neg hr] at h
    obtain ⟨rfl, hE⟩ := h
    exact ⟨_, _, _, _, rfl, hE, fun _ => ⟨rfl, rfl⟩, fun h => absurd h hr⟩
theorem same_is {a b : Value} {xs ys : List UInt8} {w : World} (ha : Bytes w a xs) (hb : Bytes w b ys) {q : Bool} (h : decide (xs = ys) = q) :
    Calls Tryd.prog 24 #[a, b] w fun e w' => e = .returned (.bool q) ∧ w = w' := by
  subst h
  exact same_any a b xs ys w ha hb
set_option maxRecDepth 100000 in
set_option maxHeartbeats 4000000 in
theorem valueTells_any (w : World) (t : Tr) (v : Value) (hv : Lies w t v) (u : Tr) (x : Value) (hx : Lies w u x) (b : Value) (xs : List UInt8) (hb : Bytes w b xs) (hT : Tab w) :
    Calls Tryd.prog 3 #[v, x, b] w fun e w' => e = .returned (.bool true) ∧ Ext w w' := by
  have HT := Lib.hid hT
  have HV := Lib.hid hv
  have HX := Lib.hid hx
  have HB := Lib.hid hb
  have HFW := Lib.hid (fewT_light 20 t)
  obtain ⟨k, n, s, ad, md, cd, rfl⟩ := lies_four hv
  obtain ⟨k', n', s', ad', md', cd', rfl⟩ := lies_four hx
  obtain ⟨ab, capb, rfl, hcb, hcm, -⟩ := id hb
  have hlm := hb.length_le
  clear hT hv hx hb
  have HE0 : Hid (Ext w ((w.alloc (.cells #[.int .u8 k, .int .i64 n, .string s, .slice ad md cd] 24)).alloc (.cells #[.int .u8 k', .int .i64 n', .string s', .slice ad' md' cd'] 24))) := Lib.hid (((Ext.refl w).alloc _).alloc _)
  have hBv : Box4 ((w.alloc (.cells #[.int .u8 k, .int .i64 n, .string s, .slice ad md cd] 24)).alloc (.cells #[.int .u8 k', .int .i64 n', .string s', .slice ad' md' cd'] 24)) w.heap.size (.int .u8 k) (.int .i64 n) (.string s) (.slice ad md cd) := (Box4.new w _ _ _ _).ext ((Ext.refl _).alloc _)
  have hBx : Box4 ((w.alloc (.cells #[.int .u8 k, .int .i64 n, .string s, .slice ad md cd] 24)).alloc (.cells #[.int .u8 k', .int .i64 n', .string s', .slice ad' md' cd'] 24)) (w.heap.size + 1) (.int .u8 k') (.int .i64 n') (.string s') (.slice ad' md' cd') := by
    have := Box4.new (w.alloc (.cells #[.int .u8 k, .int .i64 n, .string s, .slice ad md cd] 24)) (.int .u8 k') (.int .i64 n') (.string s') (.slice ad' md' cd')
    rwa [show (w.alloc (.cells #[.int .u8 k, .int .i64 n, .string s, .slice ad md cd] 24)).heap.size = w.heap.size + 1 by simp] at this
  go_enter Tryd.func3, Tryd.ntmps3
  go_wp2_with fail
  generalize ((w.alloc (.cells #[.int .u8 k, .int .i64 n, .string s, .slice ad md cd] 24)).alloc (.cells #[.int .u8 k', .int .i64 n', .string s', .slice ad' md' cd'] 24)) = W0 at *
  refine (Few_any t W0 _ (HV.out.ext HE0.out)).mono ?_
  rintro e w1 ⟨rfl, hE1⟩
  have HE1 := Lib.hid (HE0.out.trans hE1)
  have HBv1 := Lib.hid (hBv.ext hE1)
  have HBx1 := Lib.hid (hBx.ext hE1)
  clear hBv hBx hE1 HE0
  by_cases hf : fewT 20 t ≤ 600
  case neg =>
    have hfd : decide (fewT 20 t ≤ 600) = false := decide_eq_false hf
    rw [hfd]
    clear hfd hf HFW
    have HTa := Lib.hid (HT.out.ext HE1.out)
    go_wp2_with fail
    refine (awake08 _ HTa.out).mono ?_
    rintro e wz ⟨rfl, hEz⟩
    have HEz := Lib.hid (HE1.out.trans hEz)
    clear hEz
    go_wp2
    go_ret
    exact ⟨rfl, HEz.out⟩
  have hfd : decide (fewT 20 t ≤ 600) = true := decide_eq_true hf
  rw [hfd]
  obtain ⟨hpt, hdt⟩ := HFW.out hf
  have hp6 : partsT t ≤ 600 := by omega
  have HP := Lib.hid hp6
  have HDT := Lib.hid hdt
  clear hfd hf hpt hdt hp6 HFW
  obtain ⟨p0, p1, p2, p3⟩ := HBx1.out.cells
  go_wp2_with fail
  refine (Few_any u w1 _ (HX.out.ext HE1.out)).mono ?_
  rintro e w2 ⟨rfl, hE2⟩
  have HE2 := Lib.hid (HE1.out.trans hE2)
  have HBv2 := Lib.hid (HBv1.out.ext hE2)
  have HBx2 := Lib.hid (HBx1.out.ext hE2)
  clear p0 p1 p2 p3 hE2 HE1 HBv1 HBx1
  by_cases hf : fewT 20 u ≤ 600
  case neg =>
    have hfd : decide (fewT 20 u ≤ 600) = false := decide_eq_false hf
    rw [hfd]
    clear hfd hf
    have HTa := Lib.hid (HT.out.ext HE2.out)
    go_wp2_with fail
    refine (awake08 _ HTa.out).mono ?_
    rintro e wz ⟨rfl, hEz⟩
    have HEz := Lib.hid (HE2.out.trans hEz)
    clear hEz
    go_wp2
    go_ret
    exact ⟨rfl, HEz.out⟩
  have hfd : decide (fewT 20 u ≤ 600) = true := decide_eq_true hf
  rw [hfd]
  clear hfd hf
  by_cases hbig : 1500 < xs.length
  case pos =>
    have hb1 : (1500 : Int) < (xs.length : Int) := by omega
    have HTa := Lib.hid (HT.out.ext HE2.out)
    go_wp2_with fail
    refine (awake08 _ HTa.out).mono ?_
    rintro e wz ⟨rfl, hEz⟩
    have HEz := Lib.hid (HE2.out.trans hEz)
    clear hEz
    go_wp2
    go_ret
    exact ⟨rfl, HEz.out⟩
  have hb1 : ¬ (1500 : Int) < (xs.length : Int) := by omega
  obtain ⟨p0, p1, p2, p3⟩ := HBv2.out.cells
  go_wp2_with fail
  refine (vbytes_any t w2 _ (HV.out.ext HE2.out)).mono ?_
  intro e w3 hp3
  obtain ⟨a5, m5, c5, n5, rfl, hE3, hno5, hyes5⟩ := hp3.all
  have HE3 := Lib.hid (HE2.out.trans hE3)
  have HBv3 := Lib.hid (HBv2.out.ext hE3)
  have HBx3 := Lib.hid (HBx2.out.ext hE3)
  have HNO := Lib.hid hno5
  have HYES := Lib.hid hyes5
  clear hp3 hE3 p0 p1 p2 p3 HE2 HBv2 HBx2 hno5 hyes5
  obtain ⟨p0, p1, p2, p3⟩ := HBv3.out.cells
  go_wp2_with fail
  refine (rright_any t w3 _ (HV.out.ext HE3.out) (by have := HP.out; omega) (by have := HDT.out; omega)).mono ?_
  rintro e w6 ⟨rfl, hE6⟩
  have HE6 := Lib.hid (HE3.out.trans hE6)
  have hBv6 := HBv3.out.ext hE6
  have hBx6 := HBx3.out.ext hE6
  have HBv6 := Lib.hid hBv6
  have HBx6 := Lib.hid hBx6
  have HE36 := Lib.hid hE6
  have HS : Hid (∀ w', Ext w6 w' → (w'.cell? ⟨w.heap.size, 0, none⟩ = some (.int .u8 k) ∧ w'.cell? ⟨w.heap.size, 1, none⟩ = some (.int .i64 n) ∧ w'.cell? ⟨w.heap.size, 2, none⟩ = some (.string s) ∧ w'.cell? ⟨w.heap.size, 3, none⟩ = some (.slice ad md cd) ∧ w'.cell? ⟨w.heap.size + 1, 0, none⟩ = some (.int .u8 k') ∧ w'.cell? ⟨w.heap.size + 1, 1, none⟩ = some (.int .i64 n') ∧ w'.cell? ⟨w.heap.size + 1, 2, none⟩ = some (.string s') ∧ w'.cell? ⟨w.heap.size + 1, 3, none⟩ = some (.slice ad' md' cd'))) := Lib.hid (fun w' h => by
    obtain ⟨a0, a1, a2, a3⟩ := (hBv6.ext h).cells
    obtain ⟨b0, b1, b2, b3⟩ := (hBx6.ext h).cells
    exact ⟨a0, a1, a2, a3, b0, b1, b2, b3⟩)
  have HV6 := Lib.hid (HV.out.ext HE6.out)
  have HX6 := Lib.hid (HX.out.ext HE6.out)
  have hlv := hBv6.lt
  have hlx := hBx6.lt
  obtain ⟨q, hq⟩ : ∃ q, eqT t u = q := ⟨_, rfl⟩
  have HQ := Lib.hid hq
  clear hE6 p0 p1 p2 p3 hBv6 hBx6 HBv3 HBx3 HE3 hq
  obtain ⟨R, hR⟩ : ∃ R, rightT t = R := ⟨_, rfl⟩
  have HRt := Lib.hid hR
  rw [hR]
  cases R
  case' false =>
    obtain ⟨rfl, rfl⟩ := HNO.out hR
    clear hR
    go_wp2_with fail
    have HDr : Hid (Ext w6 w6.drew) := Lib.hid (Ext.refl w6).drew
    go_region_held3 (fun w' => w'.cell? ⟨w.heap.size, 0, none⟩ = some (.int .u8 k) ∧ w'.cell? ⟨w.heap.size, 1, none⟩ = some (.int .i64 n) ∧ w'.cell? ⟨w.heap.size, 2, none⟩ = some (.string s) ∧ w'.cell? ⟨w.heap.size, 3, none⟩ = some (.slice ad md cd) ∧ w'.cell? ⟨w.heap.size + 1, 0, none⟩ = some (.int .u8 k') ∧ w'.cell? ⟨w.heap.size + 1, 1, none⟩ = some (.int .i64 n') ∧ w'.cell? ⟨w.heap.size + 1, 2, none⟩ = some (.string s') ∧ w'.cell? ⟨w.heap.size + 1, 3, none⟩ = some (.slice ad' md' cd'))
      (first | exact HS.out _ HDr.out | exact HS.out _ E1.out | exact HS.out _ E2.out | exact HS.out _ E3.out | exact HS.out _ E4.out | exact HS.out _ E5.out)
      (first
        | (go_at_call 19
           refine (vright_any t _ _ (HV6.out.ext HDr.out)).mono ?_
           rw [HRt.out]
           rintro e y1 ⟨rfl, hE⟩
           have E1 := Lib.hid (HDr.out.trans hE)
           clear hE)
        | (go_at_call 20
           refine (vparts_any t _ _ (HV6.out.ext E1.out) (by have := HP.out; omega)).mono ?_
           rintro e y2 ⟨rfl, hE⟩
           have E2 := Lib.hid (E1.out.trans hE)
           clear hE)
        | (go_at_call 21
           refine (rparts_any t _ _ (HV6.out.ext E2.out) (by have := HP.out; omega)).mono ?_
           rintro e y3 ⟨rfl, hE⟩
           have E3 := Lib.hid (E2.out.trans hE)
           clear hE)
        | (go_at_call 22
           refine (vsame_any t u _ _ _ (HV6.out.ext E3.out) (HX6.out.ext E3.out)).mono ?_
           rw [HQ.out]
           rintro e y4 ⟨rfl, hE⟩
           have E4 := Lib.hid (E3.out.trans hE)
           clear hE)
        | (go_at_call 23
           refine (rsame_any t u _ _ _ (HV6.out.ext E4.out) (HX6.out.ext E4.out)).mono ?_
           rw [HQ.out]
           rintro e y5 ⟨rfl, hE⟩
           have E5 := Lib.hid (E4.out.trans hE)
           clear hE))
    go_wp2_with fail
    go_quiet (fail)
    have HE7 := Lib.hid ((HE6.out.trans E5.out).drewN nq)
    clear HE6 HS HDr E1 E2 E3 E4 E5 HBv6 HBx6 HV6 HX6 HE36 HNO HYES HRt HQ
    generalize y5.drewN nq = w7 at *
    go_wp2_with fail
  case' true =>
    obtain ⟨rfl, hby⟩ := HYES.out hR
    have HBY := Lib.hid (hby.ext HE36.out)
    have hbl := bytesT_le t (rightT_iff.1 hR).1
    have HBL := Lib.hid (show (bytesT t).length ≤ 1000000000 by have := HP.out; omega)
    have HSL := Lib.hid (show (showT t).length ≤ 1000000000 from Nat.le_trans (right_show hR HV.out.nums) (by omega))
    clear hR hby hbl
    go_wp2_with fail
    have HDr : Hid (Ext w6 w6.drew) := Lib.hid (Ext.refl w6).drew
    refine wp_region_held_drew (S := (fun w' => w'.cell? ⟨w.heap.size, 0, none⟩ = some (.int .u8 k) ∧ w'.cell? ⟨w.heap.size, 1, none⟩ = some (.int .i64 n) ∧ w'.cell? ⟨w.heap.size, 2, none⟩ = some (.string s) ∧ w'.cell? ⟨w.heap.size, 3, none⟩ = some (.slice ad md cd) ∧ w'.cell? ⟨w.heap.size + 1, 0, none⟩ = some (.int .u8 k') ∧ w'.cell? ⟨w.heap.size + 1, 1, none⟩ = some (.int .i64 n') ∧ w'.cell? ⟨w.heap.size + 1, 2, none⟩ = some (.string s') ∧ w'.cell? ⟨w.heap.size + 1, 3, none⟩ = some (.slice ad' md' cd'))) (by kernel_rfl) ?_ (fun hHeld => ?_)
    · (try dsimp only)
      (first | exact HS.out _ HDr.out | exact HS.out _ E1.out | exact HS.out _ E2.out | exact HS.out _ E3.out | exact HS.out _ E4.out | exact HS.out _ E5.out)
    refine take_w 0 (some 39) (v := ?_) (by kernel_rfl) (by kernel_rfl) (by kernel_rfl) (by kernel_rfl) (by kernel_rfl) (fun _ _ _ h => h) (by rfl) ?_ (by assumption) ?_
    rotate_left
    · (intro w hSw; (try dsimp only at hSw); go_simp; try with_reducible rfl)
    try simp only [Act.put, List.setIfInBounds_toArray, List.set_cons_zero, List.set_cons_succ]
    refine take_w 2 (some 41) (v := ?_) (by kernel_rfl) (by kernel_rfl) (by kernel_rfl) (by kernel_rfl) (by kernel_rfl) (fun _ _ _ h => h) (by rfl) ?_ (by assumption) ?_
    rotate_left
    · (intro w hSw; (try dsimp only at hSw); go_simp; try with_reducible rfl)
    try simp only [Act.put, List.setIfInBounds_toArray, List.set_cons_zero, List.set_cons_succ]
    refine ready_one 1 (by kernel_rfl) (by kernel_rfl) (by rfl) (fun K hK => ?_)
    go_simp
    refine (vright_any t _ _ (HV6.out.ext HDr.out)).mono ?_
    rw [HRt.out]
    rintro e y1 ⟨rfl, hE⟩
    have E1 := Lib.hid (HDr.out.trans hE)
    clear hE
    try go_wp2_with fail
    refine hK.out _ _ ?_ (fun hHeld => ?_)
    · (try dsimp only)
      (first | exact HS.out _ HDr.out | exact HS.out _ E1.out | exact HS.out _ E2.out | exact HS.out _ E3.out | exact HS.out _ E4.out | exact HS.out _ E5.out)
    clear hK K
    try simp only [Act.put, List.setIfInBounds_toArray, List.set_cons_zero, List.set_cons_succ]
    refine take_w 3 (some 42) (v := ?_) (by kernel_rfl) (by kernel_rfl) (by kernel_rfl) (by kernel_rfl) (by kernel_rfl) (fun _ _ _ h => h) (by rfl) ?_ (by assumption) ?_
    rotate_left
    · (intro w hSw; (try dsimp only at hSw); go_simp; try with_reducible rfl)
    try simp only [Act.put, List.setIfInBounds_toArray, List.set_cons_zero, List.set_cons_succ]
    refine take_w 4 (some 43) (v := ?_) (by kernel_rfl) (by kernel_rfl) (by kernel_rfl) (by kernel_rfl) (by kernel_rfl) (fun _ _ _ h => h) (by rfl) ?_ (by assumption) ?_
    rotate_left
    · (intro w hSw; (try dsimp only at hSw); go_simp; try with_reducible rfl)
    try simp only [Act.put, List.setIfInBounds_toArray, List.set_cons_zero, List.set_cons_succ]
    refine take_w 5 (some 44) (v := ?_) (by kernel_rfl) (by kernel_rfl) (by kernel_rfl) (by kernel_rfl) (by kernel_rfl) (fun _ _ _ h => h) (by rfl) ?_ (by assumption) ?_
    rotate_left
    · (intro w hSw; (try dsimp only at hSw); go_simp; try with_reducible rfl)
    try simp only [Act.put, List.setIfInBounds_toArray, List.set_cons_zero, List.set_cons_succ]
    refine take_w 6 (some 45) (v := ?_) (by kernel_rfl) (by kernel_rfl) (by kernel_rfl) (by kernel_rfl) (by kernel_rfl) (fun _ _ _ h => h) (by rfl) ?_ (by assumption) ?_
    rotate_left
    · (intro w hSw; (try dsimp only at hSw); go_simp; try with_reducible rfl)
    try simp only [Act.put, List.setIfInBounds_toArray, List.set_cons_zero, List.set_cons_succ]
    refine take_w 7 (some 46) (v := ?_) (by kernel_rfl) (by kernel_rfl) (by kernel_rfl) (by kernel_rfl) (by kernel_rfl) (fun _ _ _ h => h) (by rfl) ?_ (by assumption) ?_
    rotate_left
    · (intro w hSw; (try dsimp only at hSw); go_simp; try with_reducible rfl)
    try simp only [Act.put, List.setIfInBounds_toArray, List.set_cons_zero, List.set_cons_succ]
    refine take_w 8 (some 47) (v := ?_) (by kernel_rfl) (by kernel_rfl) (by kernel_rfl) (by kernel_rfl) (by kernel_rfl) (fun _ _ _ h => h) (by rfl) ?_ (by assumption) ?_
    rotate_left
    · (intro w hSw; (try dsimp only at hSw); go_simp; try with_reducible rfl)
    try simp only [Act.put, List.setIfInBounds_toArray, List.set_cons_zero, List.set_cons_succ]
    refine take_w 9 (some 48) (v := ?_) (by kernel_rfl) (by kernel_rfl) (by kernel_rfl) (by kernel_rfl) (by kernel_rfl) (fun _ _ _ h => h) (by rfl) ?_ (by assumption) ?_
    rotate_left
    · (intro w hSw; (try dsimp only at hSw); go_simp; try with_reducible rfl)
    try simp only [Act.put, List.setIfInBounds_toArray, List.set_cons_zero, List.set_cons_succ]
    refine take_w 10 (some 49) (v := ?_) (by kernel_rfl) (by kernel_rfl) (by kernel_rfl) (by kernel_rfl) (by kernel_rfl) (fun _ _ _ h => h) (by rfl) ?_ (by assumption) ?_
    rotate_left
    · (intro w hSw; (try dsimp only at hSw); go_simp; try with_reducible rfl)
    try simp only [Act.put, List.setIfInBounds_toArray, List.set_cons_zero, List.set_cons_succ]
    refine take_w 11 (some 50) (v := ?_) (by kernel_rfl) (by kernel_rfl) (by kernel_rfl) (by kernel_rfl) (by kernel_rfl) (fun _ _ _ h => h) (by rfl) ?_ (by assumption) ?_
    rotate_left
    · (intro w hSw; (try dsimp only at hSw); go_simp; try with_reducible rfl)
    try simp only [Act.put, List.setIfInBounds_toArray, List.set_cons_zero, List.set_cons_succ]
    refine take_w 12 (some 51) (v := ?_) (by kernel_rfl) (by kernel_rfl) (by kernel_rfl) (by kernel_rfl) (by kernel_rfl) (fun _ _ _ h => h) (by rfl) ?_ (by assumption) ?_
    rotate_left
    · (intro w hSw; (try dsimp only at hSw); go_simp; try with_reducible rfl)
    try simp only [Act.put, List.setIfInBounds_toArray, List.set_cons_zero, List.set_cons_succ]
    refine take_w 13 (some 52) (v := ?_) (by kernel_rfl) (by kernel_rfl) (by kernel_rfl) (by kernel_rfl) (by kernel_rfl) (fun _ _ _ h => h) (by rfl) ?_ (by assumption) ?_
    rotate_left
    · (intro w hSw; (try dsimp only at hSw); go_simp; try with_reducible rfl)
    try simp only [Act.put, List.setIfInBounds_toArray, List.set_cons_zero, List.set_cons_succ]
    refine take_u 14 (some 53) (by kernel_rfl) (by kernel_rfl) (by kernel_rfl) (by kernel_rfl) (by kernel_rfl) (fun _ _ _ h => h) (by rfl) (by assumption) ?_
    try simp only [Act.put, List.setIfInBounds_toArray, List.set_cons_zero, List.set_cons_succ]
    refine take_u 15 (some 54) (by kernel_rfl) (by kernel_rfl) (by kernel_rfl) (by kernel_rfl) (by kernel_rfl) (fun _ _ _ h => h) (by rfl) (by assumption) ?_
    try simp only [Act.put, List.setIfInBounds_toArray, List.set_cons_zero, List.set_cons_succ]
    refine take_u 16 (some 55) (by kernel_rfl) (by kernel_rfl) (by kernel_rfl) (by kernel_rfl) (by kernel_rfl) (fun _ _ _ h => h) (by rfl) (by assumption) ?_
    try simp only [Act.put, List.setIfInBounds_toArray, List.set_cons_zero, List.set_cons_succ]
    refine take_u 17 (some 56) (by kernel_rfl) (by kernel_rfl) (by kernel_rfl) (by kernel_rfl) (by kernel_rfl) (fun _ _ _ h => h) (by rfl) (by assumption) ?_
    try simp only [Act.put, List.setIfInBounds_toArray, List.set_cons_zero, List.set_cons_succ]
    refine take_u 18 (some 57) (by kernel_rfl) (by kernel_rfl) (by kernel_rfl) (by kernel_rfl) (by kernel_rfl) (fun _ _ _ h => h) (by rfl) (by assumption) ?_
    try simp only [Act.put, List.setIfInBounds_toArray, List.set_cons_zero, List.set_cons_succ]
    refine take_u 19 (some 58) (by kernel_rfl) (by kernel_rfl) (by kernel_rfl) (by kernel_rfl) (by kernel_rfl) (fun _ _ _ h => h) (by rfl) (by assumption) ?_
    try simp only [Act.put, List.setIfInBounds_toArray, List.set_cons_zero, List.set_cons_succ]
    refine take_u 20 (some 59) (by kernel_rfl) (by kernel_rfl) (by kernel_rfl) (by kernel_rfl) (by kernel_rfl) (fun _ _ _ h => h) (by rfl) (by assumption) ?_
    try simp only [Act.put, List.setIfInBounds_toArray, List.set_cons_zero, List.set_cons_succ]
    refine take_w 21 (some 60) (v := ?_) (by kernel_rfl) (by kernel_rfl) (by kernel_rfl) (by kernel_rfl) (by kernel_rfl) (fun _ _ _ h => h) (by rfl) ?_ (by assumption) ?_
    rotate_left
    · (intro w hSw; (try dsimp only at hSw); go_simp; try with_reducible rfl)
    try simp only [Act.put, List.setIfInBounds_toArray, List.set_cons_zero, List.set_cons_succ]
    refine take_w 22 (some 61) (v := ?_) (by kernel_rfl) (by kernel_rfl) (by kernel_rfl) (by kernel_rfl) (by kernel_rfl) (fun _ _ _ h => h) (by rfl) ?_ (by assumption) ?_
    rotate_left
    · (intro w hSw; (try dsimp only at hSw); go_simp; try with_reducible rfl)
    try simp only [Act.put, List.setIfInBounds_toArray, List.set_cons_zero, List.set_cons_succ]
    refine take_w 23 (some 62) (v := ?_) (by kernel_rfl) (by kernel_rfl) (by kernel_rfl) (by kernel_rfl) (by kernel_rfl) (fun _ _ _ h => h) (by rfl) ?_ (by assumption) ?_
    rotate_left
    · (intro w hSw; (try dsimp only at hSw); go_simp; try with_reducible rfl)
    try simp only [Act.put, List.setIfInBounds_toArray, List.set_cons_zero, List.set_cons_succ]
    refine take_w 24 (some 63) (v := ?_) (by kernel_rfl) (by kernel_rfl) (by kernel_rfl) (by kernel_rfl) (by kernel_rfl) (fun _ _ _ h => h) (by rfl) ?_ (by assumption) ?_
    rotate_left
    · (intro w hSw; (try dsimp only at hSw); go_simp; try with_reducible rfl)
    try simp only [Act.put, List.setIfInBounds_toArray, List.set_cons_zero, List.set_cons_succ]
    refine take_w 26 (some 65) (v := ?_) (by kernel_rfl) (by kernel_rfl) (by kernel_rfl) (by kernel_rfl) (by kernel_rfl) (fun _ _ _ h => h) (by rfl) ?_ (by assumption) ?_
    rotate_left
    · (intro w hSw; (try dsimp only at hSw); go_simp; try with_reducible rfl)
    try simp only [Act.put, List.setIfInBounds_toArray, List.set_cons_zero, List.set_cons_succ]
    refine ready_one 25 (by kernel_rfl) (by kernel_rfl) (by rfl) (fun K hK => ?_)
    go_simp
    refine (vparts_any t _ _ (HV6.out.ext E1.out) (by have := HP.out; omega)).mono ?_
    rintro e y2 ⟨rfl, hE⟩
    have E2 := Lib.hid (E1.out.trans hE)
    clear hE
    try go_wp2_with fail
    refine hK.out _ _ ?_ (fun hHeld => ?_)
    · (try dsimp only)
      (first | exact HS.out _ HDr.out | exact HS.out _ E1.out | exact HS.out _ E2.out | exact HS.out _ E3.out | exact HS.out _ E4.out | exact HS.out _ E5.out)
    clear hK K
    try simp only [Act.put, List.setIfInBounds_toArray, List.set_cons_zero, List.set_cons_succ]
    refine ready_one 27 (by kernel_rfl) (by kernel_rfl) (by rfl) (fun K hK => ?_)
    go_simp
    refine (rparts_any t _ _ (HV6.out.ext E2.out) (by have := HP.out; omega)).mono ?_
    rintro e y3 ⟨rfl, hE⟩
    have E3 := Lib.hid (E2.out.trans hE)
    clear hE
    try go_wp2_with fail
    refine hK.out _ _ ?_ (fun hHeld => ?_)
    · (try dsimp only)
      (first | exact HS.out _ HDr.out | exact HS.out _ E1.out | exact HS.out _ E2.out | exact HS.out _ E3.out | exact HS.out _ E4.out | exact HS.out _ E5.out)
    clear hK K
    try simp only [Act.put, List.setIfInBounds_toArray, List.set_cons_zero, List.set_cons_succ]
    refine take_w 28 (some 67) (v := ?_) (by kernel_rfl) (by kernel_rfl) (by kernel_rfl) (by kernel_rfl) (by kernel_rfl) (fun _ _ _ h => h) (by rfl) ?_ (by assumption) ?_
    rotate_left
    · (intro w hSw; (try dsimp only at hSw); go_simp; try with_reducible rfl)
    try simp only [Act.put, List.setIfInBounds_toArray, List.set_cons_zero, List.set_cons_succ]
    refine take_w 29 (some 68) (v := ?_) (by kernel_rfl) (by kernel_rfl) (by kernel_rfl) (by kernel_rfl) (by kernel_rfl) (fun _ _ _ h => h) (by rfl) ?_ (by assumption) ?_
    rotate_left
    · (intro w hSw; (try dsimp only at hSw); go_simp; try with_reducible rfl)
    try simp only [Act.put, List.setIfInBounds_toArray, List.set_cons_zero, List.set_cons_succ]
    refine take_w 30 (some 69) (v := ?_) (by kernel_rfl) (by kernel_rfl) (by kernel_rfl) (by kernel_rfl) (by kernel_rfl) (fun _ _ _ h => h) (by rfl) ?_ (by assumption) ?_
    rotate_left
    · (intro w hSw; (try dsimp only at hSw); go_simp; try with_reducible rfl)
    try simp only [Act.put, List.setIfInBounds_toArray, List.set_cons_zero, List.set_cons_succ]
    refine take_w 31 (some 70) (v := ?_) (by kernel_rfl) (by kernel_rfl) (by kernel_rfl) (by kernel_rfl) (by kernel_rfl) (fun _ _ _ h => h) (by rfl) ?_ (by assumption) ?_
    rotate_left
    · (intro w hSw; (try dsimp only at hSw); go_simp; try with_reducible rfl)
    try simp only [Act.put, List.setIfInBounds_toArray, List.set_cons_zero, List.set_cons_succ]
    refine take_w 32 (some 71) (v := ?_) (by kernel_rfl) (by kernel_rfl) (by kernel_rfl) (by kernel_rfl) (by kernel_rfl) (fun _ _ _ h => h) (by rfl) ?_ (by assumption) ?_
    rotate_left
    · (intro w hSw; (try dsimp only at hSw); go_simp; try with_reducible rfl)
    try simp only [Act.put, List.setIfInBounds_toArray, List.set_cons_zero, List.set_cons_succ]
    refine take_w 34 (some 73) (v := ?_) (by kernel_rfl) (by kernel_rfl) (by kernel_rfl) (by kernel_rfl) (by kernel_rfl) (fun _ _ _ h => h) (by rfl) ?_ (by assumption) ?_
    rotate_left
    · (intro w hSw; (try dsimp only at hSw); go_simp; try with_reducible rfl)
    try simp only [Act.put, List.setIfInBounds_toArray, List.set_cons_zero, List.set_cons_succ]
    refine take_w 35 (some 74) (v := ?_) (by kernel_rfl) (by kernel_rfl) (by kernel_rfl) (by kernel_rfl) (by kernel_rfl) (fun _ _ _ h => h) (by rfl) ?_ (by assumption) ?_
    rotate_left
    · (intro w hSw; (try dsimp only at hSw); go_simp; try with_reducible rfl)
    try simp only [Act.put, List.setIfInBounds_toArray, List.set_cons_zero, List.set_cons_succ]
    refine ready_one 33 (by kernel_rfl) (by kernel_rfl) (by rfl) (fun K hK => ?_)
    go_simp
    refine (vsame_any t u _ _ _ (HV6.out.ext E3.out) (HX6.out.ext E3.out)).mono ?_
    rw [HQ.out]
    rintro e y4 ⟨rfl, hE⟩
    have E4 := Lib.hid (E3.out.trans hE)
    clear hE
    try go_wp2_with fail
    refine hK.out _ _ ?_ (fun hHeld => ?_)
    · (try dsimp only)
      (first | exact HS.out _ HDr.out | exact HS.out _ E1.out | exact HS.out _ E2.out | exact HS.out _ E3.out | exact HS.out _ E4.out | exact HS.out _ E5.out)
    clear hK K
    try simp only [Act.put, List.setIfInBounds_toArray, List.set_cons_zero, List.set_cons_succ]
    refine ready_one 36 (by kernel_rfl) (by kernel_rfl) (by rfl) (fun K hK => ?_)
    go_simp
    refine (rsame_any t u _ _ _ (HV6.out.ext E4.out) (HX6.out.ext E4.out)).mono ?_
    rw [HQ.out]
    rintro e y5 ⟨rfl, hE⟩
    have E5 := Lib.hid (E4.out.trans hE)
    clear hE
    try go_wp2_with fail
    refine hK.out _ _ ?_ (fun hHeld => ?_)
    · (try dsimp only)
      (first | exact HS.out _ HDr.out | exact HS.out _ E1.out | exact HS.out _ E2.out | exact HS.out _ E3.out | exact HS.out _ E4.out | exact HS.out _ E5.out)
    clear hK K
    try simp only [Act.put, List.setIfInBounds_toArray, List.set_cons_zero, List.set_cons_succ]
    refine take_w 37 (some 76) (v := ?_) (by kernel_rfl) (by kernel_rfl) (by kernel_rfl) (by kernel_rfl) (by kernel_rfl) (fun _ _ _ h => h) (by rfl) ?_ (by assumption) ?_
    rotate_left
    · (intro w hSw; (try dsimp only at hSw); go_simp; try with_reducible rfl)
    try simp only [Act.put, List.setIfInBounds_toArray, List.set_cons_zero, List.set_cons_succ]
    refine take_w 38 (some 77) (v := ?_) (by kernel_rfl) (by kernel_rfl) (by kernel_rfl) (by kernel_rfl) (by kernel_rfl) (fun _ _ _ h => h) (by rfl) ?_ (by assumption) ?_
    rotate_left
    · (intro w hSw; (try dsimp only at hSw); go_simp; try with_reducible rfl)
    try simp only [Act.put, List.setIfInBounds_toArray, List.set_cons_zero, List.set_cons_succ]
    refine wpAnyH_done (by kernel_rfl) ?_ _
    go_wp2_with fail
    have HDr7 : Hid (Ext w6 y5.drew) := Lib.hid E5.out.drew
    first | (go_region_held3 (fun w' => w'.cell? ⟨w.heap.size, 0, none⟩ = some (.int .u8 k) ∧ w'.cell? ⟨w.heap.size, 1, none⟩ = some (.int .i64 n) ∧ w'.cell? ⟨w.heap.size, 2, none⟩ = some (.string s) ∧ w'.cell? ⟨w.heap.size, 3, none⟩ = some (.slice ad md cd) ∧ w'.cell? ⟨w.heap.size + 1, 0, none⟩ = some (.int .u8 k') ∧ w'.cell? ⟨w.heap.size + 1, 1, none⟩ = some (.int .i64 n') ∧ w'.cell? ⟨w.heap.size + 1, 2, none⟩ = some (.string s') ∧ w'.cell? ⟨w.heap.size + 1, 3, none⟩ = some (.slice ad' md' cd'))
      (first | exact HS.out _ HDr7.out | exact HS.out _ E6.out | exact HS.out _ E8.out | exact HS.out _ E9.out)
      (first
        | (go_at_call 25
           refine (rbytes_any t _ _ (HV6.out.ext HDr7.out) HBL.out).mono ?_
           rintro e z1 ⟨vb, rfl, ho⟩
           obtain ⟨ab1, cb1, rfl, -⟩ := id ho.bytes
           have E6 := Lib.hid (HDr7.out.trans ho.2)
           have HBb := Lib.hid ho.bytes
           clear ho)
        | (go_at_call 24
           refine (same_true (HBY.out.ext E6.out) HBb.out rfl).mono ?_
           rintro e z2 ⟨rfl, rfl⟩)
        | (go_at_call 26
           refine (vshow_any t _ _ (HT.out.ext (HE6.out.trans E6.out)) (HV6.out.ext E6.out) HSL.out).mono ?_
           rintro e z3 ⟨rfl, hE⟩
           have E8 := Lib.hid (E6.out.trans hE)
           clear hE)
        | (go_at_call 27
           refine (rshow_any t _ _ (HV6.out.ext E8.out) HSL.out).mono ?_
           rintro e w7 ⟨rfl, hE⟩
           have E9 := Lib.hid (E8.out.trans hE)
           clear hE))) | (fail "region 7")
    have HE7 := Lib.hid (HE6.out.trans E9.out)
    clear HE6 HS HDr HDr7 E1 E2 E3 E4 E5 E6 E8 E9 HBv6 HBx6 HV6 HX6 HE36 HNO HYES HRt HQ HBY HBL HSL HBb
    go_wp2_with fail
  all_goals
   (refine (vtake_any _ xs w7 (HB.out.ext HE7.out)).mono ?_
    intro e w8 hp
    obtain ⟨tv, kv, nv, sv, av, mv, cv, ar, mr, cr, f8, rfl, hE8, hl8, hno8, hyes8⟩ := hp.all
    have HNO8 := Lib.hid hno8
    have HYES8 := Lib.hid hyes8
    clear hp hno8 hyes8
    go_wp2_with fail
    have hx8 := (Ext.refl w8).alloc (.cells #[.int .u8 kv, .int .i64 nv, .string sv, .slice av mv cv] 24)
    have hb8 : Box4 (w8.alloc (.cells #[.int .u8 kv, .int .i64 nv, .string sv, .slice av mv cv] 24)) w8.heap.size (.int .u8 kv) (.int .i64 nv) (.string sv) (.slice av mv cv) := Box4.new w8 _ _ _ _
    generalize w8.alloc (.cells #[.int .u8 kv, .int .i64 nv, .string sv, .slice av mv cv] 24) = W8 at *
    have HX8 := Lib.hid hx8
    have HE8 := Lib.hid ((HE7.out.trans hE8).trans hx8)
    have HV8 := Lib.hid (hl8.ext hx8)
    have HB8 := Lib.hid hb8
    clear hE8 hx8 hl8 hb8 HE7
    refine (rtakeV_any _ xs W8 (HB.out.ext HE8.out)).mono ?_
    intro e w9 hp
    obtain ⟨tw, kw, nw, sw, aw, mw, cw, A, rfl, hE9, hl9, hno9, hyes9⟩ := hp.all
    have HNO9 := Lib.hid hno9
    have HYES9 := Lib.hid hyes9
    clear hp hno9 hyes9
    have hx9 := (Ext.refl w9).alloc (.cells #[.int .u8 kw, .int .i64 nw, .string sw, .slice aw mw cw] 24)
    have HX9 := Lib.hid (hE9.trans hx9)
    have HE9 := Lib.hid (HE8.out.trans HX9.out)
    have HW9 := Lib.hid (hl9.ext hx9)
    have HV9 := Lib.hid (HV8.out.ext HX9.out)
    have hb9 : Box4 (w9.alloc (.cells #[.int .u8 kw, .int .i64 nw, .string sw, .slice aw mw cw] 24)) w9.heap.size (.int .u8 kw) (.int .i64 nw) (.string sw) (.slice aw mw cw) := Box4.new w9 _ _ _ _
    have HB9 := Lib.hid hb9
    have hbv := HB8.out.ext hE9
    have hlv9 := hbv.lt
    obtain ⟨p0, p1, p2, p3⟩ := hbv.cells
    have HEQ := Lib.hid (eqT_self tv)
    have HXR : Hid (Ext w8 (w9.alloc (.cells #[.int .u8 kw, .int .i64 nw, .string sw, .slice aw mw cw] 24))) := Lib.hid (HX8.out.trans HX9.out)
    clear hE9 hx9 hl9 hb9 hbv HX8 HX9 HV8 HB8 HE8
    cases hTk : takeV' xs with
    | none =>
      obtain ⟨rfl, rfl, rfl⟩ := HNO8.out hTk
      obtain ⟨rfl, rfl⟩ := HNO9.out hTk
      have HTk := Lib.hid hTk
      clear hTk
      go_wp2_with fail
      refine (rsame_any _ _ _ _ _ HV9.out HW9.out).mono ?_
      rw [HEQ.out]
      rintro e w10 ⟨rfl, hE⟩
      have HE10 := Lib.hid (HE9.out.trans hE)
      have HE9x := Lib.hid hE
      clear hE
      go_wp2_with fail
      refine (vparse_any _ xs w10 (HB.out.ext HE10.out)).mono ?_
      intro e w11 hp
      obtain ⟨tp, kp, np, sp, ap, mp, cp, g, rfl, hE11, hl11, hno11, hyes11⟩ := hp.all
      obtain ⟨rfl, rfl⟩ := hno11 (fun t h => by rw [HTk.out] at h; cases h)
      clear hp hno11 hyes11
      have hxp := (Ext.refl w11).alloc (.cells #[.int .u8 kp, .int .i64 np, .string sp, .slice ap mp cp] 24)
      have HXp := Lib.hid (HE9x.out.trans hE11)
      have HE11 := Lib.hid ((HE10.out.trans hE11).trans hxp)
      have HPp := Lib.hid (hl11.ext hxp)
      have hbw := HB9.out.ext HXp.out
      have HWp := Lib.hid (HW9.out.ext (HXp.out.trans hxp))
      obtain ⟨q0, q1, q2, q3⟩ := hbw.cells
      have hlw1 := hbw.lt
      clear hE11 hxp hl11 hbw HXp HE10 HB9 HW9 HV9 HE9 HE9x hlv9 p0 p1 p2 p3
      go_wp2_with fail
      refine (rsame_any _ (.node 0 0 [] []) _ _ _ HPp.out (lies_num _ (by unfold isI64; omega))).mono ?_
      rw [eqT_self]
      rintro e z6 ⟨rfl, hE⟩
      have HE12 := Lib.hid (HE11.out.trans hE)
      clear hE
      have HTa := Lib.hid (HT.out.ext HE12.out)
      go_wp2_with fail
      refine (awake08 _ HTa.out).mono ?_
      rintro e z7 ⟨rfl, hEz⟩
      have HEz := Lib.hid (HE12.out.trans hEz)
      clear hEz
      go_wp2
      go_ret
      exact ⟨rfl, HEz.out⟩
    | some pr =>
      obtain ⟨tt, rr⟩ := pr
      cases rr with
      | nil =>
        obtain ⟨rfl, rfl, hr8⟩ := HYES8.out _ _ hTk
        obtain ⟨rfl, AN, rfl, hA0, hAl, hrA⟩ := HYES9.out _ _ hTk
        have HTk := Lib.hid hTk
        have HRA := Lib.hid hrA
        clear hTk hrA
        have HR8 := Lib.hid (hr8.ext HXR.out)
        clear hr8
        have hA1 : (0 : Int) < (AN : Int) := by omega
        have hA2 : (0 : Int) ≤ (AN : Int) := by omega
        have hA3 : (AN : Int) ≤ (xs.length : Int) := by omega
        have hsk := fun w' => slice_from ab xs.length capb (AN : Int) hA2 hA3 w'
        rw [Int.toNat_natCast] at hsk
        have HDB : Hid (∀ wx, Ext w wx → Bytes wx (dropV (.slice ab xs.length capb) AN) (xs.drop AN)) := Lib.hid (fun wx h => (HB.out.ext h).drop (by omega))
        go_wp2_with fail
        refine (rsame_any _ _ _ _ _ HV9.out HW9.out).mono ?_
        rw [HEQ.out]
        rintro e w10 ⟨rfl, hE⟩
        have HE10 := Lib.hid (HE9.out.trans hE)
        have HE9x := Lib.hid hE
        clear hE
        go_wp2_with fail
        refine (same_true (HR8.out.ext HE9x.out) (HDB.out _ HE10.out) HRA.out).mono ?_
        rintro e z5 ⟨rfl, rfl⟩
        go_wp2_with fail
        refine (vparse_any _ xs w10 (HB.out.ext HE10.out)).mono ?_
        intro e w11 hp
        obtain ⟨tp, kp, np, sp, ap, mp, cp, g, rfl, hE11, hl11, hno11, hyes11⟩ := hp.all
        obtain ⟨rfl, rfl⟩ := hyes11 _ HTk.out
        have hAx : AN = xs.length := by have := congrArg List.length HRA.out; simp at this; omega
        clear hp hno11 hyes11
        have hAx1 : ((AN : Int) == (xs.length : Int)) = true := by simp; omega
        clear hAx
        have hxp := (Ext.refl w11).alloc (.cells #[.int .u8 kp, .int .i64 np, .string sp, .slice ap mp cp] 24)
        have HXp := Lib.hid (HE9x.out.trans hE11)
        have HE11 := Lib.hid ((HE10.out.trans hE11).trans hxp)
        have HPp := Lib.hid (hl11.ext hxp)
        have hbw := HB9.out.ext HXp.out
        have HWp := Lib.hid (HW9.out.ext (HXp.out.trans hxp))
        obtain ⟨q0, q1, q2, q3⟩ := hbw.cells
        have hlw1 := hbw.lt
        clear hE11 hxp hl11 hbw HXp HE10 HB9 HW9 HV9 HE9 HE9x hlv9 p0 p1 p2 p3
        go_wp2_with fail
        refine (rsame_any _ _ _ _ _ HPp.out HWp.out).mono ?_
        rw [HEQ.out]
        rintro e z6 ⟨rfl, hE⟩
        have HE12 := Lib.hid (HE11.out.trans hE)
        clear hE
        have HTa := Lib.hid (HT.out.ext HE12.out)
        go_wp2_with fail
        refine (awake08 _ HTa.out).mono ?_
        rintro e z7 ⟨rfl, hEz⟩
        have HEz := Lib.hid (HE12.out.trans hEz)
        clear hEz
        go_wp2
        go_ret
        exact ⟨rfl, HEz.out⟩
      | cons rc rs =>
        obtain ⟨rfl, rfl, hr8⟩ := HYES8.out _ _ hTk
        obtain ⟨rfl, AN, rfl, hA0, hAl, hrA⟩ := HYES9.out _ _ hTk
        have HTk := Lib.hid hTk
        have HRA := Lib.hid hrA
        clear hTk hrA
        have HR8 := Lib.hid (hr8.ext HXR.out)
        clear hr8
        have hA1 : (0 : Int) < (AN : Int) := by omega
        have hA2 : (0 : Int) ≤ (AN : Int) := by omega
        have hA3 : (AN : Int) ≤ (xs.length : Int) := by omega
        have hsk := fun w' => slice_from ab xs.length capb (AN : Int) hA2 hA3 w'
        rw [Int.toNat_natCast] at hsk
        have HDB : Hid (∀ wx, Ext w wx → Bytes wx (dropV (.slice ab xs.length capb) AN) (xs.drop AN)) := Lib.hid (fun wx h => (HB.out.ext h).drop (by omega))
        go_wp2_with fail
        refine (rsame_any _ _ _ _ _ HV9.out HW9.out).mono ?_
        rw [HEQ.out]
        rintro e w10 ⟨rfl, hE⟩
        have HE10 := Lib.hid (HE9.out.trans hE)
        have HE9x := Lib.hid hE
        clear hE
        go_wp2_with fail
        refine (same_true (HR8.out.ext HE9x.out) (HDB.out _ HE10.out) HRA.out).mono ?_
        rintro e z5 ⟨rfl, rfl⟩
        go_wp2_with fail
        refine (vparse_any _ xs w10 (HB.out.ext HE10.out)).mono ?_
        intro e w11 hp
        obtain ⟨tp, kp, np, sp, ap, mp, cp, g, rfl, hE11, hl11, hno11, hyes11⟩ := hp.all
        obtain ⟨rfl, rfl⟩ := hno11 (fun t h => by rw [HTk.out] at h; cases h)
        have hAx : ¬ (AN = xs.length) := by intro hh; have := congrArg List.length HRA.out; simp at this; omega
        have hAx1 : ((AN : Int) == (xs.length : Int)) = false := by simp; omega
        clear hp hno11 hyes11
        clear hAx
        have hxp := (Ext.refl w11).alloc (.cells #[.int .u8 kp, .int .i64 np, .string sp, .slice ap mp cp] 24)
        have HXp := Lib.hid (HE9x.out.trans hE11)
        have HE11 := Lib.hid ((HE10.out.trans hE11).trans hxp)
        have HPp := Lib.hid (hl11.ext hxp)
        have hbw := HB9.out.ext HXp.out
        have HWp := Lib.hid (HW9.out.ext (HXp.out.trans hxp))
        obtain ⟨q0, q1, q2, q3⟩ := hbw.cells
        have hlw1 := hbw.lt
        clear hE11 hxp hl11 hbw HXp HE10 HB9 HW9 HV9 HE9 HE9x hlv9 p0 p1 p2 p3
        go_wp2_with fail
        refine (rsame_any _ (.node 0 0 [] []) _ _ _ HPp.out (lies_num _ (by unfold isI64; omega))).mono ?_
        rw [eqT_self]
        rintro e z6 ⟨rfl, hE⟩
        have HE12 := Lib.hid (HE11.out.trans hE)
        clear hE
        have HTa := Lib.hid (HT.out.ext HE12.out)
        go_wp2_with fail
        refine (awake08 _ HTa.out).mono ?_
        rintro e z7 ⟨rfl, hEz⟩
        have HEz := Lib.hid (HE12.out.trans hEz)
        clear hEz
        go_wp2
        go_ret
        exact ⟨rfl, HEz.out⟩
    )
end Go.Proofs.YtnbalamacpcanaaDoor
