/- OpHas answers true at every input. -/
import Derived.Test.YtdienbcjfljjnaaDoorOpF
open Go.RowKit Go.Shelf
namespace Go.Proofs.YtdienbcjfljjnaaDoor
open Go Go.Proofs Fm

theorem four {w : World} {b : Nat} {c0 c1 c2 c3 : Value} (h : BoxL w b [c0, c1, c2, c3]) : w.cell? ⟨b, 0, none⟩ = some c0 ∧ w.cell? ⟨b, 1, none⟩ = some c1 ∧ w.cell? ⟨b, 2, none⟩ = some c2 ∧ w.cell? ⟨b, 3, none⟩ = some c3 :=
  ⟨h.cell 0 _ rfl, h.cell 1 _ rfl, h.cell 2 _ rfl, h.cell 3 _ rfl⟩
/-- What the switch asks of a mask. -/
def wantB (k m : Nat) : Bool :=
  if k = 1 then (bits BinOp.andNot IntKind.i64 (m : Int) 3 == 0) else if k = 2 ∨ k = 5 then ((m : Int) == 4) else if k = 3 then ((bits BinOp.and IntKind.i64 (m : Int) 12 == 12) && (bits BinOp.and IntKind.i64 (m : Int) 2 == 0)) else if k = 4 then ((m : Int) == 12) else false
def hasB (k : Nat) (t0 t1 t2 t3 t4 : Bool) : Bool :=
  if k = 1 then !t2 && !t3 && !t4 else if k = 2 ∨ k = 5 then !t0 && !t1 && t2 && !t3 && !t4 else if k = 3 then t2 && t3 && !t1 else if k = 4 then !t0 && !t1 && t2 && t3 && !t4 else false
def bitB (m : Nat) (b : Int) : Bool := (bits BinOp.and IntKind.i64 (m : Int) b != 0)
theorem has_want : ∀ k : Fin 7, ∀ m : Fin 32, hasB k.val (bitB m.val 1) (bitB m.val 2) (bitB m.val 4) (bitB m.val 8) (bitB m.val 16) = wantB k.val m.val := by decide +kernel
theorem has_right (s : List UInt8) (tk : Int) (t : Tr) (l : List It) (q : Int) (h1 : idB s = true) (h2 : 1 ≤ tk) (h3 : rightT t = true) (h4 : fragB l = true) (h5 : 1 ≤ q) (h6 : q ≤ 400) (h7 : eqT t zT = false) (h8 : l ≠ [])
    (k : Nat) (hk : k < 7) (t0 t1 t2 t3 t4 : Bool) :
    rightO ⟨UInt8.ofNat k, bif t2 then s else [], bif t3 then tk else 0, bif t4 then t else zT, bif t0 then l else [], bif t1 then q else 0⟩ = hasB k t0 t1 t2 t3 t4 := by
  have hs0 : decide (s.length = 0) = false := by have := (idB_iff.1 h1).2.1; simp; intro e; rw [e] at this; simp at this
  have hl0 : decide (l.length = 0) = false := by simp; exact h8
  have e1 : fragB [] = true := by decide
  have e2 : rightT zT = true := by simp [zT, rightT, kindsT_node, deepT_node, deepL_nil, partsT_node, partsL_nil, plainB]
  have e3 : eqT zT zT = true := eqT_iff.2 rfl
  have e4 : idB [] = false := by decide
  have q1 : decide (0 ≤ q) = true := by simp; omega
  have q3 : decide (q ≤ 400) = true := by simp; omega
  have q2 : decide (q = 0) = false := by simp; omega
  have k1 : decide (1 ≤ tk) = true := by simp; omega
  have k2 : decide (tk = 0) = false := by simp; omega
  rcases (by omega : k = 0 ∨ k = 1 ∨ k = 2 ∨ k = 3 ∨ k = 4 ∨ k = 5 ∨ k = 6) with rfl | rfl | rfl | rfl | rfl | rfl | rfl <;>
    cases t0 <;> cases t1 <;> cases t2 <;> cases t3 <;> cases t4 <;>
    first
    | (simp only [rightO, cond_true, cond_false, h1, h3, h4, h7, e1, e2, e3, e4, q1, q2, q3, k1, k2, hs0, hl0, List.length_nil]; done)
    | (simp only [rightO, cond_true, cond_false, h1, h3, h4, h7, e1, e2, e3, e4, q1, q2, q3, k1, k2, hs0, hl0, List.length_nil]; rfl)
    | (simp only [rightO, cond_true, cond_false, h1, h3, h4, h7, e1, e2, e3, e4, q1, q2, q3, k1, k2, hs0, hl0, List.length_nil]; decide)
theorem has_opv (w : World) (k : Nat) (hk : k < 7) (s : List UInt8) (hs : s.length ≤ 9223372036854775807) (tk : Int) (htk : isI64 tk) (t : Tr) (vk vn : Int) (vs : ByteArray) (va : Option Addr) (vm vc : Nat) (hv : Lies w t (.agg #[.int .u8 vk, .int .i64 vn, .string vs, .slice va vm vc])) (l : List It) (a : Option Addr) (m c : Nat) (hl : itE.Row w l (.slice a m c)) (q : Int) (hq : isI64 q) (t0 t1 t2 t3 t4 : Bool) :
    OpV w ⟨UInt8.ofNat k, bif t2 then s else [], bif t3 then tk else 0, bif t4 then t else zT, bif t0 then l else [], bif t1 then q else 0⟩
      (.agg #[.int .u8 (k : Int), bif t2 then .string (str s) else .string { data := #[] }, bif t3 then .int .i64 tk else .int .i64 0, bif t4 then .int .u8 vk else .int .u8 0, bif t4 then .int .i64 vn else .int .i64 0, bif t4 then .string vs else .string { data := #[] }, bif t4 then .slice va vm vc else .slice none 0 0, bif t0 then .slice a m c else .slice none 0 0, bif t1 then .int .i64 q else .int .i64 0]) := by
  have hk1 : (((UInt8.ofNat k).toNat : Nat) : Int) = (k : Int) := by rw [UInt8.toNat_ofNat']; omega
  have z : isI64 0 := by unfold isI64; omega
  have hnil : itE.Row w [] (.slice none 0 0) := Elem.Row.void _ _ _
  cases t0 <;> cases t1 <;> cases t2 <;> cases t3 <;> cases t4 <;>
    first
    | exact ⟨_, _, _, _, _, _, _, by first | (simp only [hk1]; done) | (simp only [hk1]; rfl), hv, hl, (by first | exact hs | simp), (by first | exact htk | exact z), (by first | exact hq | exact z)⟩
    | exact ⟨_, _, _, _, _, _, _, by first | (simp only [hk1]; done) | (simp only [hk1]; rfl), hv, hnil, (by first | exact hs | simp), (by first | exact htk | exact z), (by first | exact hq | exact z)⟩
    | exact ⟨_, _, _, _, _, _, _, by first | (simp only [hk1]; done) | (simp only [hk1]; rfl), Lies_zT w, hl, (by first | exact hs | simp), (by first | exact htk | exact z), (by first | exact hq | exact z)⟩
    | exact ⟨_, _, _, _, _, _, _, by first | (simp only [hk1]; done) | (simp only [hk1]; rfl), Lies_zT w, hnil, (by first | exact hs | simp), (by first | exact htk | exact z), (by first | exact hq | exact z)⟩

theorem lies_four {w : World} {t : Tr} {v : Value} (h : Lies w t v) : ∃ (k n : Int) (s : ByteArray) (a : Option Addr) (m c : Nat), v = .agg #[.int .u8 k, .int .i64 n, .string s, .slice a m c] := by
  cases h
  exact ⟨_, _, _, _, _, _, rfl⟩

set_option maxRecDepth 100000 in
set_option maxHeartbeats 16000000 in
theorem opHas_any (w : World) (s : List UInt8) (hs : s.length ≤ 9223372036854775807) (tk : Int) (htk : isI64 tk) (t : Tr) (v : Value) (hv : Lies w t v) (l : List It) (u : Value) (hu : itE.Row w l u) (q : Int) (hq : isI64 q) (hT : KTab w) :
    Calls Tryd.prog 9 #[.string (str s), .int .i64 tk, v, u, .int .i64 q] w fun e w' => e = .returned (.bool true) ∧ Ext w w' := by
  have hss := str_size s
  obtain ⟨vk, vn, vs, va, vm, vc, rfl⟩ := lies_four hv
  obtain ⟨a, c, rfl, hlc, hcm⟩ := hu.slice
  obtain ⟨m, hm⟩ : ∃ m, m = l.length := ⟨_, rfl⟩
  rw [← hm] at hu hlc ⊢
  have HM := Lib.hid hm
  have HV := Lib.hid hv
  have HU := Lib.hid hu
  have HT := Lib.hid hT
  have HTK := Lib.hid htk
  have HQ := Lib.hid hq
  obtain ⟨htk1, htk2⟩ := htk
  obtain ⟨hq1, hq2⟩ := hq
  have HAll : Hid (OpV w ⟨0, s, tk, t, l, q⟩ (.agg #[.int .u8 0, .string (str s), .int .i64 tk, .int .u8 vk, .int .i64 vn, .string vs, .slice va vm vc, .slice a m c, .int .i64 q])) := Lib.hid ⟨_, _, _, _, a, m, c, rfl, hv, hu, hs, HTK.out, HQ.out⟩
  clear hv hu hT hm
  have h7 := (BoxL.new w [.int .u8 vk, .int .i64 vn, .string vs, .slice va vm vc] 45).ext ((Ext.refl _).alloc (.cells #[.int .u8 0, .string (str s), .int .i64 tk, .int .u8 vk, .int .i64 vn, .string vs, .slice va vm vc, .slice a m c, .int .i64 q] 52))
  have h11 := BoxL.new (w.alloc (.cells #[.int .u8 vk, .int .i64 vn, .string vs, .slice va vm vc] 45)) [.int .u8 0, .string (str s), .int .i64 tk, .int .u8 vk, .int .i64 vn, .string vs, .slice va vm vc, .slice a m c, .int .i64 q] 52
  have hz : (w.alloc (.cells #[.int .u8 vk, .int .i64 vn, .string vs, .slice va vm vc] 45)).heap.size = w.heap.size + 1 := by simp
  rw [hz] at h11
  have hE := ((Ext.refl w).alloc (.cells #[.int .u8 vk, .int .i64 vn, .string vs, .slice va vm vc] 45)).alloc (.cells #[.int .u8 0, .string (str s), .int .i64 tk, .int .u8 vk, .int .i64 vn, .string vs, .slice va vm vc, .slice a m c, .int .i64 q] 52)
  clear hz
  go_enter Tryd.func9, Tryd.ntmps9
  go_upto_region 2 with (fail)
  have H7 := Lib.hid h7
  have H11 := Lib.hid h11
  have HE1 := Lib.hid hE
  clear h7 h11 hE
  generalize (w.alloc _).alloc _ = W1 at *
  have ⟨p0, p1, p2, p3, p4, p5, p6, p7, p8⟩ := H11.out.nine
  go_wp2_with fail
  refine (opFew_any _ W1 _ (HAll.out.ext HE1.out)).mono ?_
  rintro e w2 ⟨rfl, hE2⟩
  have HE2 := Lib.hid (HE1.out.trans hE2)
  have H72 := Lib.hid (H7.out.ext hE2)
  clear hE2 HE1 H7 H11 HAll p0 p1 p2 p3 p4 p5 p6 p7 p8
  generalize fewO _ = fw
  cases fw with
  | false =>
    go_wp2_with fail
    refine (awake10 _ (HT.out.ext HE2.out)).mono ?_
    rintro e wz ⟨rfl, hEz⟩
    have HEz := Lib.hid (HE2.out.trans hEz)
    clear hEz
    go_wp2
    go_ret
    exact ⟨rfl, HEz.out⟩
  | true =>
  go_wp2_with fail
  refine (opID_any s hs w2).mono ?_
  rintro e w3 ⟨rfl, hE3⟩
  have HE3 := Lib.hid (HE2.out.trans hE3)
  have H73 := Lib.hid (H72.out.ext hE3)
  clear hE3 HE2 H72
  cases hid : idB s with
  | false =>
    clear hid
    go_wp2_with fail
    refine (awake10 _ (HT.out.ext HE3.out)).mono ?_
    rintro e wz ⟨rfl, hEz⟩
    have HEz := Lib.hid (HE3.out.trans hEz)
    clear hEz
    go_wp2
    go_ret
    exact ⟨rfl, HEz.out⟩
  | true =>
  have HID := Lib.hid hid
  clear hid
  by_cases htk0 : tk < 1
  case pos =>
    go_wp2_with fail
    refine (awake10 _ (HT.out.ext HE3.out)).mono ?_
    rintro e wz ⟨rfl, hEz⟩
    have HEz := Lib.hid (HE3.out.trans hEz)
    clear hEz
    go_wp2
    go_ret
    exact ⟨rfl, HEz.out⟩
  have ⟨p0, p1, p2, p3⟩ := four H73.out
  go_wp2_with fail
  refine (vright_any t w3 _ (HV.out.ext HE3.out)).mono ?_
  rintro e w4 ⟨rfl, hE4⟩
  have HE4 := Lib.hid (HE3.out.trans hE4)
  have H74 := Lib.hid (H73.out.ext hE4)
  clear hE4 HE3 H73 p0 p1 p2 p3
  cases hrt : rightT t with
  | false =>
    clear hrt
    go_wp2_with fail
    refine (awake10 _ (HT.out.ext HE4.out)).mono ?_
    rintro e wz ⟨rfl, hEz⟩
    have HEz := Lib.hid (HE4.out.trans hEz)
    clear hEz
    go_wp2
    go_ret
    exact ⟨rfl, HEz.out⟩
  | true =>
  have HRT := Lib.hid hrt
  clear hrt
  go_wp2_with fail
  refine (fright_any l w4 _ (HU.out.ext HE4.out)).mono ?_
  rintro e w5 ⟨rfl, hE5⟩
  have HE5 := Lib.hid (HE4.out.trans hE5)
  have H75 := Lib.hid (H74.out.ext hE5)
  clear hE5 HE4 H74
  cases hfl : fragB l with
  | false =>
    clear hfl
    go_wp2_with fail
    refine (awake10 _ (HT.out.ext HE5.out)).mono ?_
    rintro e wz ⟨rfl, hEz⟩
    have HEz := Lib.hid (HE5.out.trans hEz)
    clear hEz
    go_wp2
    go_ret
    exact ⟨rfl, HEz.out⟩
  | true =>
  have HFL := Lib.hid hfl
  clear hfl
  by_cases hq0 : q < 1
  case pos =>
    go_wp2_with fail
    refine (awake10 _ (HT.out.ext HE5.out)).mono ?_
    rintro e wz ⟨rfl, hEz⟩
    have HEz := Lib.hid (HE5.out.trans hEz)
    clear hEz
    go_wp2
    go_ret
    exact ⟨rfl, HEz.out⟩
  by_cases hq4 : 400 < q
  case pos =>
    go_wp2_with fail
    refine (awake10 _ (HT.out.ext HE5.out)).mono ?_
    rintro e wz ⟨rfl, hEz⟩
    have HEz := Lib.hid (HE5.out.trans hEz)
    clear hEz
    go_wp2
    go_ret
    exact ⟨rfl, HEz.out⟩
  have ⟨p0, p1, p2, p3⟩ := four H75.out
  go_wp2_with fail
  refine (vsame_any t zT w5 _ _ (HV.out.ext HE5.out) (Lies_zT w5)).mono ?_
  rintro e w6 ⟨rfl, hE6⟩
  have HE6 := Lib.hid (HE5.out.trans hE6)
  have HV6 := Lib.hid (H75.out.ext hE6)
  clear hE6 HE5 H75 p0 p1 p2 p3
  cases hzz : eqT t zT with
  | true =>
    clear hzz
    go_wp2_with fail
    refine (awake10 _ (HT.out.ext HE6.out)).mono ?_
    rintro e wz ⟨rfl, hEz⟩
    have HEz := Lib.hid (HE6.out.trans hEz)
    clear hEz
    go_wp2
    go_ret
    exact ⟨rfl, HEz.out⟩
  | false =>
  have HZZ := Lib.hid hzz
  clear hzz
  by_cases hm0 : m = 0
  case pos =>
    have hm0' : ((m : Int) == 0) = true := by simp; omega
    go_wp2_with fail
    refine (awake10 _ (HT.out.ext HE6.out)).mono ?_
    rintro e wz ⟨rfl, hEz⟩
    have HEz := Lib.hid (HE6.out.trans hEz)
    clear hEz
    go_wp2
    go_ret
    exact ⟨rfl, HEz.out⟩
  have hm0' : ((m : Int) == 0) = false := by simp; omega
  have HLE : Hid (l ≠ []) := Lib.hid (fun e => hm0 (by rw [HM.out, e]; rfl))
  have HRO : Hid (∀ (k : Nat) (_ : k < 7) (t0 t1 t2 t3 t4 : Bool), rightO ⟨UInt8.ofNat k, bif t2 then s else [], bif t3 then tk else 0, bif t4 then t else zT, bif t0 then l else [], bif t1 then q else 0⟩ = hasB k t0 t1 t2 t3 t4) :=
    Lib.hid (fun k hk t0 t1 t2 t3 t4 => has_right s tk t l q HID.out (by omega) HRT.out HFL.out (by omega) (by omega) HZZ.out HLE.out k hk t0 t1 t2 t3 t4)
  clear hm0
  go_wp2_with fail
  clear htk0 hq0 hq4 hm0' HID HRT HFL HZZ HLE htk1 htk2 hq1 hq2
  go_loopw [63] (fun i wr => ∃ k : Nat, k ≤ 7 ∧ i = .int .u8 (k : Int) ∧ Ext w6 wr) (fun i _ => 7 - (intOf i).toNat)
  case atStart => exact ⟨0, by omega, rfl, Ext.refl _⟩
  case round =>
    obtain ⟨k, hk, rfl, hEo⟩ := hrel
    obtain ⟨wo, rfl⟩ : ∃ wo : World, wo = wr := ⟨_, rfl⟩
    have HEo := Lib.hid hEo
    clear hEo
    by_cases hk7 : k < 7
    · have hk7' : (k : Int) < 7 := by omega
      go_wp2_with fail
      go_loopw [66] (fun i wr => ∃ j : Nat, j ≤ 32 ∧ i = .int .i64 (j : Int) ∧ Ext wo wr) (fun i _ => 32 - (intOf i).toNat)
      case atStart => exact ⟨0, by omega, rfl, Ext.refl _⟩
      case round =>
        obtain ⟨j, hj, rfl, hEi⟩ := hrel
        have HEi := Lib.hid (HEo.out.trans hEi)
        have HEwo := Lib.hid hEi
        clear hEi
        by_cases hj32 : j < 32
        · have hj32' : (j : Int) < 32 := by omega
          have hbx := BoxL.new wr [.int .u8 (k : Int), .string { data := #[] }, .int .i64 0, .int .u8 0, .int .i64 0, .string { data := #[] }, .slice none 0 0, .slice none 0 0, .int .i64 0] 52
          have hex := (Ext.refl wr).alloc (.cells #[.int .u8 (k : Int), .string { data := #[] }, .int .i64 0, .int .u8 0, .int .i64 0, .string { data := #[] }, .slice none 0 0, .slice none 0 0, .int .i64 0] 52)
          go_upto_region 11 with (fail)
          clear hj32'
          have HX := Lib.hid hbx
          have HX0 := Lib.hid hex
          have HV7 := Lib.hid (HV6.out.ext HEi.out)
          clear hbx hex
          generalize wr.alloc (.cells #[.int .u8 (k : Int), .string { data := #[] }, .int .i64 0, .int .u8 0, .int .i64 0, .string { data := #[] }, .slice none 0 0, .slice none 0 0, .int .i64 0] 52) = wa at *
          obtain ⟨t0, ht0⟩ : ∃ b, (bits BinOp.and IntKind.i64 (j : Int) 1 != 0) = b := ⟨_, rfl⟩
          obtain ⟨t1, ht1⟩ : ∃ b, (bits BinOp.and IntKind.i64 (j : Int) 2 != 0) = b := ⟨_, rfl⟩
          obtain ⟨t2, ht2⟩ : ∃ b, (bits BinOp.and IntKind.i64 (j : Int) 4 != 0) = b := ⟨_, rfl⟩
          obtain ⟨t3, ht3⟩ : ∃ b, (bits BinOp.and IntKind.i64 (j : Int) 8 != 0) = b := ⟨_, rfl⟩
          obtain ⟨t4, ht4⟩ : ∃ b, (bits BinOp.and IntKind.i64 (j : Int) 16 != 0) = b := ⟨_, rfl⟩
          have HW : Hid (hasB k t0 t1 t2 t3 t4 = wantB k j) := Lib.hid (by rw [← ht0, ← ht1, ← ht2, ← ht3, ← ht4]; exact has_want ⟨k, hk7⟩ ⟨j, hj32⟩)
          go_cut [73] from 71 to 73 (fun p w' => p = .bool t0 ∧ Hid (Ext wr w' ∧ BoxL w' wr.heap.size [.int .u8 (k : Int), .string { data := #[] }, .int .i64 0, .int .u8 0, .int .i64 0, .string { data := #[] }, .slice none 0 0, .slice none 0 0, .int .i64 0]))
          case first =>
            go_wp2_with fail
            go_meet
            case rel => exact ⟨by first | rfl | (rw [ht0]), Lib.hid ⟨HX0.out, HX.out⟩⟩
          case rest =>
          obtain ⟨rfl, hcut⟩ := hcut
          obtain ⟨wb, rfl⟩ : ∃ wb : World, wb = wc := ⟨_, rfl⟩
          clear HX HX0
          have HX := Lib.hid hcut.out.2
          have HX0 := Lib.hid hcut.out.1
          clear hcut
          apply_assumption
          go_cut [] from 74 to 75 (fun w' => Hid (Ext wr w' ∧ BoxL w' wr.heap.size [.int .u8 (k : Int), .string { data := #[] }, .int .i64 0, .int .u8 0, .int .i64 0, .string { data := #[] }, .slice none 0 0, bif t0 then .slice a m c else .slice none 0 0, .int .i64 0]))
          case first =>
            have hlx := HX.out.lt
            clear ht0 HW
            cases t0 with
            | true =>
              have f7 := HX.out.free 7
              have c7 := HX.out.cell 7 _ rfl
              go_wp2_with fail
              go_meet
              case rel => exact Lib.hid ⟨(HX0.out.setCell (p := ⟨wr.heap.size, 7, none⟩) (Nat.le_refl _) _), (HX.out.set 7 (by simp) _)⟩
            | false =>
              go_wp2_with fail
              go_meet
              case rel => exact Lib.hid ⟨HX0.out, HX.out⟩
          case rest =>
          obtain ⟨wb, rfl⟩ : ∃ wb : World, wb = wc := ⟨_, rfl⟩
          clear HX HX0
          have HX := Lib.hid hcut.out.2
          have HX0 := Lib.hid hcut.out.1
          clear hcut
          go_upto_region 13 with (fail)
          go_cut [78] from 76 to 78 (fun p w' => p = .bool t1 ∧ Hid (Ext wr w' ∧ BoxL w' wr.heap.size [.int .u8 (k : Int), .string { data := #[] }, .int .i64 0, .int .u8 0, .int .i64 0, .string { data := #[] }, .slice none 0 0, bif t0 then .slice a m c else .slice none 0 0, .int .i64 0]))
          case first =>
            go_wp2_with fail
            go_meet
            case rel => exact ⟨by first | rfl | (rw [ht1]), Lib.hid ⟨HX0.out, HX.out⟩⟩
          case rest =>
          obtain ⟨rfl, hcut⟩ := hcut
          obtain ⟨wb, rfl⟩ : ∃ wb : World, wb = wc := ⟨_, rfl⟩
          clear HX HX0
          have HX := Lib.hid hcut.out.2
          have HX0 := Lib.hid hcut.out.1
          clear hcut
          apply_assumption
          go_cut [] from 79 to 80 (fun w' => Hid (Ext wr w' ∧ BoxL w' wr.heap.size [.int .u8 (k : Int), .string { data := #[] }, .int .i64 0, .int .u8 0, .int .i64 0, .string { data := #[] }, .slice none 0 0, bif t0 then .slice a m c else .slice none 0 0, bif t1 then .int .i64 q else .int .i64 0]))
          case first =>
            have hlx := HX.out.lt
            clear ht1 HW
            cases t1 with
            | true =>
              have f8 := HX.out.free 8
              have c8 := HX.out.cell 8 _ rfl
              go_wp2_with fail
              go_meet
              case rel => exact Lib.hid ⟨(HX0.out.setCell (p := ⟨wr.heap.size, 8, none⟩) (Nat.le_refl _) _), (HX.out.set 8 (by simp) _)⟩
            | false =>
              go_wp2_with fail
              go_meet
              case rel => exact Lib.hid ⟨HX0.out, HX.out⟩
          case rest =>
          obtain ⟨wb, rfl⟩ : ∃ wb : World, wb = wc := ⟨_, rfl⟩
          clear HX HX0
          have HX := Lib.hid hcut.out.2
          have HX0 := Lib.hid hcut.out.1
          clear hcut
          go_upto_region 15 with (fail)
          go_cut [83] from 81 to 83 (fun p w' => p = .bool t2 ∧ Hid (Ext wr w' ∧ BoxL w' wr.heap.size [.int .u8 (k : Int), .string { data := #[] }, .int .i64 0, .int .u8 0, .int .i64 0, .string { data := #[] }, .slice none 0 0, bif t0 then .slice a m c else .slice none 0 0, bif t1 then .int .i64 q else .int .i64 0]))
          case first =>
            go_wp2_with fail
            go_meet
            case rel => exact ⟨by first | rfl | (rw [ht2]), Lib.hid ⟨HX0.out, HX.out⟩⟩
          case rest =>
          obtain ⟨rfl, hcut⟩ := hcut
          obtain ⟨wb, rfl⟩ : ∃ wb : World, wb = wc := ⟨_, rfl⟩
          clear HX HX0
          have HX := Lib.hid hcut.out.2
          have HX0 := Lib.hid hcut.out.1
          clear hcut
          apply_assumption
          go_cut [] from 84 to 85 (fun w' => Hid (Ext wr w' ∧ BoxL w' wr.heap.size [.int .u8 (k : Int), bif t2 then .string (str s) else .string { data := #[] }, .int .i64 0, .int .u8 0, .int .i64 0, .string { data := #[] }, .slice none 0 0, bif t0 then .slice a m c else .slice none 0 0, bif t1 then .int .i64 q else .int .i64 0]))
          case first =>
            have hlx := HX.out.lt
            clear ht2 HW
            cases t2 with
            | true =>
              have f1 := HX.out.free 1
              have c1 := HX.out.cell 1 _ rfl
              go_wp2_with fail
              go_meet
              case rel => exact Lib.hid ⟨(HX0.out.setCell (p := ⟨wr.heap.size, 1, none⟩) (Nat.le_refl _) _), (HX.out.set 1 (by simp) _)⟩
            | false =>
              go_wp2_with fail
              go_meet
              case rel => exact Lib.hid ⟨HX0.out, HX.out⟩
          case rest =>
          obtain ⟨wb, rfl⟩ : ∃ wb : World, wb = wc := ⟨_, rfl⟩
          clear HX HX0
          have HX := Lib.hid hcut.out.2
          have HX0 := Lib.hid hcut.out.1
          clear hcut
          go_upto_region 17 with (fail)
          go_cut [88] from 86 to 88 (fun p w' => p = .bool t3 ∧ Hid (Ext wr w' ∧ BoxL w' wr.heap.size [.int .u8 (k : Int), bif t2 then .string (str s) else .string { data := #[] }, .int .i64 0, .int .u8 0, .int .i64 0, .string { data := #[] }, .slice none 0 0, bif t0 then .slice a m c else .slice none 0 0, bif t1 then .int .i64 q else .int .i64 0]))
          case first =>
            go_wp2_with fail
            go_meet
            case rel => exact ⟨by first | rfl | (rw [ht3]), Lib.hid ⟨HX0.out, HX.out⟩⟩
          case rest =>
          obtain ⟨rfl, hcut⟩ := hcut
          obtain ⟨wb, rfl⟩ : ∃ wb : World, wb = wc := ⟨_, rfl⟩
          clear HX HX0
          have HX := Lib.hid hcut.out.2
          have HX0 := Lib.hid hcut.out.1
          clear hcut
          apply_assumption
          go_cut [] from 89 to 90 (fun w' => Hid (Ext wr w' ∧ BoxL w' wr.heap.size [.int .u8 (k : Int), bif t2 then .string (str s) else .string { data := #[] }, bif t3 then .int .i64 tk else .int .i64 0, .int .u8 0, .int .i64 0, .string { data := #[] }, .slice none 0 0, bif t0 then .slice a m c else .slice none 0 0, bif t1 then .int .i64 q else .int .i64 0]))
          case first =>
            have hlx := HX.out.lt
            clear ht3 HW
            cases t3 with
            | true =>
              have f2 := HX.out.free 2
              have c2 := HX.out.cell 2 _ rfl
              go_wp2_with fail
              go_meet
              case rel => exact Lib.hid ⟨(HX0.out.setCell (p := ⟨wr.heap.size, 2, none⟩) (Nat.le_refl _) _), (HX.out.set 2 (by simp) _)⟩
            | false =>
              go_wp2_with fail
              go_meet
              case rel => exact Lib.hid ⟨HX0.out, HX.out⟩
          case rest =>
          obtain ⟨wb, rfl⟩ : ∃ wb : World, wb = wc := ⟨_, rfl⟩
          clear HX HX0
          have HX := Lib.hid hcut.out.2
          have HX0 := Lib.hid hcut.out.1
          clear hcut
          go_upto_region 19 with (fail)
          go_cut [93] from 91 to 93 (fun p w' => p = .bool t4 ∧ Hid (Ext wr w' ∧ BoxL w' wr.heap.size [.int .u8 (k : Int), bif t2 then .string (str s) else .string { data := #[] }, bif t3 then .int .i64 tk else .int .i64 0, .int .u8 0, .int .i64 0, .string { data := #[] }, .slice none 0 0, bif t0 then .slice a m c else .slice none 0 0, bif t1 then .int .i64 q else .int .i64 0]))
          case first =>
            go_wp2_with fail
            go_meet
            case rel => exact ⟨by first | rfl | (rw [ht4]), Lib.hid ⟨HX0.out, HX.out⟩⟩
          case rest =>
          obtain ⟨rfl, hcut⟩ := hcut
          obtain ⟨wb, rfl⟩ : ∃ wb : World, wb = wc := ⟨_, rfl⟩
          clear HX HX0
          have HX := Lib.hid hcut.out.2
          have HX0 := Lib.hid hcut.out.1
          clear hcut
          apply_assumption
          go_cut [] from 94 to 95 (fun w' => Hid (Ext wr w' ∧ BoxL w' wr.heap.size [.int .u8 (k : Int), bif t2 then .string (str s) else .string { data := #[] }, bif t3 then .int .i64 tk else .int .i64 0, bif t4 then .int .u8 vk else .int .u8 0, bif t4 then .int .i64 vn else .int .i64 0, bif t4 then .string vs else .string { data := #[] }, bif t4 then .slice va vm vc else .slice none 0 0, bif t0 then .slice a m c else .slice none 0 0, bif t1 then .int .i64 q else .int .i64 0]))
          case first =>
            have hlx := HX.out.lt
            clear ht4 HW
            cases t4 with
            | true =>
              have f3 := HX.out.free 3
              have f4 := HX.out.free 4
              have f5 := HX.out.free 5
              have f6 := HX.out.free 6
              have c3 := HX.out.cell 3 _ rfl
              have c4 := HX.out.cell 4 _ rfl
              have c5 := HX.out.cell 5 _ rfl
              have c6 := HX.out.cell 6 _ rfl
              have ⟨p0, p1, p2, p3⟩ := four (HV7.out.ext HX0.out)
              go_wp2_with fail
              go_meet
              case rel => exact Lib.hid ⟨((((HX0.out.setCell (p := ⟨wr.heap.size, 3, none⟩) (Nat.le_refl _) _).setCell (p := ⟨wr.heap.size, 4, none⟩) (Nat.le_refl _) _).setCell (p := ⟨wr.heap.size, 5, none⟩) (Nat.le_refl _) _).setCell (p := ⟨wr.heap.size, 6, none⟩) (Nat.le_refl _) _), ((((HX.out.set 3 (by simp) _).set 4 (by simp) _).set 5 (by simp) _).set 6 (by simp) _)⟩
            | false =>
              go_wp2_with fail
              go_meet
              case rel => exact Lib.hid ⟨HX0.out, HX.out⟩
          case rest =>
          obtain ⟨wb, rfl⟩ : ∃ wb : World, wb = wc := ⟨_, rfl⟩
          clear HX HX0
          have HX := Lib.hid hcut.out.2
          have HX0 := Lib.hid hcut.out.1
          clear hcut
          clear ht0 ht1 ht2 ht3 ht4
          go_upto_region 22 with (fail)
          go_cut [96] from 96 to 96 (fun p w' => p = .int .u8 (k : Int) ∧ Hid (Ext wb w'))
          case first =>
            go_wp2_with fail
            go_meet
            case rel => exact ⟨rfl, Lib.hid (Ext.refl _)⟩
          case rest =>
          obtain ⟨rfl, hcq⟩ := hcut
          obtain ⟨wq, rfl⟩ : ∃ wq : World, wq = wc := ⟨_, rfl⟩
          have HXq := Lib.hid (HX.out.ext hcq.out)
          have HXq0 := Lib.hid (HX0.out.trans hcq.out)
          clear hcq HX HX0
          have HX := HXq
          have HX0 := HXq0
          clear HXq HXq0
          apply_assumption
          go_cut [15] from 97 to 120 (fun p w' => p = .bool (wantB k j) ∧ Hid (Ext wq w'))
          case first =>
            clear hk hj hj32
            have HK7 := Lib.hid hk7
            clear hk7 hk7'
            cases c12 : (bits BinOp.and IntKind.i64 (j : Int) 12 == 12) with
            | true =>
              rcases (show k = 0 ∨ k = 1 ∨ k = 2 ∨ k = 3 ∨ k = 4 ∨ k = 5 ∨ k = 6 by have := HK7.out; omega) with rfl | rfl | rfl | rfl | rfl | rfl | rfl
              all_goals
                go_wp2_with fail
                go_meet
                case rel => exact ⟨by simp [wantB, c12], Lib.hid (Ext.refl _)⟩
            | false =>
              rcases (show k = 0 ∨ k = 1 ∨ k = 2 ∨ k = 3 ∨ k = 4 ∨ k = 5 ∨ k = 6 by have := HK7.out; omega) with rfl | rfl | rfl | rfl | rfl | rfl | rfl
              all_goals
                go_wp2_with fail
                go_meet
                case rel => exact ⟨by simp [wantB, c12], Lib.hid (Ext.refl _)⟩
          case rest =>
          obtain ⟨rfl, hcw⟩ := hcut
          obtain ⟨wd, rfl⟩ : ∃ wd : World, wd = wc := ⟨_, rfl⟩
          have HXd := Lib.hid (HX.out.ext hcw.out)
          have HEd := Lib.hid (HX0.out.trans hcw.out)
          have HEw := Lib.hid (HEi.out.trans HEd.out)
          have HEo2 := Lib.hid (HEwo.out.trans HEd.out)
          clear hcw
          have ⟨c0, c1, c2, c3, c4, c5, c6, c7, c8⟩ := HXd.out.nine
          go_wp2_with fail
          refine (opRight_any _ wd _ (has_opv wd k hk7 s hs tk HTK.out t vk vn vs va vm vc (HV.out.ext (HE6.out.trans HEw.out)) l a m c (HU.out.ext (HE6.out.trans HEw.out)) q HQ.out t0 t1 t2 t3 t4) (HT.out.ext (HE6.out.trans HEw.out))).mono ?_
          rw [HRO.out k hk7 t0 t1 t2 t3 t4, HW.out]
          rintro e wf ⟨rfl, hEf⟩
          have HEf := Lib.hid (HEo2.out.trans hEf)
          clear hEf c0 c1 c2 c3 c4 c5 c6 c7 c8
          generalize wantB k j = wt
          go_wp2
          go_roundw
          case rel => exact ⟨j + 1, by omega, by go_num, HEf.out⟩
          case measure => simp [intOf]; omega
        · have hj32' : ¬ (j : Int) < 32 := by omega
          have HE9 := Lib.hid (HEo.out.trans HEwo.out)
          go_wp2_with fail
          go_roundw
          case rel => exact ⟨k + 1, by omega, by go_num, HE9.out⟩
          case measure => simp [intOf]; omega
    · have hk7' : ¬ (k : Int) < 7 := by omega
      have HE9 := Lib.hid (HE6.out.trans HEo.out)
      clear HE6 HEo
      go_wp2_with fail
      refine (awake10 _ (HT.out.ext HE9.out)).mono ?_
      rintro e wz ⟨rfl, hEz⟩
      have HEz := Lib.hid (HE9.out.trans hEz)
      clear hEz
      go_wp2
      go_ret
      exact ⟨rfl, HEz.out⟩
end Go.Proofs.YtdienbcjfljjnaaDoor
