/- The reference's Show. -/
import Derived.Test.YtnbalamacpcanaaDoorRefA
import Derived.Test.YtnbalamacpcanaaDoorValC
open Go.RowKit Go.Shelf
namespace Go.Proofs.YtnbalamacpcanaaDoor
open Go Go.Proofs Fm

theorem add_head (c : UInt8) (xs : List UInt8) (h : xs.length ≤ 9000000000000000000) (w : World) : (Op.stringOp .add { data := #[c] } (str xs)).run Tryd.prog w = .ok (.string (str (c :: xs))) w :=
  str_add (P := Tryd.prog) [c] xs (by simp; omega) w
theorem add_last (c : UInt8) (xs : List UInt8) (h : xs.length ≤ 9000000000000000000) (w : World) : (Op.stringOp .add (str xs) { data := #[c] }).run Tryd.prog w = .ok (.string (str (xs ++ [c]))) w :=
  str_add (P := Tryd.prog) xs [c] (by simp; omega) w

set_option maxRecDepth 100000 in
set_option maxHeartbeats 4000000 in
theorem rshow_num (w : World) (n : Int) (hn : isI64 n) (s : ByteArray) (a : Option Addr) (m c : Nat) :
    Calls Tryd.prog 27 #[.agg #[.int .u8 0, .int .i64 n, .string s, .slice a m c]] w fun e w' => e = .returned (.string (str (Lib.itoa n))) ∧ Ext w w' := by
  unfold isI64 at hn
  obtain ⟨hn1, hn2⟩ := hn
  have HE0 : Hid (Ext w (w.alloc (.cells #[.int .u8 0, .int .i64 n, .string s, .slice a m c] 24))) := Lib.hid ((Ext.refl w).alloc _)
  by_cases h : n < 0
  · obtain ⟨u, hu⟩ : ∃ u : Nat, u = n.natAbs := ⟨_, rfl⟩
    have HI := Lib.hid (show Lib.itoa n = 45 :: Lib.decDigits u by unfold Lib.itoa; rw [if_pos h, hu])
    have hul : u < 18446744073709551616 := by omega
    have hw1 : IntKind.i64.wrap (n + 1) = n + 1 := IntWalk.i64_in _ (by omega)
    have hw2 : IntKind.i64.wrap (-(n + 1)) = (u : Int) - 1 := by rw [IntWalk.i64_in _ (by omega)]; omega
    have hw3 : IntKind.u64.wrap ((u : Int) - 1) = (u : Int) - 1 := IntWalk.u64_in _ (by omega)
    have hw4 : IntKind.u64.wrap ((u : Int) - 1 + 1) = (u : Int) := by rw [IntWalk.u64_in _ (by omega)]; omega
    have hw5 : (u : Int) - 1 + 1 = (u : Int) := by omega
    have hl := decDigits_le20 hul
    have hsa := fun w' => add_head 45 (Lib.decDigits u) (by omega) w'
    clear hu hl
    go_enter Tryd.func27, Tryd.ntmps27
    go_wp2_with fail
    refine (rdigits_any u _ hul).mono ?_
    rintro e w1 ⟨rfl, hE1⟩
    go_wp2
    go_ret
    exact ⟨by rw [HI.out]; rfl, HE0.out.trans hE1⟩
  · obtain ⟨u, rfl⟩ : ∃ u : Nat, n = (u : Int) := ⟨n.toNat, by omega⟩
    have HI := Lib.hid (show Lib.itoa (u : Int) = Lib.decDigits u by unfold Lib.itoa; rw [if_neg h, Int.toNat_natCast])
    have hul : u < 18446744073709551616 := by omega
    have hw3 : IntKind.u64.wrap (u : Int) = (u : Int) := IntWalk.u64_in _ (by omega)
    have h' : ¬ (u : Int) < 0 := h
    go_enter Tryd.func27, Tryd.ntmps27
    go_wp2_with fail
    refine (rdigits_any u _ hul).mono ?_
    rintro e w1 ⟨rfl, hE1⟩
    go_wp2
    go_ret
    exact ⟨by rw [HI.out]; rfl, HE0.out.trans hE1⟩

set_option maxRecDepth 100000 in
set_option maxHeartbeats 4000000 in
theorem rshow_text (w : World) (n : Int) (s : List UInt8) (hs : s.length ≤ 1000000000) (a : Option Addr) (m c : Nat) :
    Calls Tryd.prog 27 #[.agg #[.int .u8 1, .int .i64 n, .string (str s), .slice a m c]] w fun e w' => e = .returned (.string (str (34 :: (escB s ++ [34])))) ∧ Ext w w' := by
  obtain ⟨m0, m1, m2, m3, hsz⟩ := alloc4 w (.int .u8 1) (.int .i64 n) (.string (str s)) (.slice a m c) 24
  have hE0 := (Ext.refl w).alloc (.cells #[.int .u8 1, .int .i64 n, .string (str s), .slice a m c] 24)
  have hss := str_size s
  go_enter Tryd.func27, Tryd.ntmps27
  go_wp2_with fail
  generalize w.alloc (.cells #[.int .u8 1, .int .i64 n, .string (str s), .slice a m c] 24) = W1 at *
  clear m0 m1 m3
  go_loopw [3, 4] (fun x i wr => ∃ j : Nat, j ≤ s.length ∧ x = .string (str (escB (s.take j))) ∧ i = .int .i64 j ∧ Ext W1 wr) (fun _ i _ => s.length - (intOf i).toNat)
  case atStart => exact ⟨0, by omega, rfl, rfl, Ext.refl _⟩
  case round =>
    obtain ⟨j, hj, rfl, rfl, hE⟩ := hrel
    have p2 := (hE.cell (p := ⟨w.heap.size, 2, none⟩) hsz).trans m2
    by_cases hlt : j < s.length
    · obtain ⟨x, hx⟩ : ∃ x, x = s[j]?.getD 0 := ⟨_, rfl⟩
      have hxs : x = s[j] := by rw [hx]; simp [hlt]
      have hix := run_index_str (P := Tryd.prog) Tryd.underlying9 s j hlt
      rw [← hx] at hix
      have hle := escB_le (s.take j)
      have hle2 : (s.take j).length ≤ s.length := by simp; omega
      have HEs := Lib.hid (escB_at s j hlt)
      rw [← hxs] at HEs
      obtain ⟨L, hL⟩ : ∃ L, L = escB (s.take j) := ⟨_, rfl⟩
      rw [← hL] at hle HEs
      have hLl : L.length ≤ 3000000000 := by omega
      have hxl := x.toNat_lt
      rw [← hL]
      clear hx hxs hL hle hle2 m2
      by_cases hpl : plainC x = true
      case pos =>
        have HEq := Lib.hid (show escC x = [x] by unfold escC; rw [if_pos hpl])
        unfold plainC at hpl
        simp only [decide_eq_true_eq] at hpl
        obtain ⟨q1, q2, q3, q4⟩ := hpl
        have hcv := fun w' => conv_one w' (x := x) rfl
        have hsa := fun w' => add_last x L (by omega) w'
        have hsa2 := fun w' => str_add (P := Tryd.prog) L [x] (by simp; omega) w'
        generalize hz : (x.toNat : Int) = z at *
        have f1 : ¬ z < 33 := by omega
        have f2 : ¬ 126 < z := by omega
        have f3 : (z == 34) = false := by simp; omega
        have f4 : (z == 37) = false := by simp; omega
        clear q1 q2 q3 q4 hz
        go_wp2
        go_roundw
        case rel => exact ⟨j + 1, by omega, by rw [HEs.out, HEq.out], by go_num, hE.alloc _⟩
        case measure => simp [intOf]; omega
      case neg =>
        have HEq := Lib.hid (show escC x = [37, hexd (x.toNat / 16), hexd (x.toNat % 16)] by unfold escC; rw [if_neg hpl])
        obtain ⟨q, hq⟩ : ∃ q, q = x.toNat / 16 := ⟨_, rfl⟩
        obtain ⟨r, hr⟩ : ∃ r, r = x.toNat % 16 := ⟨_, rfl⟩
        have hq16 : q < 16 := by omega
        have hr16 : r < 16 := by omega
        rw [← hq, ← hr] at HEq
        have hsa := fun w' => add_last 37 L (by omega) w'
        have hsa2 : ∀ w' : World, (Op.stringOp .add (str (L ++ [37])) (str [hexd q])).run Tryd.prog w' = .ok (.string (str (L ++ [37, hexd q]))) w' := fun w' => by
          have h := str_add (P := Tryd.prog) (L ++ [37]) [hexd q] (by simp; omega) w'
          rwa [List.append_assoc] at h
        have hsa3 : ∀ w' : World, (Op.stringOp .add (str (L ++ [37, hexd q])) (str [hexd r])).run Tryd.prog w' = .ok (.string (str (L ++ [37, hexd q, hexd r]))) w' := fun w' => by
          have h := str_add (P := Tryd.prog) (L ++ [37, hexd q]) [hexd r] (by simp; omega) w'
          rwa [List.append_assoc] at h
        have hwq : IntKind.u8.wrap ((x.toNat : Int).tdiv 16) = (q : Int) := by rw [Int.tdiv_eq_ediv_of_nonneg (by omega), IntWalk.u8_in _ (by omega)]; omega
        have hwr : IntKind.u8.wrap ((x.toNat : Int).tmod 16) = (r : Int) := by rw [Int.tmod_eq_emod_of_nonneg (by omega), IntWalk.u8_in _ (by omega)]; omega
        have hwq2 : (x.toNat : Int) / 16 = (q : Int) := by omega
        have hwr2 : (x.toNat : Int) % 16 = (r : Int) := by omega
        have hc : x.toNat < 33 ∨ 126 < x.toNat ∨ x.toNat = 34 ∨ x.toNat = 37 := by
          unfold plainC at hpl
          simp only [decide_eq_true_eq] at hpl
          omega
        clear hpl hq hr
        generalize hz : (x.toNat : Int) = z at *
        by_cases f1 : z < 33
        case' pos => clear hc hz
        case' neg =>
          by_cases f2 : 126 < z
          case' pos => clear hc hz
          case' neg =>
            by_cases f3 : z = 34
            case' pos =>
              have f3b : (z == 34) = true := by simpa using f3
              clear hc hz f3
            case' neg =>
              have f4 : (z == 37) = true := by simp; omega
              have f3b : (z == 34) = false := by simpa using f3
              clear hc hz f3
        all_goals
         (go_wp2_with fail
          refine (rdigit_any q hq16 _).mono ?_
          rintro e w1 ⟨rfl, hE1⟩
          have hE2 := hE.trans hE1
          go_wp2_with fail
          refine (rdigit_any r hr16 _).mono ?_
          rintro e w2 ⟨rfl, hE3⟩
          have hE4 := hE2.trans hE3
          go_wp2
          go_roundw
          case rel => exact ⟨j + 1, by omega, by rw [HEs.out, HEq.out], by go_num, hE4⟩
          case measure => simp [intOf]; omega)
    · obtain rfl : j = s.length := by omega
      have hle := escB_le s
      have HL := Lib.hid (show escB (s.take s.length) = escB s by rw [List.take_length])
      rw [HL.out]
      have hsa := fun w' => add_head 34 (escB s) (by omega) w'
      have hsa2 := fun w' => add_last 34 (34 :: escB s) (by simp; omega) w'
      clear hle HL
      go_wp2
      go_ret
      exact ⟨rfl, hE0.trans hE⟩

theorem rescB_ge : ∀ s : List UInt8, s.length ≤ (escB s).length
  | [] => by simp
  | c :: s => by
    have h1 : 1 ≤ (escC c).length := by unfold escC; split <;> simp
    have h2 := rescB_ge s
    have e : escB (c :: s) = escC c ++ escB s := by simp [escB]
    rw [e, List.length_append, List.length_cons]; omega

set_option maxRecDepth 100000 in
set_option maxHeartbeats 4000000 in
theorem rshow_any (t : Tr) : ∀ (w : World) (v : Value), Lies w t v → (showT t).length ≤ 1000000000 →
    Calls Tryd.prog 27 #[v] w fun e w' => e = .returned (.string (str (showT t))) ∧ Ext w w' := by
  induction t using Tr.ind with
  | h k n s l ih =>
  intro w v hv hlen
  obtain ⟨d, rfl, hn, hs, hl⟩ := hv.parts
  have ⟨a, cap, hd, h1, h2, h3, C, h4, h5⟩ := hl
  subst hd
  rw [showT_node] at hlen ⊢
  by_cases hk0 : k = 0
  · rw [if_pos hk0]
    subst hk0
    exact rshow_num w n hn (str s) a l.length cap
  rw [if_neg hk0] at hlen ⊢
  by_cases hk1 : k = 1
  · rw [if_pos hk1] at hlen ⊢
    subst hk1
    have := rescB_ge s
    simp at hlen
    exact rshow_text w n s (by omega) a l.length cap
  rw [if_neg hk1] at hlen ⊢
  have IH := Lib.hid ih
  have H4 := Lib.hid h4; have H5 := Lib.hid h5
  have hll : l.length ≤ 9223372036854775807 := by unfold maxLen at h2; omega
  have e0 := u8_eq k 0
  have e1 := u8_eq k 1
  rw [show ((0 : UInt8).toNat : Int) = 0 from rfl] at e0
  rw [show ((1 : UInt8).toNat : Int) = 1 from rfl] at e1
  have f0 : ((k.toNat : Int) == 0) = false := by rw [e0]; simpa using hk0
  have f1 : ((k.toNat : Int) == 1) = false := by rw [e1]; simpa using hk1
  have hLb : (showL l).length ≤ 1000000000 := by simp at hlen; omega
  clear h1 h2 h3 h4 h5 hl hn hv hs ih e0 e1 hk0 hk1 hlen
  generalize (k.toNat : Int) = K at *
  obtain ⟨m0, m1, m2, m3, hsz⟩ := alloc4 w (.int .u8 K) (.int .i64 n) (.string (str s)) (.slice a l.length cap) 24
  have hE0 := (Ext.refl w).alloc (.cells #[.int .u8 K, .int .i64 n, .string (str s), .slice a l.length cap] 24)
  go_enter Tryd.func27, Tryd.ntmps27
  go_wp2_with fail
  generalize w.alloc (.cells #[.int .u8 K, .int .i64 n, .string (str s), .slice a l.length cap] 24) = W1 at *
  clear m0 m1 m2
  go_loopw [3, 6] (fun x i wr => ∃ j : Nat, j ≤ l.length ∧ x = .string (str (showL (l.take j))) ∧ i = .int .i64 j ∧ Ext W1 wr) (fun _ i _ => l.length - (intOf i).toNat)
  case atStart => exact ⟨0, by omega, rfl, rfl, Ext.refl _⟩
  case round =>
    obtain ⟨j, hj, rfl, rfl, hE'⟩ := hrel
    have hE := hE0.trans hE'
    have p3 := (hE'.cell (p := ⟨w.heap.size, 3, none⟩) hsz).trans m3
    by_cases hlt : j < l.length
    · obtain ⟨b, off, rfl, hb, hc⟩ := H4.out (by omega)
      obtain ⟨k0, n0, s0, a0, m0, c0, e0, e1, e2, e3, hx⟩ := elem4 hE hb hc H5.out j hlt
      have hsl := showL_at l j hlt
      have hle := showL_take_le l (j + 1)
      have hle0 := showL_take_le l j
      have IHj := Lib.hid (IH.out _ (List.getElem_mem hlt))
      have HX := Lib.hid hx
      generalize l[j] = t at *
      obtain ⟨L, hL⟩ : ∃ L, L = showL (l.take j) := ⟨_, rfl⟩
      obtain ⟨M, hM⟩ : ∃ M, M = showL (l.take (j + 1)) := ⟨_, rfl⟩
      rw [← hL] at hsl hle0 ⊢
      rw [← hM] at hsl hle
      have hml : L.length + (if j = 0 then ([] : List UInt8) else [44]).length + (showT t).length ≤ 1000000000 := by
        have := congrArg List.length hsl
        rw [List.length_append, List.length_append] at this
        omega
      have HTl : Hid ((showT t).length ≤ 1000000000) := Lib.hid (by omega)
      have HM := Lib.hid hM
      have HSL := Lib.hid hsl
      have hj0 : (0 : Int) ≤ (j : Int) := by omega
      clear hM hL hsl hle hle0 hx hb hc m3
      by_cases hz : j = 0
      · have hjz : ¬ (0 : Int) < (j : Int) := by omega
        rw [if_pos hz] at hml
        have hsa : ∀ w' : World, (Op.stringOp .add (str L) (str (showT t))).run Tryd.prog w' = .ok (.string (str M)) w' := fun w' => by
          have h := str_add (P := Tryd.prog) L (showT t) (by simp at hml; omega) w'
          rw [HSL.out, if_pos hz, List.append_nil]; exact h
        clear hml hz
        go_wp2_with fail
        refine (IHj.out _ _ HX.out HTl.out).mono ?_
        rintro e w1 ⟨rfl, hE1⟩
        have hE2 := hE'.trans hE1
        clear hE1 e0 e1 e2 e3 p3
        go_wp2
        go_roundw
        case rel => exact ⟨j + 1, by omega, by rw [← HM.out], by go_num, hE2⟩
        case measure => simp [intOf]; omega
      · have hjp : (0 : Int) < (j : Int) := by omega
        rw [if_neg hz] at hml
        have hsa := fun w' => add_last 44 L (by omega) w'
        have hsa2 : ∀ w' : World, (Op.stringOp .add (str (L ++ [44])) (str (showT t))).run Tryd.prog w' = .ok (.string (str M)) w' := fun w' => by
          have h := str_add (P := Tryd.prog) (L ++ [44]) (showT t) (by simp at hml ⊢; omega) w'
          rw [HSL.out, if_neg hz]; exact h
        clear hml hz
        go_wp2_with fail
        refine (IHj.out _ _ HX.out HTl.out).mono ?_
        rintro e w1 ⟨rfl, hE1⟩
        have hE2 := hE'.trans hE1
        clear hE1 e0 e1 e2 e3 p3
        go_wp2
        go_roundw
        case rel => exact ⟨j + 1, by omega, by rw [← HM.out], by go_num, hE2⟩
        case measure => simp [intOf]; omega
    · obtain rfl : j = l.length := by omega
      have HL := Lib.hid (show showL (l.take l.length) = showL l by rw [List.take_length])
      rw [HL.out]
      have hsa := fun w' => add_head 91 (showL l) (by omega) w'
      have hsa2 := fun w' => add_last 93 (91 :: showL l) (by simp; omega) w'
      clear HL
      go_wp2
      go_ret
      exact ⟨rfl, hE⟩
end Go.Proofs.YtnbalamacpcanaaDoor
