/- The contracts of package wire, first part: plain, signed, TakeNum, Same. -/
import Derived.Test.YtdienbcjfljjnaaDoorProg
import Derived.Test.YtdienbcjfljjnaaDoorPlA
import Derived.WalkLawsBesides
import Derived.WalkSpells
import Derived.Lib.Hide
import Derived.BigQuiet
import Derived.Deep.QuietTactic
open Go.RowKit
namespace Go.Proofs.YtdienbcjfljjnaaDoor
open Go Go.Proofs Fm

theorem xor_ones (a : Nat) (h : a < 18446744073709551616) : a ^^^ 18446744073709551615 = 18446744073709551615 - a := by
  have h1 := congrArg BitVec.toNat (BitVec.xor_allOnes (x := BitVec.ofNat 64 a))
  rw [BitVec.toNat_xor, BitVec.toNat_not, BitVec.toNat_allOnes, BitVec.toNat_ofNat, Nat.mod_eq_of_lt (by simpa using h)] at h1
  simpa using h1

theorem plain_bits (n : Int) (h : isI64 n) :
    bits BinOp.xor IntKind.u64 (IntKind.u64.wrap (IntKind.u64.wrap n * 2)) (IntKind.u64.wrap (n / 9223372036854775808)) = ((zig n : Nat) : Int) := by
  unfold isI64 at h
  simp only [IntKind.wrap_u64]
  by_cases h0 : 0 ≤ n
  · have e1 : n % 18446744073709551616 * 2 % 18446744073709551616 = ((2 * n.toNat : Nat) : Int) := by omega
    have e2 : n / 9223372036854775808 % 18446744073709551616 = ((0 : Nat) : Int) := by omega
    rw [e1, e2, bits_xor_u64_nat _ _ (by omega) (by omega), Nat.xor_zero]
    unfold zig; rw [if_pos h0]; omega
  · have e1 : n % 18446744073709551616 * 2 % 18446744073709551616 = (((2 * n + 18446744073709551616).toNat : Nat) : Int) := by omega
    have e2 : n / 9223372036854775808 % 18446744073709551616 = ((18446744073709551615 : Nat) : Int) := by omega
    rw [e1, e2, bits_xor_u64_nat _ _ (by omega) (by omega), xor_ones _ (by omega)]
    unfold zig; rw [if_neg h0]; omega

theorem xor_ones_i64 (a : Nat) (h : a < 9223372036854775808) : bits BinOp.xor IntKind.i64 (a : Int) (-1) = -(a : Int) - 1 := by
  have e : (BitVec.ofInt 64 (a : Int) ^^^ BitVec.ofInt 64 (-1)).toNat = 18446744073709551615 - a := by
    rw [BitVec.toNat_xor]
    have e1 : (BitVec.ofInt 64 (a : Int)).toNat = a := by rw [BitVec.ofInt_natCast, BitVec.toNat_ofNat]; exact Nat.mod_eq_of_lt (by omega)
    have e2 : (BitVec.ofInt 64 (-1)).toNat = 18446744073709551615 := by decide
    rw [e1, e2]; exact xor_ones a (by omega)
  show IntKind.i64.wrap ((BitVec.ofInt 64 (a : Int) ^^^ BitVec.ofInt 64 (-1)).toNat : Int) = _
  rw [e, IntKind.wrap_i64]; omega
theorem xor_zero_i64 (a : Nat) (h : a < 9223372036854775808) : bits BinOp.xor IntKind.i64 (a : Int) 0 = (a : Int) := by
  have e : (BitVec.ofInt 64 (a : Int) ^^^ BitVec.ofInt 64 0).toNat = a := by
    rw [BitVec.toNat_xor]
    have e1 : (BitVec.ofInt 64 (a : Int)).toNat = a := by rw [BitVec.ofInt_natCast, BitVec.toNat_ofNat]; exact Nat.mod_eq_of_lt (by omega)
    have e2 : (BitVec.ofInt 64 0).toNat = 0 := by decide
    rw [e1, e2]; simp
  show IntKind.i64.wrap ((BitVec.ofInt 64 (a : Int) ^^^ BitVec.ofInt 64 0).toNat : Int) = _
  rw [e, IntKind.wrap_i64]; omega

theorem signed_bits (u : Nat) (h : u < 18446744073709551616) :
    bits BinOp.xor IntKind.i64 ((u : Int) / 2) (wrap64 (-wrap64 (bits BinOp.and IntKind.u64 (u : Int) 1))) = unzig u := by
  rw [and_one_u64 _ (by omega) (by omega)]
  have e : (u : Int) / 2 = ((u / 2 : Nat) : Int) := by omega
  rw [e, IntWalk.wrap64_in ((u : Int) % 2) (by omega), IntWalk.wrap64_in _ (by omega)]
  unfold unzig
  by_cases h2 : u % 2 = 0
  · rw [if_pos h2, show -((u : Int) % 2) = 0 by omega, xor_zero_i64 _ (by omega)]
  · rw [if_neg h2, show -((u : Int) % 2) = -1 by omega, xor_ones_i64 _ (by omega)]

theorem ret_val {a b : Value} (h : a = b) : Ending.returned a = .returned b := by rw [h]

theorem plain_any (n : Int) (h : isI64 n) (w : World) :
    Calls Tryd.prog 97 #[.int .i64 n] w fun e w' => e = .returned (.int .u64 (zig n : Nat)) ∧ w = w' := by
  have hb := plain_bits n h
  unfold isI64 at h
  obtain ⟨h1, h2⟩ := h
  have HB := Lib.hid hb; clear hb
  go_enter Tryd.func97, Tryd.ntmps97
  go_wp2
  go_ret
  exact ⟨by rw [← HB.out]; rfl, rfl⟩

theorem signed_any (u : Nat) (h : u < 18446744073709551616) (w : World) :
    Calls Tryd.prog 101 #[.int .u64 u] w fun e w' => e = .returned (.int .i64 (unzig u)) ∧ w = w' := by
  have hb := signed_bits u h
  have HB := Lib.hid hb; clear hb
  have h0 : (u : Int) ≤ 18446744073709551615 := by omega
  clear h
  go_enter Tryd.func101, Tryd.ntmps101
  go_wp2
  go_ret
  exact ⟨by rw [← HB.out]; rfl, rfl⟩

theorem or_step (t p k : Nat) (ht : t < 128 ^ k) (hp : p < 128) (hk : k < 9 ∨ (k = 9 ∧ p ≤ 1)) :
    bits BinOp.or IntKind.u64 (t : Int) (IntKind.u64.wrap ((p : Int) * 2 ^ (7 * k))) = ((t + p * 128 ^ k : Nat) : Int) ∧ t + p * 128 ^ k < 18446744073709551616 ∧ t + p * 128 ^ k < 128 ^ (k + 1) := by
  have e128 : (128 : Nat) ^ k = 2 ^ (7 * k) := by rw [Nat.pow_mul]
  have hlt : t + p * 128 ^ k < 128 ^ (k + 1) := by
    rw [Nat.pow_succ]
    have : (p + 1) * 128 ^ k ≤ 128 * 128 ^ k := Nat.mul_le_mul_right _ (by omega)
    rw [Nat.add_mul, Nat.one_mul] at this
    rw [Nat.mul_comm (128 ^ k) 128]; omega
  have h64 : t + p * 128 ^ k < 18446744073709551616 := by
    rcases hk with hk | ⟨rfl, hp1⟩
    · refine Nat.lt_of_lt_of_le hlt ?_
      have h9 : 128 ^ (k + 1) ≤ 128 ^ 9 := Nat.pow_le_pow_right (by omega) (by omega)
      exact Nat.le_trans h9 (by decide)
    · have e9 : (128 : Nat) ^ 9 = 9223372036854775808 := by decide
      rw [e9] at ht ⊢
      have : p * 9223372036854775808 ≤ 1 * 9223372036854775808 := Nat.mul_le_mul_right _ hp1
      omega
  refine ⟨?_, h64, hlt⟩
  have ec : (p : Int) * 2 ^ (7 * k) = ((p * 128 ^ k : Nat) : Int) := by rw [e128]; simp
  have ew : IntKind.u64.wrap ((p * 128 ^ k : Nat) : Int) = ((p * 128 ^ k : Nat) : Int) := by
    rw [IntKind.wrap_u64]; omega
  rw [ec, ew, bits_or_u64_nat _ _ (by omega) (by omega)]
  congr 1
  rw [e128] at ht ⊢
  have := Nat.shiftLeft_add_eq_or_of_lt ht p
  rw [Nat.shiftLeft_eq] at this
  rw [Nat.or_comm, ← this, Nat.add_comm]

theorem takeG_at {xs : List UInt8} {k t p : Nat} {x : UInt8} (hk : k < xs.length) (hx : x = xs[k]?.getD 0) (hp : p = x.toNat % 128) :
    takeG k t (xs.drop k) = if 10 ≤ k then none else if (k = 9 ∧ 1 < p) ∨ (x.toNat = 0 ∧ 0 < k) then none else if x.toNat < 128 then some (t + p * 128 ^ k, k + 1) else takeG (k + 1) (t + p * 128 ^ k) (xs.drop (k + 1)) := by
  rw [List.drop_eq_getElem_cons hk, takeG]
  have : xs[k] = x := by rw [hx]; simp [hk]
  rw [this, ← hp]
theorem takeG_end {xs : List UInt8} {k t : Nat} (hk : xs.length ≤ k ∨ 10 ≤ k) : takeG k t (xs.drop k) = none := by
  rcases hk with hk | hk
  · rw [List.drop_eq_nil_of_le hk]; rfl
  · cases hd : xs.drop k with
    | nil => rfl
    | cons y r => simp [takeG, hk]
theorem xs_andNot (x : UInt8) : bits BinOp.andNot IntKind.u8 (x.toNat : Int) 128 = ((x.toNat % 128 : Nat) : Int) := by
  have := u8_andNot_nat x.toNat 128 (by have := x.toNat_lt; omega) (by omega)
  rw [show ((128 : Nat) : Int) = 128 from rfl] at this
  rw [this, show 255 - 128 = 2 ^ 7 - 1 by decide, Nat.and_two_pow_sub_one_eq_mod]

theorem slice_from (a : Option Addr) (len cap : Nat) (k : Int) (h0 : 0 ≤ k) (h1 : k ≤ len) (w : World) :
    (Instr.slice 27 (.slice a len cap) (some (.int .i64 k)) none none).run Tryd.prog w = .ok (dropV (.slice a len cap) k.toNat) w := by
  have hs : (sizeOf (Tryd.prog.elem 27)).run Tryd.prog w = .ok 1 w := by kernel_rfl
  rw [run_slice_l (ht := by kernel_rfl) (h0 := h0) (h1 := h1), hs]
  simp [Result.andThen, sliced, dropV]
theorem slice_upto (a : Option Addr) (len cap : Nat) (k : Int) (h0 : 0 ≤ k) (h1 : k ≤ cap) (w : World) :
    (Instr.slice 27 (.slice a len cap) none (some (.int .i64 k)) none).run Tryd.prog w = .ok (takeV (.slice a len cap) k.toNat) w := by
  have hs : (sizeOf (Tryd.prog.elem 27)).run Tryd.prog w = .ok 1 w := by kernel_rfl
  rw [run_slice_h (ht := by kernel_rfl) (h0 := h0) (h2 := h1), hs]
  cases a <;> simp [Result.andThen, sliced, takeV, Addr.add]

/-- What TakeNum comes to. -/
def TakeNumPost (v : Value) (xs : List UInt8) (w : World) (e : Ending) (w' : World) : Prop :=
  match takeN xs with
  | some (n, k) => ∃ nq, e = .returned (.tuple #[.int .i64 n, dropV v k, .int .i64 0]) ∧ w' = w.drewN nq
  | none => e = .returned (.tuple #[.int .i64 0, .slice none 0 0, .int .i64 30]) ∧ w = w'

theorem takeG_none_of {xs : List UInt8} (h : takeG 0 0 xs = none) {v : Value} {w : World} :
    TakeNumPost v xs w (.returned (.tuple #[.int .i64 0, .slice none 0 0, .int .i64 30])) w := by
  unfold TakeNumPost takeN; rw [h]; exact ⟨rfl, rfl⟩
theorem takeG_some_of {xs : List UInt8} {t k : Nat} (h : takeG 0 0 xs = some (t, k)) {v : Value} {w : World} (nq : Nat) :
    TakeNumPost v xs w (.returned (.tuple #[.int .i64 (unzig t), dropV v k, .int .i64 0])) (w.drewN nq) := by
  unfold TakeNumPost takeN; rw [h]; exact ⟨nq, rfl, rfl⟩

set_option maxRecDepth 100000 in
set_option maxHeartbeats 1000000 in
theorem takeNum_any (v : Value) (xs : List UInt8) (w : World) (h : Bytes w v xs) :
    Calls Tryd.prog 80 #[v] w (TakeNumPost v xs w) := by
  rcases h.parts with ⟨a, rfl, rfl⟩ | ⟨b, off, cap, rfl, hl, hc, hb, hcell⟩
  · go_enter Tryd.func80, Tryd.ntmps80
    go_wp2
    go_loop [15] (fun i => i = .int .i64 0) (fun _ => 0)
    case atStart => exact rfl
    case round =>
      subst hrel
      go_wp2
      go_ret3
      exact takeG_none_of rfl
  · clear hb h
    unfold maxLen at hc
    obtain ⟨len, hlen⟩ : ∃ len, len = xs.length := ⟨_, rfl⟩
    rw [← hlen] at hl hcell ⊢
    have HL := Lib.hid hlen; clear hlen
    by_cases h10 : len ≤ 10
    · go_enter Tryd.func80, Tryd.ntmps80
      go_wp2
      go_loop [5, 15] (fun u i => ∃ k t : Nat, k ≤ len ∧ Hid (t < 128 ^ k) ∧ Hid (takeG 0 0 xs = takeG k t (xs.drop k)) ∧ i = .int .i64 k ∧ u = .int .u64 t) (fun _ i => len - (intOf i).toNat)
      case atStart => exact ⟨0, 0, by omega, by simp [Hid], by simp [Hid], rfl, rfl⟩
      case round =>
        obtain ⟨k, t, hk, HTT, HT, rfl, rfl⟩ := hrel
        by_cases hlt : k < len
        · have hck := hcell k (by omega)
          clear hcell
          obtain ⟨x, hx⟩ : ∃ x : UInt8, x = xs[k]?.getD 0 := ⟨_, rfl⟩
          rw [← hx] at hck
          unfold bv at hck
          have ha := xs_andNot x
          have hp : x.toNat % 128 < 128 := Nat.mod_lt _ (by omega)
          obtain ⟨p, hpe⟩ : ∃ p, p = x.toNat % 128 := ⟨_, rfl⟩
          rw [← hpe] at ha hp
          have hat := takeG_at (t := t) (p := p) (k := k) (by rw [← HL.out]; omega) hx hpe
          have hxl : (x.toNat : Int) ≤ 255 := by have := x.toNat_lt; omega
          have hpl : x.toNat < 128 → p = x.toNat := fun h => by omega
          rw [if_neg (by omega)] at hat
          clear hx hpe
          by_cases hbad : (k = 9 ∧ 1 < p) ∨ (x.toNat = 0 ∧ 0 < k)
          · rw [if_pos hbad] at hat
            have HF := Lib.hid (HT.out.trans hat); clear hat
            rcases hbad with ⟨h9, h1⟩ | ⟨h0, h1⟩
            · have h9' : ((k : Int) == 9) = true := by simp; omega
              have h1' : (1 : Int) < p := by omega
              clear h9 h1 hpl
              go_wp2
              all_goals (go_ret3; exact takeG_none_of HF.out)
            · have h1' : (0 : Int) < k := by omega
              have h0' : ((x.toNat : Int) == 0) = true := by simp; omega
              have hp0 : p = 0 := by have := hpl (by omega); omega
              clear hpl ha
              have ha := xs_andNot x
              rw [h0, Nat.zero_mod] at ha
              subst hp0
              clear h0 h1
              by_cases h9 : k = 9
              · have h2' : ((k : Int) == 9) = true := by simp; omega
                clear h9
                go_wp2
                all_goals (go_ret3; exact takeG_none_of HF.out)
              · have h2' : ((k : Int) == 9) = false := by simp; omega
                clear h9
                go_wp2
                all_goals (go_ret3; exact takeG_none_of HF.out)
          · rw [if_neg hbad] at hat
            obtain ⟨hor, h64, h128⟩ := or_step t p k HTT.out hp (by omega)
            obtain ⟨t', ht'⟩ : ∃ t', t' = t + p * 128 ^ k := ⟨_, rfl⟩
            rw [← ht'] at hor h64 h128 hat
            clear ht'
            have HS := Lib.hid h128; clear h128
            have H64 := Lib.hid h64; clear h64
            have hcases : ((((k : Int) == 9) = true) ∧ ¬ (1 : Int) < p ∧ ((x.toNat : Int) == 0) = false) ∨ ((((k : Int) == 9) = false) ∧ ((x.toNat : Int) == 0) = false) ∨
                ((((k : Int) == 9) = false) ∧ ((x.toNat : Int) == 0) = true ∧ ¬ (0 : Int) < k) := by
              by_cases h9 : k = 9
              · refine .inl ⟨by simp; omega, by omega, ?_⟩
                by_cases h0 : x.toNat = 0
                · omega
                · simp; omega
              · by_cases h0 : x.toNat = 0
                · exact .inr (.inr ⟨by simp; omega, by simp; omega, by omega⟩)
                · exact .inr (.inl ⟨by simp; omega, by simp; omega⟩)
            clear hbad hpl
            by_cases hx1 : x.toNat < 128
            · rw [if_pos hx1] at hat
              have HF := Lib.hid (HT.out.trans hat); clear hat
              have hx1' : (x.toNat : Int) < 128 := by omega
              clear hx1
              have e1 : IntKind.i64.wrap ((k : Int) + 1) = (k : Int) + 1 := IntWalk.i64_in _ (by omega)
              have e2 : ((k : Int) + 1).toNat = k + 1 := by omega
              have e3 : 0 ≤ (k : Int) + 1 := by omega
              have e4 : (k : Int) + 1 ≤ len := by omega
              have hsl := slice_from (some ⟨b, off, none⟩) len cap ((k : Int) + 1) e3 e4
              rw [e2] at hsl
              rcases hcases with ⟨q1, q2, q3⟩ | ⟨q1, q2⟩ | ⟨q1, q2, q3⟩
              all_goals
                go_wp2
                go_quiet ((go_at_call 101; exact quiet_same (signed_any _ H64.out _)))
                go_wp2
                go_ret3
                exact takeG_some_of HF.out _
            · rw [if_neg hx1] at hat
              have HF := Lib.hid (HT.out.trans hat); clear hat
              have hx1' : ¬ (x.toNat : Int) < 128 := by omega
              clear hx1
              rcases hcases with ⟨q1, q2, q3⟩ | ⟨q1, q2⟩ | ⟨q1, q2, q3⟩
              all_goals
                go_wp2
                go_round
                case rel => exact ⟨k + 1, t', by omega, HS, HF, by go_num, rfl⟩
                case measure => simp [intOf]; omega
        · obtain rfl : k = len := by omega
          clear hcell
          have HF := Lib.hid (HT.out.trans (takeG_end (by have := HL.out; omega)))
          go_wp2
          go_ret3
          exact takeG_none_of HF.out
    · go_enter Tryd.func80, Tryd.ntmps80
      go_wp2
      go_loop [5, 15] (fun u i => ∃ k t : Nat, k ≤ 10 ∧ Hid (t < 128 ^ k) ∧ Hid (takeG 0 0 xs = takeG k t (xs.drop k)) ∧ i = .int .i64 k ∧ u = .int .u64 t) (fun _ i => 10 - (intOf i).toNat)
      case atStart => exact ⟨0, 0, by omega, by simp [Hid], by simp [Hid], rfl, rfl⟩
      case round =>
        obtain ⟨k, t, hk, HTT, HT, rfl, rfl⟩ := hrel
        by_cases hlt : k < 10
        · have hck := hcell k (by omega)
          clear hcell
          obtain ⟨x, hx⟩ : ∃ x : UInt8, x = xs[k]?.getD 0 := ⟨_, rfl⟩
          rw [← hx] at hck
          unfold bv at hck
          have ha := xs_andNot x
          have hp : x.toNat % 128 < 128 := Nat.mod_lt _ (by omega)
          obtain ⟨p, hpe⟩ : ∃ p, p = x.toNat % 128 := ⟨_, rfl⟩
          rw [← hpe] at ha hp
          have hat := takeG_at (t := t) (p := p) (k := k) (by rw [← HL.out]; omega) hx hpe
          have hxl : (x.toNat : Int) ≤ 255 := by have := x.toNat_lt; omega
          have hpl : x.toNat < 128 → p = x.toNat := fun h => by omega
          rw [if_neg (by omega)] at hat
          clear hx hpe
          by_cases hbad : (k = 9 ∧ 1 < p) ∨ (x.toNat = 0 ∧ 0 < k)
          · rw [if_pos hbad] at hat
            have HF := Lib.hid (HT.out.trans hat); clear hat
            rcases hbad with ⟨h9, h1⟩ | ⟨h0, h1⟩
            · have h9' : ((k : Int) == 9) = true := by simp; omega
              have h1' : (1 : Int) < p := by omega
              clear h9 h1 hpl
              go_wp2
              all_goals (go_ret3; exact takeG_none_of HF.out)
            · have h1' : (0 : Int) < k := by omega
              have h0' : ((x.toNat : Int) == 0) = true := by simp; omega
              have hp0 : p = 0 := by have := hpl (by omega); omega
              clear hpl ha
              have ha := xs_andNot x
              rw [h0, Nat.zero_mod] at ha
              subst hp0
              clear h0 h1
              by_cases h9 : k = 9
              · have h2' : ((k : Int) == 9) = true := by simp; omega
                clear h9
                go_wp2
                all_goals (go_ret3; exact takeG_none_of HF.out)
              · have h2' : ((k : Int) == 9) = false := by simp; omega
                clear h9
                go_wp2
                all_goals (go_ret3; exact takeG_none_of HF.out)
          · rw [if_neg hbad] at hat
            obtain ⟨hor, h64, h128⟩ := or_step t p k HTT.out hp (by omega)
            obtain ⟨t', ht'⟩ : ∃ t', t' = t + p * 128 ^ k := ⟨_, rfl⟩
            rw [← ht'] at hor h64 h128 hat
            clear ht'
            have HS := Lib.hid h128; clear h128
            have H64 := Lib.hid h64; clear h64
            have hcases : ((((k : Int) == 9) = true) ∧ ¬ (1 : Int) < p ∧ ((x.toNat : Int) == 0) = false) ∨ ((((k : Int) == 9) = false) ∧ ((x.toNat : Int) == 0) = false) ∨
                ((((k : Int) == 9) = false) ∧ ((x.toNat : Int) == 0) = true ∧ ¬ (0 : Int) < k) := by
              by_cases h9 : k = 9
              · refine .inl ⟨by simp; omega, by omega, ?_⟩
                by_cases h0 : x.toNat = 0
                · omega
                · simp; omega
              · by_cases h0 : x.toNat = 0
                · exact .inr (.inr ⟨by simp; omega, by simp; omega, by omega⟩)
                · exact .inr (.inl ⟨by simp; omega, by simp; omega⟩)
            clear hbad hpl
            by_cases hx1 : x.toNat < 128
            · rw [if_pos hx1] at hat
              have HF := Lib.hid (HT.out.trans hat); clear hat
              have hx1' : (x.toNat : Int) < 128 := by omega
              clear hx1
              have e1 : IntKind.i64.wrap ((k : Int) + 1) = (k : Int) + 1 := IntWalk.i64_in _ (by omega)
              have e2 : ((k : Int) + 1).toNat = k + 1 := by omega
              have e3 : 0 ≤ (k : Int) + 1 := by omega
              have e4 : (k : Int) + 1 ≤ len := by omega
              have hsl := slice_from (some ⟨b, off, none⟩) len cap ((k : Int) + 1) e3 e4
              rw [e2] at hsl
              rcases hcases with ⟨q1, q2, q3⟩ | ⟨q1, q2⟩ | ⟨q1, q2, q3⟩
              all_goals
                go_wp2
                go_quiet ((go_at_call 101; exact quiet_same (signed_any _ H64.out _)))
                go_wp2
                go_ret3
                exact takeG_some_of HF.out _
            · rw [if_neg hx1] at hat
              have HF := Lib.hid (HT.out.trans hat); clear hat
              have hx1' : ¬ (x.toNat : Int) < 128 := by omega
              clear hx1
              rcases hcases with ⟨q1, q2, q3⟩ | ⟨q1, q2⟩ | ⟨q1, q2, q3⟩
              all_goals
                go_wp2
                go_round
                case rel => exact ⟨k + 1, t', by omega, HS, HF, by go_num, rfl⟩
                case measure => simp [intOf]; omega
        · obtain rfl : k = 10 := by omega
          clear hcell
          have HF := Lib.hid (HT.out.trans (takeG_end (by have := HL.out; omega)))
          go_wp2
          go_ret3
          exact takeG_none_of HF.out
end Go.Proofs.YtdienbcjfljjnaaDoor
