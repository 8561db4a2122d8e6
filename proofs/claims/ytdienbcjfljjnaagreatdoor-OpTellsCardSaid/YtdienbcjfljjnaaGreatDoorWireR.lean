/- The contracts of the reference of layer 7. -/
import Derived.Test.YtdienbcjfljjnaaGreatDoorWireC
import Derived.LoopTactic
open Go.RowKit Go.Shelf
namespace Go.Proofs.YtdienbcjfljjnaaGreatDoor
open Go Go.Proofs Fm

theorem rplain_any (n : Int) (h : isI64 n) (w : World) :
    Calls Tryz.prog 108 #[.int .i64 n] w fun e w' => e = .returned (.int .u64 (zig n : Nat)) ∧ w = w' := by
  unfold isI64 at h
  obtain ⟨h1, h2⟩ := h
  by_cases h0 : 0 ≤ n
  · go_enter Tryz.func108, Tryz.ntmps108
    go_wp2
    go_ret
    have hz : ((zig n : Nat) : Int) = 2 * n := by unfold zig; rw [if_pos h0]; omega
    exact ⟨by rw [hz]; rfl, rfl⟩
  · go_enter Tryz.func108, Tryz.ntmps108
    go_wp2
    go_ret
    have hz : ((zig n : Nat) : Int) = 2 * -(n + 1) + 1 := by unfold zig; rw [if_neg (by omega)]; omega
    exact ⟨by rw [hz]; rfl, rfl⟩

set_option maxHeartbeats 1000000 in
theorem rnum_any (m : Int) (h : isI64 m) (w : World) :
    Calls Tryz.prog 69 #[.int .i64 m] w (RetBytes w (numB m)) := by
  go_enter Tryz.func69, Tryz.ntmps69
  go_wp2_with (go_at_call 108; refine (rplain_any m h _).mono ?_; rintro e w' ⟨rfl, rfl⟩)
  go_loopw [3, 4] (fun u s wr => ∃ (pre : List UInt8) (v : Nat), u = .int .u64 v ∧ Hid (numB m = pre ++ grpN (10 - pre.length) v) ∧ Hid (v * 128 ^ pre.length < 18446744073709551616 ∧ (pre.length = 0 ∨ 0 < v)) ∧ Hid (wr.ownsRow w.heap.size 5 1 s pre.length (pre.map bv)) ∧ Ext w wr)
    (fun u _ _ => (intOf u).toNat)
  case atStart =>
    exact ⟨[], zig m, rfl, rfl, ⟨by simpa using zig_lt h, .inl rfl⟩, World.ownsRow_nil _ _ _ _, Ext.refl w⟩
  case round =>
    obtain ⟨pre, v, rfl, HN, HV, HO, hE⟩ := hrel
    have hv64 : v < 18446744073709551616 := by
      have h1 := HV.out.1
      have h2 : v * 1 ≤ v * 128 ^ pre.length := Nat.mul_le_mul_left _ (Nat.pow_pos (by omega))
      omega
    have hpl : pre.length < 10 := by
      rcases HV.out.2 with h0 | h0
      · omega
      · have := le9 h0 HV.out.1; omega
    have hsz := hE.size
    by_cases hv : v < 128
    · have hg := grp_last hpl hv
      have HG := Lib.hid (HN.out.trans (by rw [hg])); clear hg
      have hv' : ¬ (128 : Int) ≤ v := by omega
      go_wp2_with (at_builtin; refine wpList_app _ elem_u8 rfl _ _ 27 rfl w.heap.size _ _ _ rfl (HO.out.alloc _) _ 1 [.int .u8 v] rfl (Src.ofSlice _ Tryz.underlying27 _ _ _ _ rfl (cell_one_new _ _ _) (by simp [Value.oneCell'])) ?c1 ?c2 ?c3 ?_)
      case c1 => unfold maxLen; omega
      case c2 => omega
      case c3 => first | omega | (simp; omega)
      intro v' w1 hown hgrow _
      have hE2 := (hE.alloc _).grown hgrow (own_lt HO.out)
      clear hgrow
      go_wp2
      go_ret
      refine ⟨v', rfl, ?_, hE2⟩
      rw [HG.out]
      have e : bv (UInt8.ofNat v) = .int .u8 v := by unfold bv; rw [toNat_ofNat_lt (by omega)]
      simpa [e] using hown
    · have hg := grp_cons hpl hv
      have hv' : (128 : Int) ≤ v := by omega
      have hst := step_eq 0 v pre.length
      have HG := Lib.hid (HN.out.trans (by rw [hg])); clear hg
      have HST := Lib.hid hst; clear hst
      have hvp : (v : Int) ≤ 18446744073709551615 := by omega
      have H64 := Lib.hid hv64; clear hv64
      go_wp2_with (at_builtin; refine wpList_app _ elem_u8 rfl _ _ 27 rfl w.heap.size _ _ _ rfl (HO.out.alloc _) _ 1 [.int .u8 (v % 128 + 128)] rfl (Src.ofSlice _ Tryz.underlying27 _ _ _ _ rfl (cell_one_new _ _ _) (by simp [Value.oneCell'])) ?c1 ?c2 ?c3 ?_)
      case c1 => unfold maxLen; omega
      case c2 => omega
      case c3 => first | omega | (simp; omega)
      intro v' w1 hown hgrow _
      have hE2 := (hE.alloc _).grown hgrow (own_lt HO.out)
      clear hgrow
      go_wp2
      go_roundw
      case rel =>
        refine ⟨pre ++ [UInt8.ofNat (v % 128 + 128)], v / 128, by go_num, by have := HG.out; simpa [Hid] using this, ⟨?_, ?_⟩, ?_, hE2⟩
        · have h1 := HV.out; have h2 := HST.out
          rw [List.length_append, List.length_cons, List.length_nil, Nat.zero_add]; omega
        · right; omega
        · have e : bv (UInt8.ofNat (v % 128 + 128)) = .int .u8 (v % 128 + 128) := by unfold bv; rw [toNat_ofNat_lt (by omega)]; congr 1
          rw [List.map_append, List.map_cons, List.map_nil, e]
          simpa [Hid] using hown
      case measure => simp [intOf]; omega

set_option maxHeartbeats 1000000 in
theorem rtext_any (s : List UInt8) (hs : s.length ≤ 1099511627776) (w : World) :
    Calls Tryz.prog 44 #[.string (str s)] w (RetBytes w (textB s)) := by
  have hm : isI64 (s.length : Int) := by unfold isI64; omega
  have hl := str_size s
  have hn := numB_le (s.length : Int)
  go_enter Tryz.func44, Tryz.ntmps44
  go_wp2_with fail
  refine (rnum_any _ hm w).mono ?_
  rintro e w1 ⟨v1, rfl, hr1, hE1⟩
  have HR1 := Lib.hid hr1; clear hr1
  go_wp2
  go_loopw [3, 4] (fun o i wr => ∃ k : Nat, k ≤ s.length ∧ i = .int .i64 k ∧ Hid (wr.ownsRow w.heap.size 5 1 o ((numB s.length).length + k) ((numB s.length).map bv ++ (s.take k).map bv)) ∧ Ext w wr) (fun _ i _ => s.length - (intOf i).toNat)
  case atStart => exact ⟨0, by omega, rfl, by simpa [Hid] using HR1.out, hE1⟩
  case round =>
    obtain ⟨k, hk, rfl, HO, hE⟩ := hrel
    have hsz := hE.size
    by_cases hlt : k < s.length
    · obtain ⟨x, hx⟩ : ∃ x, x = s[k]?.getD 0 := ⟨_, rfl⟩
      have hix := run_index_str (P := Tryz.prog) Tryz.underlying9 s k hlt
      rw [← hx] at hix
      have HX := Lib.hid hx; clear hx
      go_wp2_with (at_builtin; refine wpList_app _ elem_u8 rfl _ _ 27 rfl w.heap.size _ _ _ rfl (HO.out.alloc _) _ 1 [.int .u8 x.toNat] rfl (Src.ofSlice _ Tryz.underlying27 _ _ _ _ rfl (cell_one_new _ _ _) (by simp [Value.oneCell'])) ?c1 ?c2 ?c3 ?_)
      case c1 => unfold maxLen; omega
      case c2 => omega
      case c3 => first | omega | (simp; omega)
      intro v' w2 hown hgrow _
      have hE2 := (hE.alloc _).grown hgrow (own_lt HO.out)
      clear hgrow hix
      go_wp2
      go_roundw
      case rel =>
        refine ⟨k + 1, by omega, by go_num, ?_, hE2⟩
        have e : s.take (k + 1) = s.take k ++ [x] := by rw [List.take_succ_eq_append_getElem hlt, HX.out]; simp [hlt]
        rw [e, List.map_append, ← List.append_assoc, ← Nat.add_assoc]
        simpa [Hid, List.map_take, bv] using hown
      case measure => simp [intOf]; omega
    · obtain rfl : k = s.length := by omega
      go_wp2
      go_ret
      exact ⟨_, rfl, by have := HO.out; rw [List.take_length] at this; simpa [textB] using this, hE⟩

def RTakeNumPost (xs : List UInt8) (w : World) (e : Ending) (w' : World) : Prop :=
  (match takeN xs with
  | some (n, k) => e = .returned (.tuple #[.int .i64 n, .int .i64 (k : Nat)])
  | none => e = .returned (.tuple #[.int .i64 0, .int .i64 0])) ∧ w = w'
theorem rtake_none_of {xs : List UInt8} (h : takeG 0 0 xs = none) {w : World} : RTakeNumPost xs w (.returned (.tuple #[.int .i64 0, .int .i64 0])) w := by
  unfold RTakeNumPost takeN; rw [h]; exact ⟨rfl, rfl⟩
theorem rtake_some_of {xs : List UInt8} {t k : Nat} (h : takeG 0 0 xs = some (t, k)) {w : World} : RTakeNumPost xs w (.returned (.tuple #[.int .i64 (unzig t), .int .i64 (k : Nat)])) w := by
  unfold RTakeNumPost takeN; rw [h]; exact ⟨rfl, rfl⟩

set_option maxRecDepth 100000 in
set_option maxHeartbeats 2000000 in
theorem rtakeNum_any (v : Value) (xs : List UInt8) (w : World) (h : Bytes w v xs) :
    Calls Tryz.prog 93 #[v] w (RTakeNumPost xs w) := by
  rcases h.parts with ⟨a, rfl, rfl⟩ | ⟨b, off, cap, rfl, hl, hc, hb, hcell⟩
  · go_enter Tryz.func93, Tryz.ntmps93
    go_wp2
    go_loop [6] (fun i => i = .int .i64 0) (fun _ => 0)
    case atStart => exact rfl
    case round =>
      subst hrel
      go_wp2
      go_ret2
      exact rtake_none_of rfl
  · clear hb h
    unfold maxLen at hc
    obtain ⟨len, hlen⟩ : ∃ len, len = xs.length := ⟨_, rfl⟩
    rw [← hlen] at hl hcell ⊢
    have HL := Lib.hid hlen; clear hlen
    go_enter Tryz.func93, Tryz.ntmps93
    go_wp2
    go_loop [4, 5, 6] (fun u wo i => ∃ (k t : Nat) (wv : Int), k ≤ len ∧ k ≤ 10 ∧ Hid (k ≤ 9 → wv = ((128 ^ k : Nat) : Int)) ∧ Hid (t < 128 ^ k) ∧ Hid (takeG 0 0 xs = takeG k t (xs.drop k)) ∧ i = .int .i64 k ∧ u = .int .u64 t ∧ wo = .int .u64 wv) (fun _ _ i => 10 - (intOf i).toNat)
    case atStart => exact ⟨0, 0, 1, by omega, by omega, by simp [Hid], by simp [Hid], by simp [Hid], rfl, rfl, rfl⟩
    case round =>
      obtain ⟨k, t, wv, hk, hk10, HW, HTT, HT, rfl, rfl, rfl⟩ := hrel
      by_cases hlt : k < len ∧ k < 10
      · obtain ⟨hlt, hl10⟩ := hlt
        have hck := hcell k hlt
        clear hcell
        obtain ⟨x, hx⟩ : ∃ x : UInt8, x = xs[k]?.getD 0 := ⟨_, rfl⟩
        rw [← hx] at hck
        unfold bv at hck
        have hxl : (x.toNat : Int) ≤ 255 := by have := x.toNat_lt; omega
        have hp : x.toNat % 128 < 128 := Nat.mod_lt _ (by omega)
        have hpe' : (x.toNat : Int) % 128 = ((x.toNat % 128 : Nat) : Int) := by omega
        obtain ⟨p, hpe⟩ : ∃ p, p = x.toNat % 128 := ⟨_, rfl⟩
        rw [← hpe] at hpe' hp
        have hat := takeG_at (t := t) (p := p) (k := k) (by rw [← HL.out]; omega) hx hpe
        have hpl : x.toNat < 128 → p = x.toNat := fun h => by omega
        rw [if_neg (by omega)] at hat
        clear hx hpe
        by_cases h9 : k = 9 ∧ 1 < p
        · have HF := Lib.hid (HT.out.trans (by rw [hat, if_pos (.inl h9)])); clear hat hpl
          have h9' : ((k : Int) == 9) = true := by simp; omega
          have h1' : (1 : Int) < p := by omega
          clear h9
          go_wp2
          all_goals (go_ret2; exact rtake_none_of HF.out)
        · obtain ⟨-, h64, h128⟩ := or_step t p k HTT.out hp (by omega)
          have hpw : (p : Int) * wv = ((p * 128 ^ k : Nat) : Int) := by rw [HW.out (by omega)]; simp
          obtain ⟨t', ht'⟩ : ∃ t', t' = t + p * 128 ^ k := ⟨_, rfl⟩
          rw [← ht'] at h64 h128 hat
          have hs1 : (t : Int) + (p : Int) * wv = (t' : Int) := by rw [hpw, ht']; simp
          have hs2 : 0 ≤ (p : Int) * wv := by rw [hpw]; omega
          have hs3 : (p : Int) * wv ≤ 18446744073709551615 := by rw [hpw]; omega
          have hs4 : (t : Int) + (p : Int) * wv ≤ 18446744073709551615 := by rw [hs1]; omega
          have hw9 : ∀ q, q = IntKind.u64.wrap (wv * 128) → k + 1 ≤ 9 → q = ((128 ^ (k + 1) : Nat) : Int) := by
            intro q hq hk9
            rw [HW.out (by omega)] at hq
            have h9 : 128 ^ (k + 1) ≤ 128 ^ 9 := Nat.pow_le_pow_right (by omega) hk9
            have e9 : (128 : Nat) ^ 9 = 9223372036854775808 := by decide
            have e10 : ((128 ^ k : Nat) : Int) * 128 = ((128 ^ (k + 1) : Nat) : Int) := by rw [Nat.pow_succ]; simp
            rw [hq, e10, IntKind.wrap_u64]
            rw [e9] at h9
            generalize 128 ^ (k + 1) = g at *
            omega
          have HW9 := Lib.hid hw9; clear hw9
          have HS := Lib.hid h128; clear h128
          have hcases : ((((k : Int) == 9) = true) ∧ ¬ (1 : Int) < p) ∨ (((k : Int) == 9) = false) := by
            by_cases h : k = 9
            · exact .inl ⟨by simp; omega, by omega⟩
            · exact .inr (by simp; omega)
          clear hpw ht' h64
          by_cases hx1 : x.toNat < 128
          · have hx1' : ¬ (128 : Int) ≤ x.toNat := by omega
            have hpx := hpl hx1
            by_cases hp0 : p = 0 ∧ 0 < k
            · have HF := Lib.hid (HT.out.trans (by rw [hat, if_pos (.inr ⟨by omega, hp0.2⟩)])); clear hat hpl hpx hx1 hs1
              have hp0' : ((p : Int) == 0) = true := by simp; omega
              have hk0 : (0 : Int) < k := by omega
              clear hp0 h9
              rcases hcases with ⟨q1, q2⟩ | q1
              all_goals
                go_wp2
                go_ret2
                exact rtake_none_of HF.out
            · have HF := Lib.hid (HT.out.trans (by rw [hat, if_neg (by omega), if_pos hx1])); clear hat hpl hpx hx1
              have hcases2 : ((((p : Int) == 0) = true) ∧ ¬ (0 : Int) < k) ∨ (((p : Int) == 0) = false) := by
                by_cases h : p = 0
                · exact .inl ⟨by simp; omega, by omega⟩
                · exact .inr (by simp; omega)
              have hr : Hid (k < 10) := hl10
              obtain ⟨s, hs⟩ : ∃ s, s = (t : Int) + (p : Int) * wv := ⟨_, rfl⟩
              rw [← hs] at hs1 hs4
              have hs0 : 0 ≤ s := by omega
              have hu1 : t' % 2 = 0 → s / 2 = unzig t' := by intro h; unfold unzig; rw [if_pos h]; omega
              have hu2 : t' % 2 ≠ 0 → -(s / 2) - 1 = unzig t' := by intro h; unfold unzig; rw [if_neg h]; omega
              have hse : s = (t : Int) + (p : Int) * wv := hs
              have HU1 := Lib.hid hu1; clear hu1
              have HU2 := Lib.hid hu2; clear hu2
              have hsw : (t : Int) + (p : Int) * wv = s := hs.symm
              clear hs hse hp0 h9
              by_cases hpar : t' % 2 = 0
              · have hm2 : (s % 2 == 0) = true := by simp; omega
                have HU := Lib.hid (HU1.out hpar)
                clear hs1 hpar
                rcases hcases with ⟨q1, q2⟩ | q1
                all_goals rcases hcases2 with ⟨q3, q4⟩ | q3
                all_goals
                  go_wp2
                  go_ret2
                  have hF := rtake_some_of (w := w) HF.out
                  rw [← HU.out, show ((k + 1 : Nat) : Int) = (k : Int) + 1 from rfl] at hF
                  exact hF
              · have hm2 : (s % 2 == 0) = false := by simp; omega
                have HU := Lib.hid (HU2.out hpar)
                clear hs1 hpar
                rcases hcases with ⟨q1, q2⟩ | q1
                all_goals rcases hcases2 with ⟨q3, q4⟩ | q3
                all_goals
                  go_wp2
                  go_ret2
                  have hF := rtake_some_of (w := w) HF.out
                  rw [← HU.out, show ((k + 1 : Nat) : Int) = (k : Int) + 1 from rfl] at hF
                  exact hF
          · have hx1' : (128 : Int) ≤ x.toNat := by omega
            have HF := Lib.hid (HT.out.trans (by rw [hat, if_neg (by omega), if_neg hx1])); clear hat hpl hx1 h9
            have HS1 := Lib.hid hs1; clear hs1
            rcases hcases with ⟨q1, q2⟩ | q1
            all_goals
              go_wp2
              go_round
              case rel => exact ⟨k + 1, t', _, by omega, by omega, fun h => HW9.out _ rfl h, HS, HF, by go_num, by rw [HS1.out], rfl⟩
              case measure => simp [intOf]; omega
      · clear hcell
        have HF := Lib.hid (HT.out.trans (takeG_end (by have := HL.out; omega)))
        by_cases hlt2 : k < len
        · have h10' : ¬ (k : Int) < 10 := by omega
          clear hlt
          go_wp2
          go_ret2
          exact rtake_none_of HF.out
        · clear hlt
          go_wp2
          go_ret2
          exact rtake_none_of HF.out

theorem str_add {P : Program} (a b : List UInt8) (h : a.length + b.length ≤ 9223372036854775807) (w : World) : (Op.stringOp .add (str a) (str b)).run P w = .ok (.string (str (a ++ b))) w := by
  have h' : ¬ (str a).size + (str b).size > 9223372036854775807 := by rw [str_size, str_size]; omega
  rw [run_string_add_if, if_neg h']
  unfold str; rw [ByteArray.mk_append_mk]

theorem slice_lh (a : Option Addr) (len cap : Nat) (l h : Int) (h0 : 0 ≤ l) (h1 : l ≤ h) (h2 : h ≤ cap) (w : World) :
    (Instr.slice 27 (.slice a len cap) (some (.int .i64 l)) (some (.int .i64 h)) none).run Tryz.prog w = .ok (takeV (dropV (.slice a len cap) l.toNat) (h.toNat - l.toNat)) w := by
  have hs : (sizeOf (Tryz.prog.elem 27)).run Tryz.prog w = .ok 1 w := by kernel_rfl
  rw [run_slice_lh (ht := by kernel_rfl) (h0 := h0) (h1 := h1) (h2 := h2), hs]
  simp [Result.andThen, sliced, dropV, takeV]

def RTakeTextPost (xs : List UInt8) (top : Int) (w : World) (e : Ending) (w' : World) : Prop :=
  (match takeT xs top with
  | some (k, n) => e = .returned (.tuple #[.string (str ((xs.drop k).take n)), .int .i64 ((k + n : Nat) : Int), .bool true])
  | none => e = .returned (.tuple #[.string (str []), .int .i64 0, .bool false])) ∧ w = w'
theorem rtext_none_of {xs : List UInt8} {top : Int} (h : takeT xs top = none) {w : World} : RTakeTextPost xs top w (.returned (.tuple #[.string (str []), .int .i64 0, .bool false])) w := by
  unfold RTakeTextPost; rw [h]; exact ⟨rfl, rfl⟩
theorem rtext_some_of {xs : List UInt8} {top : Int} {k n : Nat} (h : takeT xs top = some (k, n)) {w : World} :
    RTakeTextPost xs top w (.returned (.tuple #[.string (str ((xs.drop k).take n)), .int .i64 ((k + n : Nat) : Int), .bool true])) w := by
  unfold RTakeTextPost; rw [h]; exact ⟨rfl, rfl⟩

set_option maxHeartbeats 400000 in
theorem rtakeText_any (v : Value) (xs : List UInt8) (top : Int) (ht : isI64 top) (w : World) (h : Bytes w v xs) :
    Calls Tryz.prog 94 #[v, .int .i64 top] w (RTakeTextPost xs top w) := by
  obtain ⟨ht1, ht2⟩ := ht
  obtain ⟨a2, c2, hv, hc1, hc2, _, _⟩ := id h
  unfold maxLen at hc2
  obtain ⟨m, hm⟩ : ∃ m, m = xs.length := ⟨_, rfl⟩
  have HB := Lib.hid h; clear h
  rw [← hm] at hv hc1
  have hlv : ∀ w', (Builtin.len_ #[27] 3 #[v]).run Tryz.prog w' = .ok (.int .i64 (m : Nat)) w' := by subst hv; intro w'; kernel_rfl
  have HV := Lib.hid hv; clear hv
  have HM := Lib.hid hm; clear hm
  go_enter Tryz.func94, Tryz.ntmps94
  go_wp2_with fail
  refine (rtakeNum_any v xs w HB.out).mono ?_
  rintro e w1 ⟨hp, rfl⟩
  cases hn : takeN xs with
  | none =>
    rw [hn] at hp
    subst hp
    have HF := Lib.hid (takeT_none hn top); clear hn
    go_wp2
    go_ret3
    exact rtext_none_of HF.out
  | some p =>
    obtain ⟨n, k⟩ := p
    rw [hn] at hp
    simp only at hp
    subst hp
    obtain ⟨hn64, hk0, hk10, hkl, _, _⟩ := takeN_inv hn
    obtain ⟨hn1, hn2⟩ := hn64
    rw [← HM.out] at hkl
    have hk0' : ((k : Int) == 0) = false := by simp; omega
    by_cases hbad : n < 0 ∨ top < n ∨ ((xs.length - k : Nat) : Int) < n
    · have HF := Lib.hid (takeT_bad hn hbad); clear hn
      rw [← HM.out] at hbad
      by_cases b1 : n < 0
      · clear hbad
        go_wp2
        go_ret3
        exact rtext_none_of HF.out
      · by_cases b2 : top < n
        · clear hbad
          go_wp2
          go_ret3
          exact rtext_none_of HF.out
        · have b3 : (m : Int) - k < n := by omega
          clear hbad
          go_wp2
          go_ret3
          exact rtext_none_of HF.out
    · have HF := Lib.hid (takeT_some hn hbad); clear hn
      rw [← HM.out] at hbad
      have b1 : ¬ n < 0 := by omega
      have b2 : ¬ top < n := by omega
      have b3 : ¬ (m : Int) - k < n := by omega
      clear hbad
      go_wp2
      go_loop [9, 10] (fun s i => ∃ j : Nat, (j : Int) ≤ n ∧ i = .int .i64 ((k : Int) + j) ∧ s = .string (str ((xs.drop k).take j))) (fun _ i => (k + n - intOf i).toNat)
      case atStart => exact ⟨0, by omega, by simp, by simp [str]⟩
      case round =>
        obtain ⟨j, hj, rfl, rfl⟩ := hrel
        by_cases hlt : (j : Int) < n
        · have hs1 := slice_lh a2 m c2 ((k : Int) + j) ((k : Int) + j + 1) (by omega) (by omega) (by omega)
          rw [← HV.out, show ((k : Int) + j).toNat = k + j by omega, show ((k : Int) + j + 1).toNat - (k + j) = 1 by omega] at hs1
          have hbt := (HB.out.drop (k := k + j) (by rw [← HM.out]; omega)).take (k := 1) (by simp; have := HM.out; omega)
          have hcv := conv_bytes (P := Tryz.prog) (src := 27) (dst := 9) (e := 5) Tryz.underlying27 Tryz.underlying5 Tryz.underlying9 hbt
          obtain ⟨x, hx⟩ : ∃ x, x = ((xs.drop (k + j)).take 1) := ⟨_, rfl⟩
          rw [← hx] at hcv
          obtain ⟨pre, hpre⟩ : ∃ pre, pre = (xs.drop k).take j := ⟨_, rfl⟩
          rw [← hpre]
          have hxl : x.length ≤ 1 := by rw [hx]; simp; omega
          have hpl : pre.length ≤ j := by rw [hpre]; simp; omega
          have hadd := str_add (P := Tryz.prog) pre x (by omega)
          have HREL : Hid ((xs.drop k).take (j + 1) = pre ++ x) := by
            show _ = _
            rw [hpre, hx, List.take_add, List.drop_drop]
          clear hx hpre hbt hxl hpl
          go_wp2
          go_round
          case rel => exact ⟨j + 1, by omega, by go_num, by rw [HREL.out]⟩
          case measure => simp [intOf]; omega
        · have hge : n ≤ (j : Int) := by omega
          have hF := rtext_some_of (w := w) HF.out
          rw [show n.toNat = j by omega, show ((k + j : Nat) : Int) = (k : Int) + n by omega] at hF
          have HF2 := Lib.hid hF; clear hF
          clear hlt
          go_wp2
          go_ret3
          exact HF2.out
end Go.Proofs.YtdienbcjfljjnaaGreatDoor
