/- Plain facts on numbers of 64 bits as groups of seven bits. No program is imported. -/
namespace Fm
/-- twice n, or twice -n less 1 -/
def zig (n : Int) : Nat := if 0 ≤ n then (2 * n).toNat else (-2 * n - 1).toNat
def unzig (u : Nat) : Int := if u % 2 = 0 then ((u / 2 : Nat) : Int) else -((u / 2 : Nat) : Int) - 1
def isI64 (n : Int) : Prop := -9223372036854775808 ≤ n ∧ n ≤ 9223372036854775807
theorem zig_lt {n : Int} (h : isI64 n) : zig n < 18446744073709551616 := by
  unfold zig isI64 at *; split <;> omega
theorem unzig_zig (n : Int) : unzig (zig n) = n := by
  unfold zig unzig; split <;> split <;> omega
theorem zig_unzig (u : Nat) : zig (unzig u) = u := by
  unfold zig unzig; split <;> split <;> omega
theorem unzig_i64 {u : Nat} (h : u < 18446744073709551616) : isI64 (unzig u) := by
  unfold unzig isI64; split <;> omega

def grpN : Nat → Nat → List UInt8
  | 0, _ => []
  | k + 1, u => if u < 128 then [UInt8.ofNat u] else UInt8.ofNat (u % 128 + 128) :: grpN k (u / 128)
def grp (u : Nat) : List UInt8 := grpN 10 u
def numB (n : Int) : List UInt8 := grp (zig n)
def textB (s : List UInt8) : List UInt8 := numB s.length ++ s

def takeG : Nat → Nat → List UInt8 → Option (Nat × Nat)
  | _, _, [] => none
  | i, u, x :: r =>
    if 10 ≤ i then none
    else if (i = 9 ∧ 1 < x.toNat % 128) ∨ (x.toNat = 0 ∧ 0 < i) then none
    else if x.toNat < 128 then some (u + x.toNat % 128 * 128 ^ i, i + 1)
    else takeG (i + 1) (u + x.toNat % 128 * 128 ^ i) r
def takeN (xs : List UInt8) : Option (Int × Nat) := (takeG 0 0 xs).map fun p => (unzig p.1, p.2)

theorem toNat_ofNat_lt {n : Nat} (h : n < 256) : (UInt8.ofNat n).toNat = n := by
  simp; omega

theorem pow_succ_128 (i : Nat) : 128 ^ (i + 1) = 128 ^ i * 128 := Nat.pow_succ ..

theorem le9 {i v : Nat} (hv : 0 < v) (h : v * 128 ^ i < 18446744073709551616) : i ≤ 9 := by
  by_cases hi : i ≤ 9
  · exact hi
  · exfalso
    have h1 : 128 ^ 10 ≤ 128 ^ i := Nat.pow_le_pow_right (by omega) (by omega)
    have h2 : 128 ^ i ≤ v * 128 ^ i := Nat.le_mul_of_pos_left _ hv
    have h3 : (128 : Nat) ^ 10 = 1180591620717411303424 := by decide
    omega

theorem step_eq (u v i : Nat) : u + v % 128 * 128 ^ i + v / 128 * 128 ^ (i + 1) = u + v * 128 ^ i := by
  have h := Nat.div_add_mod v 128
  rw [pow_succ_128, Nat.add_assoc, ← Nat.mul_assoc, Nat.mul_right_comm, ← Nat.add_mul]
  congr 2; omega

theorem takeG_grp (k : Nat) : ∀ (i u v : Nat) (r : List UInt8), i + k = 10 → v * 128 ^ i < 18446744073709551616 → (i = 0 ∨ 0 < v) →
    takeG i u (grpN k v ++ r) = some (u + v * 128 ^ i, i + (grpN k v).length) := by
  induction k with
  | zero =>
    intro i u v r hi hv h0
    have := le9 (i := i) (v := v) (by omega) hv
    omega
  | succ k ih =>
    intro i u v r hi hv h0
    unfold grpN
    by_cases h : v < 128
    · rw [if_pos h]
      simp only [List.cons_append, List.nil_append, takeG]
      rw [toNat_ofNat_lt (by omega), if_neg (by omega), if_neg ?_, if_pos h, Nat.mod_eq_of_lt h]
      · simp
      · rintro (⟨rfl, h1⟩ | ⟨h1, h2⟩)
        · rw [Nat.mod_eq_of_lt h] at h1
          have : (128 : Nat) ^ 9 = 9223372036854775808 := by decide
          rw [this] at hv; omega
        · omega
    · rw [if_neg h]
      simp only [List.cons_append, takeG]
      have hi8 : i + 1 ≤ 9 := by
        refine le9 (v := v / 128) (by omega) ?_
        have := step_eq 0 v i
        omega
      have hx : (UInt8.ofNat (v % 128 + 128)).toNat = v % 128 + 128 := toNat_ofNat_lt (by omega)
      rw [hx, if_neg (by omega), if_neg (by omega), if_neg (by omega)]
      have e : (v % 128 + 128) % 128 = v % 128 := by omega
      rw [e, ih (i + 1) _ (v / 128) r (by omega) (by have := step_eq 0 v i; omega) (by omega), step_eq]
      simp; omega

theorem takeG_inv : ∀ (xs : List UInt8) (i u t k : Nat), takeG i u xs = some (t, k) →
    ∃ v, t = u + v * 128 ^ i ∧ (i = 0 ∨ 0 < v) ∧ v * 128 ^ i < 18446744073709551616 ∧ i < k ∧ k ≤ 10 ∧ k - i ≤ xs.length ∧ xs.take (k - i) = grpN (10 - i) v := by
  intro xs
  induction xs with
  | nil => intro i u t k h; simp [takeG] at h
  | cons x r ih =>
    intro i u t k h
    simp only [takeG] at h
    split at h
    · cases h
    · rename_i h10
      split at h
      · cases h
      · rename_i hbad
        have hpow9 : (128 : Nat) ^ 9 = 9223372036854775808 := by decide
        have hk : 10 - i = (10 - (i + 1)) + 1 := by omega
        split at h
        · rename_i hx
          simp only [Option.some.injEq, Prod.mk.injEq] at h
          obtain ⟨rfl, rfl⟩ := h
          have hm : x.toNat % 128 = x.toNat := Nat.mod_eq_of_lt hx
          refine ⟨x.toNat, by rw [hm], by omega, ?_, by omega, by omega, by simp, ?_⟩
          · by_cases h9 : i = 9
            · subst h9; rw [hpow9]; omega
            · have h1 : 128 ^ i ≤ 128 ^ 8 := Nat.pow_le_pow_right (by omega) (by omega)
              have h2 : (128 : Nat) ^ 8 = 72057594037927936 := by decide
              have h3 : x.toNat * 128 ^ i ≤ 127 * 128 ^ 8 := Nat.mul_le_mul (by omega) h1
              omega
          · rw [hk, grpN, if_pos hx]
            simp
        · rename_i hx
          obtain ⟨v, h1, h2, h3, h4, h5, h6, h7⟩ := ih _ _ _ _ h
          have hxl : x.toNat < 256 := x.toNat_lt
          refine ⟨x.toNat % 128 + 128 * v, ?_, by omega, ?_, by omega, h5, by simp; omega, ?_⟩
          · rw [h1, pow_succ_128, Nat.add_mul, Nat.add_assoc]
            congr 2
            rw [Nat.mul_comm 128 v, Nat.mul_assoc, Nat.mul_comm 128]
          · have hv : 0 < v := by omega
            have h8 : i + 1 ≤ 9 := le9 hv h3
            by_cases h9 : i = 8
            · subst h9
              have e8 : (128 : Nat) ^ 8 = 72057594037927936 := by decide
              have h3' : v * 9223372036854775808 < 18446744073709551616 := by rw [← hpow9]; exact h3
              rw [e8]
              clear h3 h1 e8 hpow9
              have : v ≤ 1 := by omega
              have hm : x.toNat % 128 < 128 := Nat.mod_lt _ (by omega)
              have : x.toNat % 128 + 128 * v ≤ 255 := by omega
              exact Nat.lt_of_le_of_lt (Nat.mul_le_mul_right _ this) (by decide)
            · have h8' : i ≤ 7 := by omega
              have e1 : (x.toNat % 128 + 128 * v) * 128 ^ i = x.toNat % 128 * 128 ^ i + v * 128 ^ (i + 1) := by
                rw [pow_succ_128, Nat.add_mul, Nat.mul_comm 128 v, Nat.mul_assoc, Nat.mul_comm 128]
              have hd : 128 ^ (i + 1) ∣ 18446744073709551616 := by
                have e8 : (18446744073709551616 : Nat) = 128 ^ 8 * 256 := by decide
                have e9 : (128 : Nat) ^ 8 = 128 ^ (i + 1) * 128 ^ (8 - (i + 1)) := by
                  rw [← Nat.pow_add]; congr 1; omega
                exact ⟨128 ^ (8 - (i + 1)) * 256, by rw [e8, e9, Nat.mul_assoc]⟩
              obtain ⟨c, hc⟩ := hd
              rw [e1, hc]
              rw [hc, Nat.mul_comm] at h3
              have hvc : v < c := Nat.lt_of_mul_lt_mul_left h3
              have h4 : x.toNat % 128 * 128 ^ i < 128 ^ (i + 1) := by
                rw [pow_succ_128, Nat.mul_comm]
                exact Nat.mul_lt_mul_of_pos_left (by omega) (Nat.pow_pos (by omega))
              have h5 : (v + 1) * 128 ^ (i + 1) ≤ c * 128 ^ (i + 1) := Nat.mul_le_mul_right _ hvc
              rw [Nat.add_mul, Nat.one_mul] at h5
              rw [Nat.mul_comm (128 ^ (i + 1)) c]
              omega
          · rw [hk, grpN, if_neg (by omega)]
            have e : k - i = (k - (i + 1)) + 1 := by omega
            rw [e, List.take_succ_cons, h7]
            have e1 : (x.toNat % 128 + 128 * v) % 128 + 128 = x.toNat := by omega
            have e2 : (x.toNat % 128 + 128 * v) / 128 = v := by omega
            rw [e1, e2]
            simp

theorem takeN_num {n : Int} (h : isI64 n) (r : List UInt8) : takeN (numB n ++ r) = some (n, (numB n).length) := by
  unfold takeN numB grp
  rw [takeG_grp 10 0 0 (zig n) r rfl (by simpa using zig_lt h) (.inl rfl)]
  simp [unzig_zig]
theorem takeN_inv {xs : List UInt8} {n : Int} {k : Nat} (h : takeN xs = some (n, k)) :
    isI64 n ∧ 0 < k ∧ k ≤ 10 ∧ k ≤ xs.length ∧ xs.take k = numB n ∧ (numB n).length = k := by
  unfold takeN at h
  cases hg : takeG 0 0 xs with
  | none => rw [hg] at h; cases h
  | some p =>
    obtain ⟨t, k'⟩ := p
    rw [hg] at h
    simp at h
    obtain ⟨rfl, rfl⟩ := h
    obtain ⟨v, h1, _, h3, h4, h5, h6, h7⟩ := takeG_inv _ _ _ _ _ hg
    simp at h1 h3 h7 h6
    subst h1
    have e : xs.take k' = numB (unzig t) := by unfold numB grp; rw [zig_unzig, h7]
    refine ⟨unzig_i64 (by omega), h4, h5, h6, e, ?_⟩
    rw [← e, List.length_take]; omega
theorem takeN_nil : takeN [] = none := rfl
/-- what is shorter than a number's bytes is none -/
theorem takeN_short {n : Int} (h : isI64 n) {i : Nat} (hi : i < (numB n).length) : takeN ((numB n).take i) = none := by
  cases hg : takeN ((numB n).take i) with
  | none => rfl
  | some p =>
    obtain ⟨m, k⟩ := p
    obtain ⟨h1, h2, _, h3, h4, h5⟩ := takeN_inv hg
    have h6 := takeN_num h1 ((numB n).drop k)
    rw [← h4, List.take_take, Nat.min_eq_left (by simp at h3; omega), List.take_append_drop] at h6
    have h7 := takeN_num h []
    rw [List.append_nil, h6] at h7
    simp only [Option.some.injEq, Prod.mk.injEq] at h7
    obtain ⟨rfl, h7⟩ := h7
    simp at h3
    rw [List.length_take] at h7
    omega
theorem grpN_length_le (k : Nat) : ∀ u, (grpN k u).length ≤ k := by
  induction k with
  | zero => simp [grpN]
  | succ k ih => intro u; unfold grpN; split <;> simp; exact ih _
theorem grpN_mono (k : Nat) : ∀ u v, u ≤ v → (grpN k u).length ≤ (grpN k v).length := by
  induction k with
  | zero => simp [grpN]
  | succ k ih =>
    intro u v h
    unfold grpN
    split <;> split <;> simp
    · omega
    · exact ih _ _ (Nat.div_le_div_right h)
theorem numB_pos (n : Int) : 0 < (numB n).length := by
  unfold numB grp; rw [grpN]; split <;> simp
theorem numB_le (n : Int) : (numB n).length ≤ 10 := grpN_length_le 10 _
theorem numB_inj {a b : Int} (ha : isI64 a) (hb : isI64 b) {r s : List UInt8} (h : numB a ++ r = numB b ++ s) : a = b := by
  have h1 := takeN_num ha r
  rw [h, takeN_num hb s] at h1
  simp at h1; exact h1.1.symm
theorem takeN_zero_iff : takeN [1] = some (-1, 1) := by decide
end Fm
namespace Fm
/-- A text's bytes at the head: how many bytes its number has, and it. -/
def takeT (xs : List UInt8) (top : Int) : Option (Nat × Nat) :=
  match takeN xs with
  | none => none
  | some (n, k) => if n < 0 ∨ top < n ∨ ((xs.length - k : Nat) : Int) < n then none else some (k, n.toNat)
theorem takeT_none {xs : List UInt8} (h : takeN xs = none) (top : Int) : takeT xs top = none := by unfold takeT; rw [h]
theorem takeT_bad {xs : List UInt8} {n top : Int} {k : Nat} (h : takeN xs = some (n, k)) (hb : n < 0 ∨ top < n ∨ ((xs.length - k : Nat) : Int) < n) : takeT xs top = none := by
  unfold takeT; rw [h]; exact if_pos hb
theorem takeT_some {xs : List UInt8} {n top : Int} {k : Nat} (h : takeN xs = some (n, k)) (hb : ¬ (n < 0 ∨ top < n ∨ ((xs.length - k : Nat) : Int) < n)) : takeT xs top = some (k, n.toNat) := by
  unfold takeT; rw [h]; exact if_neg hb
theorem takeT_inv {xs : List UInt8} {top : Int} {k n : Nat} (h : takeT xs top = some (k, n)) :
    takeN xs = some ((n : Int), k) ∧ (n : Int) ≤ top ∧ k + n ≤ xs.length := by
  unfold takeT at h
  cases hg : takeN xs with
  | none => rw [hg] at h; cases h
  | some p =>
    obtain ⟨m, j⟩ := p
    rw [hg] at h
    simp only at h
    split at h
    · cases h
    · rename_i hb
      simp only [Option.some.injEq, Prod.mk.injEq] at h
      obtain ⟨rfl, rfl⟩ := h
      have := takeN_inv hg
      refine ⟨?_, by omega, by omega⟩
      congr 2; omega
end Fm
