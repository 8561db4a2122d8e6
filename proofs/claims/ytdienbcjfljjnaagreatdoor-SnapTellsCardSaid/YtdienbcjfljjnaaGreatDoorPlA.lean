/- Plain facts on numbers of 64 bits as groups of seven bits. No program is imported. -/
import Derived.WalkKit
import Derived.WalkSmall
import Derived.Deep.QuietTactic
import Derived.Deep.AppendSrc
import Derived.OwnWalkIn
import Derived.Lib.Strings
import Derived.Deep.AppendLies
namespace Fm
/-- twice n, or twice -n less 1 -/
def zig (n : Int) : Nat := if 0 ≤ n then (2 * n).toNat else (-2 * n - 1).toNat
def unzig (u : Nat) : Int := if u % 2 = 0 then ((u / 2 : Nat) : Int) else -((u / 2 : Nat) : Int) - 1
def isI64 (n : Int) : Prop := -9223372036854775808 ≤ n ∧ n ≤ 9223372036854775807
theorem zig_lt {n : Int} (h : isI64 n) : zig n < 18446744073709551616 := by
  unfold zig isI64 at *; split <;> omega
theorem unzig_zig (n : Int) : unzig (zig n) = n := by
  unfold zig unzig; split <;> split <;> omega
theorem zig_unzig (u : Nat) : zig (unzig u) = u := by
  unfold zig unzig; split <;> split <;> omega
theorem unzig_i64 {u : Nat} (h : u < 18446744073709551616) : isI64 (unzig u) := by
  unfold unzig isI64; split <;> omega

def grpN : Nat → Nat → List UInt8
  | 0, _ => []
  | k + 1, u => if u < 128 then [UInt8.ofNat u] else UInt8.ofNat (u % 128 + 128) :: grpN k (u / 128)
def grp (u : Nat) : List UInt8 := grpN 10 u
def numB (n : Int) : List UInt8 := grp (zig n)
def textB (s : List UInt8) : List UInt8 := numB s.length ++ s

def takeG : Nat → Nat → List UInt8 → Option (Nat × Nat)
  | _, _, [] => none
  | i, u, x :: r =>
    if 10 ≤ i then none
    else if (i = 9 ∧ 1 < x.toNat % 128) ∨ (x.toNat = 0 ∧ 0 < i) then none
    else if x.toNat < 128 then some (u + x.toNat % 128 * 128 ^ i, i + 1)
    else takeG (i + 1) (u + x.toNat % 128 * 128 ^ i) r
def takeN (xs : List UInt8) : Option (Int × Nat) := (takeG 0 0 xs).map fun p => (unzig p.1, p.2)

theorem toNat_ofNat_lt {n : Nat} (h : n < 256) : (UInt8.ofNat n).toNat = n := by
  simp; omega

theorem pow_succ_128 (i : Nat) : 128 ^ (i + 1) = 128 ^ i * 128 := Nat.pow_succ ..

theorem le9 {i v : Nat} (hv : 0 < v) (h : v * 128 ^ i < 18446744073709551616) : i ≤ 9 := by
  by_cases hi : i ≤ 9
  · exact hi
  · exfalso
    have h1 : 128 ^ 10 ≤ 128 ^ i := Nat.pow_le_pow_right (by omega) (by omega)
    have h2 : 128 ^ i ≤ v * 128 ^ i := Nat.le_mul_of_pos_left _ hv
    have h3 : (128 : Nat) ^ 10 = 1180591620717411303424 := by decide
    omega

theorem step_eq (u v i : Nat) : u + v % 128 * 128 ^ i + v / 128 * 128 ^ (i + 1) = u + v * 128 ^ i := by
  have h := Nat.div_add_mod v 128
  rw [pow_succ_128, Nat.add_assoc, ← Nat.mul_assoc, Nat.mul_right_comm, ← Nat.add_mul]
  congr 2; omega

theorem takeG_grp (k : Nat) : ∀ (i u v : Nat) (r : List UInt8), i + k = 10 → v * 128 ^ i < 18446744073709551616 → (i = 0 ∨ 0 < v) →
    takeG i u (grpN k v ++ r) = some (u + v * 128 ^ i, i + (grpN k v).length) := by
  induction k with
  | zero =>
    intro i u v r hi hv h0
    have := le9 (i := i) (v := v) (by omega) hv
    omega
  | succ k ih =>
    intro i u v r hi hv h0
    unfold grpN
    by_cases h : v < 128
    · rw [if_pos h]
      simp only [List.cons_append, List.nil_append, takeG]
      rw [toNat_ofNat_lt (by omega), if_neg (by omega), if_neg ?_, if_pos h, Nat.mod_eq_of_lt h]
      · simp
      · rintro (⟨rfl, h1⟩ | ⟨h1, h2⟩)
        · rw [Nat.mod_eq_of_lt h] at h1
          have : (128 : Nat) ^ 9 = 9223372036854775808 := by decide
          rw [this] at hv; omega
        · omega
    · rw [if_neg h]
      simp only [List.cons_append, takeG]
      have hi8 : i + 1 ≤ 9 := by
        refine le9 (v := v / 128) (by omega) ?_
        have := step_eq 0 v i
        omega
      have hx : (UInt8.ofNat (v % 128 + 128)).toNat = v % 128 + 128 := toNat_ofNat_lt (by omega)
      rw [hx, if_neg (by omega), if_neg (by omega), if_neg (by omega)]
      have e : (v % 128 + 128) % 128 = v % 128 := by omega
      rw [e, ih (i + 1) _ (v / 128) r (by omega) (by have := step_eq 0 v i; omega) (by omega), step_eq]
      simp; omega

theorem takeG_inv : ∀ (xs : List UInt8) (i u t k : Nat), takeG i u xs = some (t, k) →
    ∃ v, t = u + v * 128 ^ i ∧ (i = 0 ∨ 0 < v) ∧ v * 128 ^ i < 18446744073709551616 ∧ i < k ∧ k ≤ 10 ∧ k - i ≤ xs.length ∧ xs.take (k - i) = grpN (10 - i) v := by
  intro xs
  induction xs with
  | nil => intro i u t k h; simp [takeG] at h
  | cons x r ih =>
    intro i u t k h
    simp only [takeG] at h
    split at h
    · cases h
    · rename_i h10
      split at h
      · cases h
      · rename_i hbad
        have hpow9 : (128 : Nat) ^ 9 = 9223372036854775808 := by decide
        have hk : 10 - i = (10 - (i + 1)) + 1 := by omega
        split at h
        · rename_i hx
          simp only [Option.some.injEq, Prod.mk.injEq] at h
          obtain ⟨rfl, rfl⟩ := h
          have hm : x.toNat % 128 = x.toNat := Nat.mod_eq_of_lt hx
          refine ⟨x.toNat, by rw [hm], by omega, ?_, by omega, by omega, by simp, ?_⟩
          · by_cases h9 : i = 9
            · subst h9; rw [hpow9]; omega
            · have h1 : 128 ^ i ≤ 128 ^ 8 := Nat.pow_le_pow_right (by omega) (by omega)
              have h2 : (128 : Nat) ^ 8 = 72057594037927936 := by decide
              have h3 : x.toNat * 128 ^ i ≤ 127 * 128 ^ 8 := Nat.mul_le_mul (by omega) h1
              omega
          · rw [hk, grpN, if_pos hx]
            simp
        · rename_i hx
          obtain ⟨v, h1, h2, h3, h4, h5, h6, h7⟩ := ih _ _ _ _ h
          have hxl : x.toNat < 256 := x.toNat_lt
          refine ⟨x.toNat % 128 + 128 * v, ?_, by omega, ?_, by omega, h5, by simp; omega, ?_⟩
          · rw [h1, pow_succ_128, Nat.add_mul, Nat.add_assoc]
            congr 2
            rw [Nat.mul_comm 128 v, Nat.mul_assoc, Nat.mul_comm 128]
          · have hv : 0 < v := by omega
            have h8 : i + 1 ≤ 9 := le9 hv h3
            by_cases h9 : i = 8
            · subst h9
              have e8 : (128 : Nat) ^ 8 = 72057594037927936 := by decide
              have h3' : v * 9223372036854775808 < 18446744073709551616 := by rw [← hpow9]; exact h3
              rw [e8]
              clear h3 h1 e8 hpow9
              have : v ≤ 1 := by omega
              have hm : x.toNat % 128 < 128 := Nat.mod_lt _ (by omega)
              have : x.toNat % 128 + 128 * v ≤ 255 := by omega
              exact Nat.lt_of_le_of_lt (Nat.mul_le_mul_right _ this) (by decide)
            · have h8' : i ≤ 7 := by omega
              have e1 : (x.toNat % 128 + 128 * v) * 128 ^ i = x.toNat % 128 * 128 ^ i + v * 128 ^ (i + 1) := by
                rw [pow_succ_128, Nat.add_mul, Nat.mul_comm 128 v, Nat.mul_assoc, Nat.mul_comm 128]
              have hd : 128 ^ (i + 1) ∣ 18446744073709551616 := by
                have e8 : (18446744073709551616 : Nat) = 128 ^ 8 * 256 := by decide
                have e9 : (128 : Nat) ^ 8 = 128 ^ (i + 1) * 128 ^ (8 - (i + 1)) := by
                  rw [← Nat.pow_add]; congr 1; omega
                exact ⟨128 ^ (8 - (i + 1)) * 256, by rw [e8, e9, Nat.mul_assoc]⟩
              obtain ⟨c, hc⟩ := hd
              rw [e1, hc]
              rw [hc, Nat.mul_comm] at h3
              have hvc : v < c := Nat.lt_of_mul_lt_mul_left h3
              have h4 : x.toNat % 128 * 128 ^ i < 128 ^ (i + 1) := by
                rw [pow_succ_128, Nat.mul_comm]
                exact Nat.mul_lt_mul_of_pos_left (by omega) (Nat.pow_pos (by omega))
              have h5 : (v + 1) * 128 ^ (i + 1) ≤ c * 128 ^ (i + 1) := Nat.mul_le_mul_right _ hvc
              rw [Nat.add_mul, Nat.one_mul] at h5
              rw [Nat.mul_comm (128 ^ (i + 1)) c]
              omega
          · rw [hk, grpN, if_neg (by omega)]
            have e : k - i = (k - (i + 1)) + 1 := by omega
            rw [e, List.take_succ_cons, h7]
            have e1 : (x.toNat % 128 + 128 * v) % 128 + 128 = x.toNat := by omega
            have e2 : (x.toNat % 128 + 128 * v) / 128 = v := by omega
            rw [e1, e2]
            simp

theorem takeN_num {n : Int} (h : isI64 n) (r : List UInt8) : takeN (numB n ++ r) = some (n, (numB n).length) := by
  unfold takeN numB grp
  rw [takeG_grp 10 0 0 (zig n) r rfl (by simpa using zig_lt h) (.inl rfl)]
  simp [unzig_zig]
theorem takeN_inv {xs : List UInt8} {n : Int} {k : Nat} (h : takeN xs = some (n, k)) :
    isI64 n ∧ 0 < k ∧ k ≤ 10 ∧ k ≤ xs.length ∧ xs.take k = numB n ∧ (numB n).length = k := by
  unfold takeN at h
  cases hg : takeG 0 0 xs with
  | none => rw [hg] at h; cases h
  | some p =>
    obtain ⟨t, k'⟩ := p
    rw [hg] at h
    simp at h
    obtain ⟨rfl, rfl⟩ := h
    obtain ⟨v, h1, _, h3, h4, h5, h6, h7⟩ := takeG_inv _ _ _ _ _ hg
    simp at h1 h3 h7 h6
    subst h1
    have e : xs.take k' = numB (unzig t) := by unfold numB grp; rw [zig_unzig, h7]
    refine ⟨unzig_i64 (by omega), h4, h5, h6, e, ?_⟩
    rw [← e, List.length_take]; omega
theorem grpN_length_le (k : Nat) : ∀ u, (grpN k u).length ≤ k := by
  induction k with
  | zero => simp [grpN]
  | succ k ih => intro u; unfold grpN; split <;> simp; exact ih _
theorem numB_le (n : Int) : (numB n).length ≤ 10 := grpN_length_le 10 _
end Fm
namespace Fm
/-- A text's bytes at the head: how many bytes its number has, and it. -/
def takeT (xs : List UInt8) (top : Int) : Option (Nat × Nat) :=
  match takeN xs with
  | none => none
  | some (n, k) => if n < 0 ∨ top < n ∨ ((xs.length - k : Nat) : Int) < n then none else some (k, n.toNat)
theorem takeT_none {xs : List UInt8} (h : takeN xs = none) (top : Int) : takeT xs top = none := by unfold takeT; rw [h]
theorem takeT_bad {xs : List UInt8} {n top : Int} {k : Nat} (h : takeN xs = some (n, k)) (hb : n < 0 ∨ top < n ∨ ((xs.length - k : Nat) : Int) < n) : takeT xs top = none := by
  unfold takeT; rw [h]; exact if_pos hb
theorem takeT_some {xs : List UInt8} {n top : Int} {k : Nat} (h : takeN xs = some (n, k)) (hb : ¬ (n < 0 ∨ top < n ∨ ((xs.length - k : Nat) : Int) < n)) : takeT xs top = some (k, n.toNat) := by
  unfold takeT; rw [h]; exact if_neg hb
theorem takeT_inv {xs : List UInt8} {top : Int} {k n : Nat} (h : takeT xs top = some (k, n)) :
    takeN xs = some ((n : Int), k) ∧ (n : Int) ≤ top ∧ k + n ≤ xs.length := by
  unfold takeT at h
  cases hg : takeN xs with
  | none => rw [hg] at h; cases h
  | some p =>
    obtain ⟨m, j⟩ := p
    rw [hg] at h
    simp only at h
    split at h
    · cases h
    · rename_i hb
      simp only [Option.some.injEq, Prod.mk.injEq] at h
      obtain ⟨rfl, rfl⟩ := h
      have := takeN_inv hg
      refine ⟨?_, by omega, by omega⟩
      congr 2; omega
end Fm

/- Plain facts on worlds: a slice that holds bytes; worlds that only grow. No program is imported. -/
namespace Fm
open Go Go.RowKit

/-- The world has grown: what lay in it lies as it lay. -/
def Ext (w w' : World) : Prop := Below w.heap.size w w'
theorem Ext.refl (w : World) : Ext w w := Below.refl _ _
theorem Ext.trans {a b c : World} (h : Ext a b) (k : Ext b c) : Ext a c := Below.trans h (Below.mono k h.size)
theorem Ext.then {w a b : World} (h : Ext w a) (k : Below w.heap.size a b) : Ext w b := Below.trans h k
theorem Ext.drewN {a b : World} (h : Ext a b) (n : Nat) : Ext a (b.drewN n) := below_drewN h n
theorem Ext.drew {a b : World} (h : Ext a b) : Ext a b.drew := Below.drew h
theorem Ext.alloc {a b : World} (h : Ext a b) (o : Obj) : Ext a (b.alloc o) := Below.alloc h h.size o
theorem Ext.setCell {a b : World} (h : Ext a b) {p : Addr} (hp : a.heap.size ≤ p.block) (u : Value) : Ext a (b.setCell p u) := Below.setCell h hp u
theorem Ext.grown {a b c : World} {row : Option Nat} (h : Ext a b) (hg : b.grownBy c row) (hr : ∀ k, row = some k → a.heap.size ≤ k) : Ext a c := Below.grown h hg h.size hr
theorem Ext.cell {w w' : World} (h : Ext w w') {p : Addr} (hp : p.block < w.heap.size) : w'.cell? p = w.cell? p := Below.cell h hp
theorem Ext.frozen {w w' : World} (h : Ext w w') {p : Addr} (hp : p.block < w.heap.size) : w'.frozen? p = w.frozen? p := Below.frozen h hp
theorem Ext.size {w w' : World} (h : Ext w w') : w.heap.size ≤ w'.heap.size := Below.size h
theorem Ext.grownBy {w w' : World} (h : Ext w w') : w.grownBy w' none := ⟨h.os, h.tape, h.output, h.size, fun k hk _ => h.block k hk⟩
theorem Ext.own {w w' : World} (h : Ext w w') {base e size n : Nat} {v : Value} {xs : List Value} (ho : w.ownsRow base e size v n xs) : w'.ownsRow base e size v n xs :=
  ho.kept h.grownBy (by cases hv : v.ownBlock <;> simp)

/-- A contract that leaves the world alone, in a quiet region. -/
theorem quiet_same {P : Program} {f : FuncId} {args : Array Value} {w : World} {n : Nat} {v : Value}
    (h : Calls P f args (w.drewN n) fun e w' => e = .returned v ∧ w.drewN n = w') : Calls P f args (w.drewN n) fun e w'' => e = .returned v ∧ ∃ m, w'' = w.drewN m :=
  h.mono fun _ _ ⟨he, hm⟩ => ⟨he, n, hm.symm⟩

/-- A byte in its cell. -/
def bv (x : UInt8) : Value := .int .u8 (x.toNat : Int)

/-- The slice v holds the bytes xs. -/
def Bytes (w : World) (v : Value) (xs : List UInt8) : Prop :=
  ∃ a cap, v = .slice a xs.length cap ∧ xs.length ≤ cap ∧ cap ≤ maxLen ∧ (a = none → cap = 0) ∧
    ∀ ad, a = some ad → 0 < cap → ad.spot = none ∧ ad.block < w.heap.size ∧ ∀ j, j < xs.length → w.cell? ⟨ad.block, ad.off + j, none⟩ = some (bv (xs[j]?.getD 0))

theorem Bytes.ext {w w' : World} {v : Value} {xs : List UInt8} (h : Bytes w v xs) (hx : Ext w w') : Bytes w' v xs := by
  obtain ⟨a, cap, hv, h1, h2, h3, h4⟩ := h
  refine ⟨a, cap, hv, h1, h2, h3, fun ad had h0 => ?_⟩
  obtain ⟨s, hb, hc⟩ := h4 ad had h0
  exact ⟨s, Nat.lt_of_lt_of_le hb hx.size, fun j hj => (hx.cell (p := ⟨ad.block, ad.off + j, none⟩) hb).trans (hc j hj)⟩

theorem Bytes.void (w : World) (a : Option Addr) : Bytes w (.slice a 0 0) [] := ⟨a, 0, rfl, by simp, by simp, fun _ => rfl, fun _ _ h => by omega⟩
theorem Bytes.nil (w : World) : Bytes w (.slice none 0 0) [] := Bytes.void w _

/-- It has no room, and is nothing; or it begins in a cell. -/
theorem Bytes.parts {w : World} {v : Value} {xs : List UInt8} (h : Bytes w v xs) :
    (∃ a, v = .slice a 0 0 ∧ xs = []) ∨
    ∃ b off cap, v = .slice (some ⟨b, off, none⟩) xs.length cap ∧ xs.length ≤ cap ∧ cap ≤ maxLen ∧ b < w.heap.size ∧
      ∀ j, j < xs.length → w.cell? ⟨b, off + j, none⟩ = some (bv (xs[j]?.getD 0)) := by
  obtain ⟨a, cap, hv, h1, h2, h3, h4⟩ := h
  rcases Nat.eq_zero_or_pos cap with h0 | h0
  · have : xs = [] := List.eq_nil_of_length_eq_zero (by omega)
    subst this h0
    exact .inl ⟨a, hv, rfl⟩
  · cases a with
    | none => have := h3 rfl; omega
    | some ad =>
      obtain ⟨b, off, spot⟩ := ad
      obtain ⟨hs, hb, hc⟩ := h4 _ rfl h0
      simp only at hs
      subst hs
      exact .inr ⟨b, off, cap, hv, h1, h2, hb, hc⟩

theorem Bytes.mk {w : World} {b off cap n : Nat} {xs : List UInt8} (hn : n = xs.length) (h1 : xs.length ≤ cap) (h2 : cap ≤ maxLen) (hb : b < w.heap.size)
    (hc : ∀ j, j < xs.length → w.cell? ⟨b, off + j, none⟩ = some (bv (xs[j]?.getD 0))) : Bytes w (.slice (some ⟨b, off, none⟩) n cap) xs := by
  subst hn
  exact ⟨_, cap, rfl, h1, h2, fun h => (by cases h), fun ad had _ => by cases had; exact ⟨rfl, hb, hc⟩⟩

theorem Bytes.length_le {w : World} {v : Value} {xs : List UInt8} (h : Bytes w v xs) : xs.length ≤ 9223372036854775807 := by
  obtain ⟨a, cap, hv, h1, h2, _⟩ := h
  unfold maxLen at h2; omega

/-- What is behind the first k. -/
def dropV : Value → Nat → Value
  | .slice a n c, k => .slice (if c = k then a else a.map (·.add k)) (n - k) (c - k)
  | v, _ => v
/-- The first k. -/
def takeV : Value → Nat → Value
  | .slice a _ c, k => .slice a k c
  | v, _ => v

theorem Bytes.drop {w : World} {v : Value} {xs : List UInt8} (h : Bytes w v xs) {k : Nat} (hk : k ≤ xs.length) : Bytes w (dropV v k) (xs.drop k) := by
  rcases h.parts with ⟨a, rfl, rfl⟩ | ⟨b, off, cap, rfl, h1, h2, hb, hc⟩
  · simp at hk; subst hk; exact Bytes.void w a
  · simp only [dropV]
    by_cases hck : cap = k
    · rw [if_pos hck]
      have : xs.length = k := by omega
      refine Bytes.mk (by simp) (by simp; omega) (by omega) hb (fun j hj => ?_)
      simp at hj; omega
    · rw [if_neg hck]
      simp only [Option.map_some, Addr.add_lit]
      refine Bytes.mk (by simp) (by simp; omega) (by omega) hb (fun j hj => ?_)
      simp at hj
      rw [Nat.add_assoc, hc (k + j) (by omega)]
      simp
theorem Bytes.take {w : World} {v : Value} {xs : List UInt8} (h : Bytes w v xs) {k : Nat} (hk : k ≤ xs.length) : Bytes w (takeV v k) (xs.take k) := by
  rcases h.parts with ⟨a, rfl, rfl⟩ | ⟨b, off, cap, rfl, h1, h2, hb, hc⟩
  · simp at hk; subst hk; exact Bytes.void w a
  · simp only [takeV]
    refine Bytes.mk (by simp; omega) (by simp; omega) h2 hb (fun j hj => ?_)
    simp at hj
    rw [hc j (by omega), List.getElem?_take, if_pos (by omega)]

/-- A row that the call owns holds its bytes. -/
theorem Bytes.of_own {w : World} {base e : Nat} {v : Value} {n : Nat} {xs : List UInt8} (h : w.ownsRow base e 1 v n (xs.map bv)) : Bytes w v xs := by
  have hn : n = xs.length := by have := h.1; simp at this; exact this.symm
  have hcells := fun g => World.ownsRow.cells h (g := g)
  rcases h.2 with ⟨rfl, h0⟩ | ⟨g, cap, cur, rfl, hb, hg, h1, h2, h3, h4⟩
  · have : xs = [] := List.eq_nil_of_length_eq_zero (by omega)
    subst this; exact Bytes.nil w
  · refine Bytes.mk hn (by omega) h2 (Array.getElem?_eq_some_iff.1 hg).1 (fun j hj => ?_)
    have := hcells g rfl j (bv xs[j]) (by simp [hj])
    rw [Addr.add_lit] at this
    rw [this]; simp [hj]

/-! ### append onto a row that the call owns, whatever is appended -/

/-- The table's row of a slice type's element. -/
structure ElemOf (P : Program) (t e : TypeId) (z : Value) (size bytes : Nat) : Prop where
  ht : P.underlying t = some (.slice e)
  info : (P.info? e).map (fun i => (i.zero, i.size, i.bytes)) = some (some z, size, bytes)
  hz : z.cells.size = size
  pos : 0 < size

theorem run_append_src_own {P : Program} (w : World) {t e : TypeId} {z : Value} {size bytes : Nat} (he : ElemOf P t e z size bytes) (tx ty : TypeId) (base : Nat)
    (v : Value) (n : Nat) (xs : List Value) (hown : w.ownsRow base e size v n xs) (x : Value) (m : Nat) (news : List Value) (hs : Src P size tx x m news w)
    (h63 : n + m ≤ maxLen) (hbytes : (n + m) * bytes ≤ 140737488355328) (hbase : base ≤ w.heap.size) :
    ∃ v' w', (Builtin.append_ #[t, tx] ty #[v, x]).run P w = .ok v' w' ∧ w'.ownsRow base e size v' (n + m) (xs ++ news) ∧ w.grownBy w' v.ownBlock ∧
      (v' = .slice none 0 0 ↔ v = .slice none 0 0 ∧ m = 0) := by
  obtain ⟨ht, hinfo, hzs, hsz⟩ := he
  obtain ⟨i, hi, hz, hsize, hby⟩ := info_parts hinfo
  subst hsize
  subst hby
  have hl := hs.newsLen
  have hsmall : n + m ≤ 9223372036854775807 := by simp only [maxLen] at h63; omega
  have hlen : (xs ++ news).length = (n + m) * i.size := by rw [List.length_append, hown.1, hl, Nat.add_mul]
  have grown : ∀ (old : Nat), old < n + m → ∀ (row : Option Nat),
      (w.drew.alloc (.cells ((xs ++ news).toArray ++ Builtin.zeroCells z.cells (grownCap w (n + m) old e - (n + m))) e)).ownsRow base e i.size
        (.slice (some ⟨w.heap.size, 0, none⟩) (n + m) (grownCap w (n + m) old e)) (n + m) (xs ++ news) ∧
      w.grownBy (w.drew.alloc (.cells ((xs ++ news).toArray ++ Builtin.zeroCells z.cells (grownCap w (n + m) old e - (n + m))) e)) row := by
    intro old ho row
    have hge := grownCap_ge w (n + m) old e
    have hcm : grownCap w (n + m) old e ≤ maxLen := grownCap_le_maxLen w (n + m) old e h63
    refine ⟨⟨hlen, .inr ⟨w.heap.size, _, _, rfl, hbase, heap_alloc_new w.drew _, hge, hcm, ?_, ?_⟩⟩, ⟨rfl, rfl, rfl, by simp, fun k hk _ => heap_alloc_old w.drew _ hk⟩⟩
    · rw [Array.size_append, List.size_toArray, size_zeroCells, hzs, hlen, ← Nat.add_mul]
      congr 1
      omega
    · rw [Array.toList_append, ← hlen]
      exact List.take_left
  rcases hown.2 with ⟨rfl, rfl⟩ | ⟨g, cap, cur, rfl, hbg, hg, hnc, hcm, hcs, htake⟩
  · have hx : xs = [] := List.eq_nil_of_length_eq_zero (by simpa using hown.1)
    subst hx
    by_cases hm : m = 0
    · subst hm
      have hn : news = [] := List.eq_nil_of_length_eq_zero (by simpa using hl)
      subst hn
      refine ⟨.slice none 0 0, w, ?_, World.ownsRow_nil w base e i.size, ⟨rfl, rfl, rfl, Nat.le_refl _, fun _ _ _ => rfl⟩, by simp⟩
      rcases hs.kind with ⟨e', hk⟩ | hk <;> simp [Builtin.append_, run_underlying ht, run_underlying hk, Go.sizeOf, typeInfo, hi, hs.len, hs.cells]
    · have hold : (Builtin.firstCells i.size 0 (.slice none 0 0)).run P w.drew = .ok ([] : List Value).toArray w.drew := run_firstCells_none w.drew i.size 0 0 0
      have hr := run_append_grow_src w t tx ty e i z ht hi hz none 0 0 [] hold x m news hs (by omega) (by omega) (growslice_fits (by omega) hbytes)
      have hgr := grown 0 (by omega) (Value.ownBlock (.slice none 0 0))
      exact ⟨_, _, hr, hgr.1, hgr.2, by simp [hm]⟩
  · by_cases hroom : n + m ≤ cap
    · have hfit : n * i.size + news.length ≤ cur.size := by rw [hl, hcs, ← Nat.add_mul]; exact Nat.mul_le_mul_right _ hroom
      have hst := run_storeCells_at P g (n * i.size) e news 0 cur w hg (by simpa using hfit) hs.one
      simp only [Nat.add_zero] at hst
      have hr : (Builtin.append_ #[t, tx] ty #[.slice (some ⟨g, 0, none⟩) n cap, x]).run P w =
          .ok (.slice (some ⟨g, 0, none⟩) (n + m) cap) (w.setRow g (cur.toList.take (n * i.size) ++ news ++ cur.toList.drop (n * i.size + news.length)).toArray) := by
        rcases hs.kind with ⟨e', hk⟩ | hk <;> simp [Builtin.append_, run_underlying ht, run_underlying hk, Go.sizeOf, typeInfo, hi, hs.len, hroom, hs.cells, Addr.add_lit, hst]
      refine ⟨_, _, hr, ⟨hlen, .inr ⟨g, cap, _, rfl, hbg, setRow_heap w g cur _ e _ hg, hroom, hcm, ?_, ?_⟩⟩, ⟨rfl, rfl, rfl, by simp, fun k _ hk => setRow_other w g k _ (fun e => hk (by simp [Value.ownBlock, e]))⟩, by simp⟩
      · simp only [List.size_toArray, List.length_append, List.length_take, List.length_drop, Array.length_toList]
        omega
      · rw [htake, ← hlen]
        exact List.take_left
    · have holds : ∀ j u, xs[j]? = some u → w.cell? ((⟨g, 0, none⟩ : Addr).add j) = some u := hown.cells (g := g) rfl
      have hold : (Builtin.firstCells i.size n (.slice (some ⟨g, 0, none⟩) n cap)).run P w.drew = .ok xs.toArray w.drew := run_firstCells_some w.drew i.size n ⟨g, 0, none⟩ n cap xs hown.1 (by simpa using holds)
      have hr := run_append_grow_src w t tx ty e i z ht hi hz (some ⟨g, 0, none⟩) n cap xs hold x m news hs (by omega) (by omega) (growslice_fits (by omega) hbytes)
      have hgr := grown cap (by omega) (Value.ownBlock (.slice (some ⟨g, 0, none⟩) n cap))
      exact ⟨_, _, hr, hgr.1, hgr.2, by simp⟩

/-- 'append(s, x...)' at a walk's operation. -/
theorem wpList_app {P : Program} (w : World) {ops : Array Oper} {rest : List Oper} {o : Oper} {a : Act} {Q : Exit → Act → World → Prop} {t e : TypeId} {z : Value} {size bytes : Nat} (he : ElemOf P t e z size bytes)
    (hg : o.guard = none) (s x : Operand) (tx : TypeId) (hop : o.op = Op.call { callee := Callee.builtin Builtin.append, args := #[s, x], argTypes := #[t, tx] }) (base : Nat)
    (v : Value) (k : Nat) (xs : List Value) (hs : a.eval s = v) (hown : w.ownsRow base e size v k xs) (X : Value) (m : Nat) (news : List Value) (hx : a.eval x = X) (hsrc : Src P size tx X m news w)
    (b1 : k + m ≤ maxLen) (b2 : (k + m) * bytes ≤ 140737488355328) (b3 : base ≤ w.heap.size)
    (hK : ∀ v' w', w'.ownsRow base e size v' (k + m) (xs ++ news) → w.grownBy w' v.ownBlock → (v' = .slice none 0 0 ↔ v = .slice none 0 0 ∧ m = 0) → wpList P ops Q rest (a.put o.dst v') w') :
    wpList P ops Q (o :: rest) a w := by
  refine wpList_plain hg fun K hK' => ?_
  obtain ⟨v', w', hrun, r1, r2, r3⟩ := run_append_src_own w he tx o.type base v k xs hown X m news hsrc b1 b2 b3
  unfold Oper.wp
  simp [execOp, hop, resolve, invoke, builtin, hs, hx, hrun, Result.andThen]
  exact hK' _ _ (hK v' w' r1 r2 r3)

/-- A slice of bytes as what is appended. -/
theorem Src.bytes {P : Program} {tx e' : TypeId} (hk : P.underlying tx = some (.slice e')) {w : World} {v : Value} {xs : List UInt8} (h : Bytes w v xs) : Src P 1 tx v xs.length (xs.map bv) w := by
  rcases h.parts with ⟨a, rfl, rfl⟩ | ⟨b, off, cap, rfl, _, _, _, hc⟩
  · cases a with
    | none => exact Src.ofNil w hk 0
    | some ad => exact Src.ofSlice w hk ad 0 0 [] rfl (fun _ _ h => by cases h) (fun _ h => by cases h)
  · refine Src.ofSlice w hk _ _ _ _ (by simp) (fun j u hu => ?_) (fun u hu => by obtain ⟨x, _, rfl⟩ := List.mem_map.1 hu; rfl)
    have hj : j < xs.length := by have := (List.getElem?_eq_some_iff.1 hu).1; simpa using this
    rw [Addr.add_lit, hc j hj]
    rw [List.getElem?_map] at hu
    simp [hj] at hu ⊢
    exact hu
theorem Src.string {P : Program} {tx : TypeId} (hk : P.underlying tx = some .string) (w : World) (s : ByteArray) : Src P 1 tx (.string s) s.data.toList.length (s.data.toList.map bv) w := by
  have := Src.ofString (P := P) w hk s
  have e : s.data.toList.length = s.size := by rw [Array.length_toList]; rfl
  rw [e]
  exact this

/-- A text of these bytes. -/
def str (xs : List UInt8) : ByteArray := ⟨xs.toArray⟩
theorem str_size (xs : List UInt8) : (str xs).size = xs.length := by simp [str, ByteArray.size]
theorem str_list (xs : List UInt8) : (str xs).data.toList = xs := by simp [str]
theorem str_toList (xs : List UInt8) : (str xs).toList = xs := by rw [Lib.toList_data, str_list]
theorem str_eta (s : ByteArray) : str s.data.toList = s := by simp [str]
theorem conv_bytes {P : Program} {src dst e : TypeId} (hs : P.underlying src = some (.slice e)) (he : P.underlying e = some (.int .u8)) (hd : P.underlying dst = some .string)
    {w : World} {v : Value} {xs : List UInt8} (h : Bytes w v xs) : (convert src dst v).run P w = .ok (.string (str xs)) w := by
  rcases h.parts with ⟨a, rfl, rfl⟩ | ⟨b, off, cap, rfl, _, _, _, hc⟩
  · cases a with
    | none => exact run_convert_bytes_nil w src e hs he 0 0 dst hd
    | some ad =>
      rw [run_convert_bytes_string w src dst e _ 0 0 hs he hd, run_bytesToString w ad 0 0 [] rfl]
      rfl
  · rw [run_convert_bytes_arg w src e hs he b off xs.length cap (xs.map fun x => (x.toNat : Int)) (by simp) (fun i hi => by rw [hc i hi]; simp [bv, hi]) dst hd]
    congr 2
    simp only [strOfNums, str, List.map_map]
    have : ((fun n : Int => UInt8.ofNat n.toNat) ∘ fun x : UInt8 => (x.toNat : Int)) = id := by funext x; simp
    rw [this, List.map_id]

theorem str_get (s : List UInt8) (k : Nat) (h : k < s.length) : (str s)[k]? = some s[k] := by
  have hs : k < (str s).size := by rw [str_size]; exact h
  rw [getElem?_pos (str s) k hs]
  rfl
theorem run_index_str {P : Program} {t : TypeId} (ht : P.underlying t = some .string) (s : List UInt8) (k : Nat) (h : k < s.length) (w : World) :
    (Instr.index t (.string (str s)) (.int .i64 k)).run P w = .ok (.int .u8 (s[k]?.getD 0).toNat) w := by
  have e := str_get s k h
  simp [Instr.index, asIntOf, run_underlying ht, e, h]
end Fm

/- append at a guarded operation; small facts for the laws. No program is imported. -/
namespace Fm
open Go Go.RowKit

/-- 'append(s, x...)' at an operation that is wanted (its guard says yes, or it has none). -/
theorem wpList_appG {P : Program} (w : World) {ops : Array Oper} {rest : List Oper} {o : Oper} {a : Act} {Q : Exit → Act → World → Prop} {t e : TypeId} {z : Value} {size bytes : Nat} (he : ElemOf P t e z size bytes)
    (hg : Region.wanted o (yielded ops a.tmps) = true) (s x : Operand) (tx : TypeId) (hop : o.op = Op.call { callee := Callee.builtin Builtin.append, args := #[s, x], argTypes := #[t, tx] }) (base : Nat)
    (v : Value) (k : Nat) (xs : List Value) (hs : a.eval s = v) (hown : w.ownsRow base e size v k xs) (X : Value) (m : Nat) (news : List Value) (hx : a.eval x = X) (hsrc : Src P size tx X m news w)
    (b1 : k + m ≤ maxLen) (b2 : (k + m) * bytes ≤ 140737488355328) (b3 : base ≤ w.heap.size)
    (hK : ∀ v' w', w'.ownsRow base e size v' (k + m) (xs ++ news) → w.grownBy w' v.ownBlock → (v' = .slice none 0 0 ↔ v = .slice none 0 0 ∧ m = 0) → wpList P ops Q rest (a.put o.dst v') w') :
    wpList P ops Q (o :: rest) a w := by
  unfold wpList
  rw [if_pos hg]
  left
  obtain ⟨v', w', hrun, r1, r2, r3⟩ := run_append_src_own w he tx o.type base v k xs hown X m news hsrc b1 b2 b3
  unfold Oper.wp
  simp [execOp, hop, resolve, invoke, builtin, hs, hx, hrun, Result.andThen]
  exact hK v' w' r1 r2 r3
theorem own_lt {w : World} {base e size n : Nat} {v : Value} {xs : List Value} (h : w.ownsRow base e size v n xs) : ∀ k, v.ownBlock = some k → base ≤ k := fun k hk => (h.lt k hk).1
end Fm

/- append onto a row of one's own, and where the new row lies. No program is imported. -/
namespace Fm
open Go Go.RowKit

theorem run_append_src_at {P : Program} (w : World) {t e : TypeId} {z : Value} {size bytes : Nat} (he : ElemOf P t e z size bytes) (tx ty : TypeId) (base : Nat)
    (v : Value) (n : Nat) (xs : List Value) (hown : w.ownsRow base e size v n xs) (x : Value) (m : Nat) (news : List Value) (hs : Src P size tx x m news w)
    (h63 : n + m ≤ maxLen) (hbytes : (n + m) * bytes ≤ 140737488355328) (hbase : base ≤ w.heap.size) :
    ∃ v' w', (Builtin.append_ #[t, tx] ty #[v, x]).run P w = .ok v' w' ∧ w'.ownsRow base e size v' (n + m) (xs ++ news) ∧ w.grownBy w' v.ownBlock ∧
      (v'.ownBlock = v.ownBlock ∨ v'.ownBlock = some w.heap.size) := by
  obtain ⟨ht, hinfo, hzs, hsz⟩ := he
  obtain ⟨i, hi, hz, hsize, hby⟩ := info_parts hinfo
  subst hsize
  subst hby
  have hl := hs.newsLen
  have hsmall : n + m ≤ 9223372036854775807 := by simp only [maxLen] at h63; omega
  have hlen : (xs ++ news).length = (n + m) * i.size := by rw [List.length_append, hown.1, hl, Nat.add_mul]
  have grown : ∀ (old : Nat), old < n + m → ∀ (row : Option Nat),
      (w.drew.alloc (.cells ((xs ++ news).toArray ++ Builtin.zeroCells z.cells (grownCap w (n + m) old e - (n + m))) e)).ownsRow base e i.size
        (.slice (some ⟨w.heap.size, 0, none⟩) (n + m) (grownCap w (n + m) old e)) (n + m) (xs ++ news) ∧
      w.grownBy (w.drew.alloc (.cells ((xs ++ news).toArray ++ Builtin.zeroCells z.cells (grownCap w (n + m) old e - (n + m))) e)) row := by
    intro old ho row
    have hge := grownCap_ge w (n + m) old e
    have hcm : grownCap w (n + m) old e ≤ maxLen := grownCap_le_maxLen w (n + m) old e h63
    refine ⟨⟨hlen, .inr ⟨w.heap.size, _, _, rfl, hbase, heap_alloc_new w.drew _, hge, hcm, ?_, ?_⟩⟩, ⟨rfl, rfl, rfl, by simp, fun k hk _ => heap_alloc_old w.drew _ hk⟩⟩
    · rw [Array.size_append, List.size_toArray, size_zeroCells, hzs, hlen, ← Nat.add_mul]
      congr 1
      omega
    · rw [Array.toList_append, ← hlen]
      exact List.take_left
  rcases hown.2 with ⟨rfl, rfl⟩ | ⟨g, cap, cur, rfl, hbg, hg, hnc, hcm, hcs, htake⟩
  · have hx : xs = [] := List.eq_nil_of_length_eq_zero (by simpa using hown.1)
    subst hx
    by_cases hm : m = 0
    · subst hm
      have hn : news = [] := List.eq_nil_of_length_eq_zero (by simpa using hl)
      subst hn
      refine ⟨.slice none 0 0, w, ?_, World.ownsRow_nil w base e i.size, ⟨rfl, rfl, rfl, Nat.le_refl _, fun _ _ _ => rfl⟩, .inl rfl⟩
      rcases hs.kind with ⟨e', hk⟩ | hk <;> simp [Builtin.append_, run_underlying ht, run_underlying hk, Go.sizeOf, typeInfo, hi, hs.len, hs.cells]
    · have hold : (Builtin.firstCells i.size 0 (.slice none 0 0)).run P w.drew = .ok ([] : List Value).toArray w.drew := run_firstCells_none w.drew i.size 0 0 0
      have hr := run_append_grow_src w t tx ty e i z ht hi hz none 0 0 [] hold x m news hs (by omega) (by omega) (growslice_fits (by omega) hbytes)
      have hgr := grown 0 (by omega) (Value.ownBlock (.slice none 0 0))
      exact ⟨_, _, hr, hgr.1, hgr.2, .inr rfl⟩
  · by_cases hroom : n + m ≤ cap
    · have hfit : n * i.size + news.length ≤ cur.size := by rw [hl, hcs, ← Nat.add_mul]; exact Nat.mul_le_mul_right _ hroom
      have hst := run_storeCells_at P g (n * i.size) e news 0 cur w hg (by simpa using hfit) hs.one
      simp only [Nat.add_zero] at hst
      have hr : (Builtin.append_ #[t, tx] ty #[.slice (some ⟨g, 0, none⟩) n cap, x]).run P w =
          .ok (.slice (some ⟨g, 0, none⟩) (n + m) cap) (w.setRow g (cur.toList.take (n * i.size) ++ news ++ cur.toList.drop (n * i.size + news.length)).toArray) := by
        rcases hs.kind with ⟨e', hk⟩ | hk <;> simp [Builtin.append_, run_underlying ht, run_underlying hk, Go.sizeOf, typeInfo, hi, hs.len, hroom, hs.cells, Addr.add_lit, hst]
      refine ⟨_, _, hr, ⟨hlen, .inr ⟨g, cap, _, rfl, hbg, setRow_heap w g cur _ e _ hg, hroom, hcm, ?_, ?_⟩⟩, ⟨rfl, rfl, rfl, by simp, fun k _ hk => setRow_other w g k _ (fun e => hk (by simp [Value.ownBlock, e]))⟩, .inl rfl⟩
      · simp only [List.size_toArray, List.length_append, List.length_take, List.length_drop, Array.length_toList]
        omega
      · rw [htake, ← hlen]
        exact List.take_left
    · have holds : ∀ j u, xs[j]? = some u → w.cell? ((⟨g, 0, none⟩ : Addr).add j) = some u := hown.cells (g := g) rfl
      have hold : (Builtin.firstCells i.size n (.slice (some ⟨g, 0, none⟩) n cap)).run P w.drew = .ok xs.toArray w.drew := run_firstCells_some w.drew i.size n ⟨g, 0, none⟩ n cap xs hown.1 (by simpa using holds)
      have hr := run_append_grow_src w t tx ty e i z ht hi hz (some ⟨g, 0, none⟩) n cap xs hold x m news hs (by omega) (by omega) (growslice_fits (by omega) hbytes)
      have hgr := grown cap (by omega) (Value.ownBlock (.slice (some ⟨g, 0, none⟩) n cap))
      exact ⟨_, _, hr, hgr.1, hgr.2, .inr rfl⟩

/-- 'append(s, x...)' at an operation that is wanted. -/
theorem wpList_appAt {P : Program} (w : World) {ops : Array Oper} {rest : List Oper} {o : Oper} {a : Act} {Q : Exit → Act → World → Prop} {t e : TypeId} {z : Value} {size bytes : Nat} (he : ElemOf P t e z size bytes)
    (hg : Region.wanted o (yielded ops a.tmps) = true) (s x : Operand) (tx : TypeId) (hop : o.op = Op.call { callee := Callee.builtin Builtin.append, args := #[s, x], argTypes := #[t, tx] }) (base : Nat)
    (v : Value) (k : Nat) (xs : List Value) (hs : a.eval s = v) (hown : w.ownsRow base e size v k xs) (X : Value) (m : Nat) (news : List Value) (hx : a.eval x = X) (hsrc : Src P size tx X m news w)
    (b1 : k + m ≤ maxLen) (b2 : (k + m) * bytes ≤ 140737488355328) (b3 : base ≤ w.heap.size)
    (hK : ∀ v' w', w'.ownsRow base e size v' (k + m) (xs ++ news) → w.grownBy w' v.ownBlock → (v'.ownBlock = v.ownBlock ∨ v'.ownBlock = some w.heap.size) → wpList P ops Q rest (a.put o.dst v') w') :
    wpList P ops Q (o :: rest) a w := by
  unfold wpList
  rw [if_pos hg]
  left
  obtain ⟨v', w', hrun, r1, r2, r3⟩ := run_append_src_at w he tx o.type base v k xs hown X m news hsrc b1 b2 b3
  unfold Oper.wp
  simp [execOp, hop, resolve, invoke, builtin, hs, hx, hrun, Result.andThen]
  exact hK v' w' r1 r2 r3
end Fm

/- A struct of so many fields in a box of the call's own. No program is imported. -/
namespace Fm
open Go Go.RowKit

structure BoxL (w : World) (b : Nat) (vs : List Value) : Prop where
  lt : b < w.heap.size
  cell : ∀ j u, vs[j]? = some u → w.cell? ⟨b, j, none⟩ = some u
  free : ∀ j, w.frozen? ⟨b, j, none⟩ = false
theorem BoxL.new (w : World) (vs : List Value) (e : TypeId) : BoxL (w.alloc (.cells vs.toArray e)) w.heap.size vs := by
  refine ⟨by simp, fun j u h => ?_, fun j => ?_⟩
  · have := heap_alloc_new w (.cells vs.toArray e)
    simp only [World.cell?, this]
    simpa using h
  · have := heap_alloc_new w (.cells vs.toArray e)
    simp only [World.frozen?, this]
    simp
theorem BoxL.ext {w w' : World} {b : Nat} {vs : List Value} (h : BoxL w b vs) (hE : Ext w w') : BoxL w' b vs :=
  ⟨Nat.lt_of_lt_of_le h.lt hE.size, fun j u hu => (hE.cell (p := ⟨b, j, none⟩) h.lt).trans (h.cell j u hu), fun j => (hE.frozen (p := ⟨b, j, none⟩) h.lt).trans (h.free j)⟩
/-- What is written elsewhere leaves it. -/
theorem BoxL.kept {w w' : World} {b : Nat} {vs : List Value} {row : Option Nat} (h : BoxL w b vs) (hg : w.grownBy w' row) (hr : row ≠ some b) : BoxL w' b vs :=
  ⟨Nat.lt_of_lt_of_le h.lt hg.size, fun j u hu => (hg.cell_far ⟨b, j, none⟩ h.lt (fun e => hr e.symm)).trans (h.cell j u hu), fun j => (hg.frozen_far ⟨b, j, none⟩ h.lt (fun e => hr e.symm)).trans (h.free j)⟩
/-- One field is written. -/
theorem BoxL.set {w : World} {b : Nat} {vs : List Value} (h : BoxL w b vs) (j : Nat) (hj : j < vs.length) (u : Value) : BoxL (w.setCell ⟨b, j, none⟩ u) b (vs.set j u) := by
  refine ⟨by simp [h.lt], fun i x hx => ?_, fun i => by rw [World.frozen?_setCell]; exact h.free i⟩
  by_cases hij : i = j
  · subst hij
    rw [List.getElem?_set_self hj] at hx
    injection hx with hx
    subst hx
    exact World.cell?_setCell_same _ _ _ (h.cell i _ (List.getElem?_eq_getElem hj))
  · rw [List.getElem?_set_ne (by omega)] at hx
    exact (World.cell?_setCell_other w _ _ u (fun e => by injection e with _ e _; omega)).trans (h.cell i x hx)
end Fm
