/- Operations: plain facts: which are right, their bytes, what is read. No program is imported. -/
import Derived.WalkKit
import Derived.WalkSmall
import Derived.Deep.QuietTactic
import Derived.Deep.AppendSrc
import Derived.OwnWalkIn
import Derived.Lib.Strings
import Derived.Deep.AppendLies
import Derived.Lib.ItoaNum
import Derived.Lib.SlTrimSet
import Derived.Lib.AtoiAll
import Derived.Lib.IndexMore
namespace Fm
/-- twice n, or twice -n less 1 -/
def zig (n : Int) : Nat := if 0 ≤ n then (2 * n).toNat else (-2 * n - 1).toNat
def unzig (u : Nat) : Int := if u % 2 = 0 then ((u / 2 : Nat) : Int) else -((u / 2 : Nat) : Int) - 1
def isI64 (n : Int) : Prop := -9223372036854775808 ≤ n ∧ n ≤ 9223372036854775807
theorem zig_lt {n : Int} (h : isI64 n) : zig n < 18446744073709551616 := by
  unfold zig isI64 at *; split <;> omega
theorem unzig_zig (n : Int) : unzig (zig n) = n := by
  unfold zig unzig; split <;> split <;> omega
def grpN : Nat → Nat → List UInt8
  | 0, _ => []
  | k + 1, u => if u < 128 then [UInt8.ofNat u] else UInt8.ofNat (u % 128 + 128) :: grpN k (u / 128)
def grp (u : Nat) : List UInt8 := grpN 10 u
def numB (n : Int) : List UInt8 := grp (zig n)
def textB (s : List UInt8) : List UInt8 := numB s.length ++ s

def takeG : Nat → Nat → List UInt8 → Option (Nat × Nat)
  | _, _, [] => none
  | i, u, x :: r =>
    if 10 ≤ i then none
    else if (i = 9 ∧ 1 < x.toNat % 128) ∨ (x.toNat = 0 ∧ 0 < i) then none
    else if x.toNat < 128 then some (u + x.toNat % 128 * 128 ^ i, i + 1)
    else takeG (i + 1) (u + x.toNat % 128 * 128 ^ i) r
def takeN (xs : List UInt8) : Option (Int × Nat) := (takeG 0 0 xs).map fun p => (unzig p.1, p.2)

theorem toNat_ofNat_lt {n : Nat} (h : n < 256) : (UInt8.ofNat n).toNat = n := by
  simp; omega

theorem pow_succ_128 (i : Nat) : 128 ^ (i + 1) = 128 ^ i * 128 := Nat.pow_succ ..

theorem le9 {i v : Nat} (hv : 0 < v) (h : v * 128 ^ i < 18446744073709551616) : i ≤ 9 := by
  by_cases hi : i ≤ 9
  · exact hi
  · exfalso
    have h1 : 128 ^ 10 ≤ 128 ^ i := Nat.pow_le_pow_right (by omega) (by omega)
    have h2 : 128 ^ i ≤ v * 128 ^ i := Nat.le_mul_of_pos_left _ hv
    have h3 : (128 : Nat) ^ 10 = 1180591620717411303424 := by decide
    omega

theorem step_eq (u v i : Nat) : u + v % 128 * 128 ^ i + v / 128 * 128 ^ (i + 1) = u + v * 128 ^ i := by
  have h := Nat.div_add_mod v 128
  rw [pow_succ_128, Nat.add_assoc, ← Nat.mul_assoc, Nat.mul_right_comm, ← Nat.add_mul]
  congr 2; omega

theorem takeG_grp (k : Nat) : ∀ (i u v : Nat) (r : List UInt8), i + k = 10 → v * 128 ^ i < 18446744073709551616 → (i = 0 ∨ 0 < v) →
    takeG i u (grpN k v ++ r) = some (u + v * 128 ^ i, i + (grpN k v).length) := by
  induction k with
  | zero =>
    intro i u v r hi hv h0
    have := le9 (i := i) (v := v) (by omega) hv
    omega
  | succ k ih =>
    intro i u v r hi hv h0
    unfold grpN
    by_cases h : v < 128
    · rw [if_pos h]
      simp only [List.cons_append, List.nil_append, takeG]
      rw [toNat_ofNat_lt (by omega), if_neg (by omega), if_neg ?_, if_pos h, Nat.mod_eq_of_lt h]
      · simp
      · rintro (⟨rfl, h1⟩ | ⟨h1, h2⟩)
        · rw [Nat.mod_eq_of_lt h] at h1
          have : (128 : Nat) ^ 9 = 9223372036854775808 := by decide
          rw [this] at hv; omega
        · omega
    · rw [if_neg h]
      simp only [List.cons_append, takeG]
      have hi8 : i + 1 ≤ 9 := by
        refine le9 (v := v / 128) (by omega) ?_
        have := step_eq 0 v i
        omega
      have hx : (UInt8.ofNat (v % 128 + 128)).toNat = v % 128 + 128 := toNat_ofNat_lt (by omega)
      rw [hx, if_neg (by omega), if_neg (by omega), if_neg (by omega)]
      have e : (v % 128 + 128) % 128 = v % 128 := by omega
      rw [e, ih (i + 1) _ (v / 128) r (by omega) (by have := step_eq 0 v i; omega) (by omega), step_eq]
      simp; omega

theorem takeN_num {n : Int} (h : isI64 n) (r : List UInt8) : takeN (numB n ++ r) = some (n, (numB n).length) := by
  unfold takeN numB grp
  rw [takeG_grp 10 0 0 (zig n) r rfl (by simpa using zig_lt h) (.inl rfl)]
  simp [unzig_zig]
end Fm
namespace Fm
/-- A text's bytes at the head: how many bytes its number has, and it. -/
def takeT (xs : List UInt8) (top : Int) : Option (Nat × Nat) :=
  match takeN xs with
  | none => none
  | some (n, k) => if n < 0 ∨ top < n ∨ ((xs.length - k : Nat) : Int) < n then none else some (k, n.toNat)
theorem takeT_some {xs : List UInt8} {n top : Int} {k : Nat} (h : takeN xs = some (n, k)) (hb : ¬ (n < 0 ∨ top < n ∨ ((xs.length - k : Nat) : Int) < n)) : takeT xs top = some (k, n.toNat) := by
  unfold takeT; rw [h]; exact if_neg hb
end Fm

/- Plain facts on worlds: a slice that holds bytes; worlds that only grow. No program is imported. -/
namespace Fm
open Go Go.RowKit

/-- The world has grown: what lay in it lies as it lay. -/
def Ext (w w' : World) : Prop := Below w.heap.size w w'
theorem Ext.refl (w : World) : Ext w w := Below.refl _ _
theorem Ext.trans {a b c : World} (h : Ext a b) (k : Ext b c) : Ext a c := Below.trans h (Below.mono k h.size)
theorem Ext.then {w a b : World} (h : Ext w a) (k : Below w.heap.size a b) : Ext w b := Below.trans h k
theorem Ext.drewN {a b : World} (h : Ext a b) (n : Nat) : Ext a (b.drewN n) := below_drewN h n
theorem Ext.drew {a b : World} (h : Ext a b) : Ext a b.drew := Below.drew h
theorem Ext.alloc {a b : World} (h : Ext a b) (o : Obj) : Ext a (b.alloc o) := Below.alloc h h.size o
theorem Ext.setCell {a b : World} (h : Ext a b) {p : Addr} (hp : a.heap.size ≤ p.block) (u : Value) : Ext a (b.setCell p u) := Below.setCell h hp u
theorem Ext.grown {a b c : World} {row : Option Nat} (h : Ext a b) (hg : b.grownBy c row) (hr : ∀ k, row = some k → a.heap.size ≤ k) : Ext a c := Below.grown h hg h.size hr
theorem Ext.cell {w w' : World} (h : Ext w w') {p : Addr} (hp : p.block < w.heap.size) : w'.cell? p = w.cell? p := Below.cell h hp
theorem Ext.frozen {w w' : World} (h : Ext w w') {p : Addr} (hp : p.block < w.heap.size) : w'.frozen? p = w.frozen? p := Below.frozen h hp
theorem Ext.size {w w' : World} (h : Ext w w') : w.heap.size ≤ w'.heap.size := Below.size h
theorem Ext.grownBy {w w' : World} (h : Ext w w') : w.grownBy w' none := ⟨h.os, h.tape, h.output, h.size, fun k hk _ => h.block k hk⟩
theorem Ext.own {w w' : World} (h : Ext w w') {base e size n : Nat} {v : Value} {xs : List Value} (ho : w.ownsRow base e size v n xs) : w'.ownsRow base e size v n xs :=
  ho.kept h.grownBy (by cases hv : v.ownBlock <;> simp)

/-- A byte in its cell. -/
def bv (x : UInt8) : Value := .int .u8 (x.toNat : Int)

/-- The slice v holds the bytes xs. -/
def Bytes (w : World) (v : Value) (xs : List UInt8) : Prop :=
  ∃ a cap, v = .slice a xs.length cap ∧ xs.length ≤ cap ∧ cap ≤ maxLen ∧ (a = none → cap = 0) ∧
    ∀ ad, a = some ad → 0 < cap → ad.spot = none ∧ ad.block < w.heap.size ∧ ∀ j, j < xs.length → w.cell? ⟨ad.block, ad.off + j, none⟩ = some (bv (xs[j]?.getD 0))

theorem Bytes.ext {w w' : World} {v : Value} {xs : List UInt8} (h : Bytes w v xs) (hx : Ext w w') : Bytes w' v xs := by
  obtain ⟨a, cap, hv, h1, h2, h3, h4⟩ := h
  refine ⟨a, cap, hv, h1, h2, h3, fun ad had h0 => ?_⟩
  obtain ⟨s, hb, hc⟩ := h4 ad had h0
  exact ⟨s, Nat.lt_of_lt_of_le hb hx.size, fun j hj => (hx.cell (p := ⟨ad.block, ad.off + j, none⟩) hb).trans (hc j hj)⟩

theorem Bytes.void (w : World) (a : Option Addr) : Bytes w (.slice a 0 0) [] := ⟨a, 0, rfl, by simp, by simp, fun _ => rfl, fun _ _ h => by omega⟩
theorem Bytes.nil (w : World) : Bytes w (.slice none 0 0) [] := Bytes.void w _

/-- It has no room, and is nothing; or it begins in a cell. -/
theorem Bytes.parts {w : World} {v : Value} {xs : List UInt8} (h : Bytes w v xs) :
    (∃ a, v = .slice a 0 0 ∧ xs = []) ∨
    ∃ b off cap, v = .slice (some ⟨b, off, none⟩) xs.length cap ∧ xs.length ≤ cap ∧ cap ≤ maxLen ∧ b < w.heap.size ∧
      ∀ j, j < xs.length → w.cell? ⟨b, off + j, none⟩ = some (bv (xs[j]?.getD 0)) := by
  obtain ⟨a, cap, hv, h1, h2, h3, h4⟩ := h
  rcases Nat.eq_zero_or_pos cap with h0 | h0
  · have : xs = [] := List.eq_nil_of_length_eq_zero (by omega)
    subst this h0
    exact .inl ⟨a, hv, rfl⟩
  · cases a with
    | none => have := h3 rfl; omega
    | some ad =>
      obtain ⟨b, off, spot⟩ := ad
      obtain ⟨hs, hb, hc⟩ := h4 _ rfl h0
      simp only at hs
      subst hs
      exact .inr ⟨b, off, cap, hv, h1, h2, hb, hc⟩

theorem Bytes.mk {w : World} {b off cap n : Nat} {xs : List UInt8} (hn : n = xs.length) (h1 : xs.length ≤ cap) (h2 : cap ≤ maxLen) (hb : b < w.heap.size)
    (hc : ∀ j, j < xs.length → w.cell? ⟨b, off + j, none⟩ = some (bv (xs[j]?.getD 0))) : Bytes w (.slice (some ⟨b, off, none⟩) n cap) xs := by
  subst hn
  exact ⟨_, cap, rfl, h1, h2, fun h => (by cases h), fun ad had _ => by cases had; exact ⟨rfl, hb, hc⟩⟩

/-- What is behind the first k. -/
def dropV : Value → Nat → Value
  | .slice a n c, k => .slice (if c = k then a else a.map (·.add k)) (n - k) (c - k)
  | v, _ => v
/-- The first k. -/
def takeV : Value → Nat → Value
  | .slice a _ c, k => .slice a k c
  | v, _ => v

theorem Bytes.drop {w : World} {v : Value} {xs : List UInt8} (h : Bytes w v xs) {k : Nat} (hk : k ≤ xs.length) : Bytes w (dropV v k) (xs.drop k) := by
  rcases h.parts with ⟨a, rfl, rfl⟩ | ⟨b, off, cap, rfl, h1, h2, hb, hc⟩
  · simp at hk; subst hk; exact Bytes.void w a
  · simp only [dropV]
    by_cases hck : cap = k
    · rw [if_pos hck]
      have : xs.length = k := by omega
      refine Bytes.mk (by simp) (by simp; omega) (by omega) hb (fun j hj => ?_)
      simp at hj; omega
    · rw [if_neg hck]
      simp only [Option.map_some, Addr.add_lit]
      refine Bytes.mk (by simp) (by simp; omega) (by omega) hb (fun j hj => ?_)
      simp at hj
      rw [Nat.add_assoc, hc (k + j) (by omega)]
      simp
theorem Bytes.take {w : World} {v : Value} {xs : List UInt8} (h : Bytes w v xs) {k : Nat} (hk : k ≤ xs.length) : Bytes w (takeV v k) (xs.take k) := by
  rcases h.parts with ⟨a, rfl, rfl⟩ | ⟨b, off, cap, rfl, h1, h2, hb, hc⟩
  · simp at hk; subst hk; exact Bytes.void w a
  · simp only [takeV]
    refine Bytes.mk (by simp; omega) (by simp; omega) h2 hb (fun j hj => ?_)
    simp at hj
    rw [hc j (by omega), List.getElem?_take, if_pos (by omega)]

/-- A row that the call owns holds its bytes. -/
theorem Bytes.of_own {w : World} {base e : Nat} {v : Value} {n : Nat} {xs : List UInt8} (h : w.ownsRow base e 1 v n (xs.map bv)) : Bytes w v xs := by
  have hn : n = xs.length := by have := h.1; simp at this; exact this.symm
  have hcells := fun g => World.ownsRow.cells h (g := g)
  rcases h.2 with ⟨rfl, h0⟩ | ⟨g, cap, cur, rfl, hb, hg, h1, h2, h3, h4⟩
  · have : xs = [] := List.eq_nil_of_length_eq_zero (by omega)
    subst this; exact Bytes.nil w
  · refine Bytes.mk hn (by omega) h2 (Array.getElem?_eq_some_iff.1 hg).1 (fun j hj => ?_)
    have := hcells g rfl j (bv xs[j]) (by simp [hj])
    rw [Addr.add_lit] at this
    rw [this]; simp [hj]

/-! ### append onto a row that the call owns, whatever is appended -/

/-- The table's row of a slice type's element. -/
structure ElemOf (P : Program) (t e : TypeId) (z : Value) (size bytes : Nat) : Prop where
  ht : P.underlying t = some (.slice e)
  info : (P.info? e).map (fun i => (i.zero, i.size, i.bytes)) = some (some z, size, bytes)
  hz : z.cells.size = size
  pos : 0 < size

/-- A slice of bytes as what is appended. -/
theorem Src.bytes {P : Program} {tx e' : TypeId} (hk : P.underlying tx = some (.slice e')) {w : World} {v : Value} {xs : List UInt8} (h : Bytes w v xs) : Src P 1 tx v xs.length (xs.map bv) w := by
  rcases h.parts with ⟨a, rfl, rfl⟩ | ⟨b, off, cap, rfl, _, _, _, hc⟩
  · cases a with
    | none => exact Src.ofNil w hk 0
    | some ad => exact Src.ofSlice w hk ad 0 0 [] rfl (fun _ _ h => by cases h) (fun _ h => by cases h)
  · refine Src.ofSlice w hk _ _ _ _ (by simp) (fun j u hu => ?_) (fun u hu => by obtain ⟨x, _, rfl⟩ := List.mem_map.1 hu; rfl)
    have hj : j < xs.length := by have := (List.getElem?_eq_some_iff.1 hu).1; simpa using this
    rw [Addr.add_lit, hc j hj]
    rw [List.getElem?_map] at hu
    simp [hj] at hu ⊢
    exact hu
theorem Src.string {P : Program} {tx : TypeId} (hk : P.underlying tx = some .string) (w : World) (s : ByteArray) : Src P 1 tx (.string s) s.data.toList.length (s.data.toList.map bv) w := by
  have := Src.ofString (P := P) w hk s
  have e : s.data.toList.length = s.size := by rw [Array.length_toList]; rfl
  rw [e]
  exact this

/-- A text of these bytes. -/
def str (xs : List UInt8) : ByteArray := ⟨xs.toArray⟩
theorem str_size (xs : List UInt8) : (str xs).size = xs.length := by simp [str, ByteArray.size]
theorem str_list (xs : List UInt8) : (str xs).data.toList = xs := by simp [str]
theorem str_toList (xs : List UInt8) : (str xs).toList = xs := by rw [Lib.toList_data, str_list]
end Fm

/- append at a guarded operation; small facts for the laws. No program is imported. -/
namespace Fm
open Go Go.RowKit

end Fm

/- append onto a row of one's own, and where the new row lies. No program is imported. -/
namespace Fm
open Go Go.RowKit

theorem run_append_src_at {P : Program} (w : World) {t e : TypeId} {z : Value} {size bytes : Nat} (he : ElemOf P t e z size bytes) (tx ty : TypeId) (base : Nat)
    (v : Value) (n : Nat) (xs : List Value) (hown : w.ownsRow base e size v n xs) (x : Value) (m : Nat) (news : List Value) (hs : Src P size tx x m news w)
    (h63 : n + m ≤ maxLen) (hbytes : (n + m) * bytes ≤ 140737488355328) (hbase : base ≤ w.heap.size) :
    ∃ v' w', (Builtin.append_ #[t, tx] ty #[v, x]).run P w = .ok v' w' ∧ w'.ownsRow base e size v' (n + m) (xs ++ news) ∧ w.grownBy w' v.ownBlock ∧
      (v'.ownBlock = v.ownBlock ∨ v'.ownBlock = some w.heap.size) := by
  obtain ⟨ht, hinfo, hzs, hsz⟩ := he
  obtain ⟨i, hi, hz, hsize, hby⟩ := info_parts hinfo
  subst hsize
  subst hby
  have hl := hs.newsLen
  have hsmall : n + m ≤ 9223372036854775807 := by simp only [maxLen] at h63; omega
  have hlen : (xs ++ news).length = (n + m) * i.size := by rw [List.length_append, hown.1, hl, Nat.add_mul]
  have grown : ∀ (old : Nat), old < n + m → ∀ (row : Option Nat),
      (w.drew.alloc (.cells ((xs ++ news).toArray ++ Builtin.zeroCells z.cells (grownCap w (n + m) old e - (n + m))) e)).ownsRow base e i.size
        (.slice (some ⟨w.heap.size, 0, none⟩) (n + m) (grownCap w (n + m) old e)) (n + m) (xs ++ news) ∧
      w.grownBy (w.drew.alloc (.cells ((xs ++ news).toArray ++ Builtin.zeroCells z.cells (grownCap w (n + m) old e - (n + m))) e)) row := by
    intro old ho row
    have hge := grownCap_ge w (n + m) old e
    have hcm : grownCap w (n + m) old e ≤ maxLen := grownCap_le_maxLen w (n + m) old e h63
    refine ⟨⟨hlen, .inr ⟨w.heap.size, _, _, rfl, hbase, heap_alloc_new w.drew _, hge, hcm, ?_, ?_⟩⟩, ⟨rfl, rfl, rfl, by simp, fun k hk _ => heap_alloc_old w.drew _ hk⟩⟩
    · rw [Array.size_append, List.size_toArray, size_zeroCells, hzs, hlen, ← Nat.add_mul]
      congr 1
      omega
    · rw [Array.toList_append, ← hlen]
      exact List.take_left
  rcases hown.2 with ⟨rfl, rfl⟩ | ⟨g, cap, cur, rfl, hbg, hg, hnc, hcm, hcs, htake⟩
  · have hx : xs = [] := List.eq_nil_of_length_eq_zero (by simpa using hown.1)
    subst hx
    by_cases hm : m = 0
    · subst hm
      have hn : news = [] := List.eq_nil_of_length_eq_zero (by simpa using hl)
      subst hn
      refine ⟨.slice none 0 0, w, ?_, World.ownsRow_nil w base e i.size, ⟨rfl, rfl, rfl, Nat.le_refl _, fun _ _ _ => rfl⟩, .inl rfl⟩
      rcases hs.kind with ⟨e', hk⟩ | hk <;> simp [Builtin.append_, run_underlying ht, run_underlying hk, Go.sizeOf, typeInfo, hi, hs.len, hs.cells]
    · have hold : (Builtin.firstCells i.size 0 (.slice none 0 0)).run P w.drew = .ok ([] : List Value).toArray w.drew := run_firstCells_none w.drew i.size 0 0 0
      have hr := run_append_grow_src w t tx ty e i z ht hi hz none 0 0 [] hold x m news hs (by omega) (by omega) (growslice_fits (by omega) hbytes)
      have hgr := grown 0 (by omega) (Value.ownBlock (.slice none 0 0))
      exact ⟨_, _, hr, hgr.1, hgr.2, .inr rfl⟩
  · by_cases hroom : n + m ≤ cap
    · have hfit : n * i.size + news.length ≤ cur.size := by rw [hl, hcs, ← Nat.add_mul]; exact Nat.mul_le_mul_right _ hroom
      have hst := run_storeCells_at P g (n * i.size) e news 0 cur w hg (by simpa using hfit) hs.one
      simp only [Nat.add_zero] at hst
      have hr : (Builtin.append_ #[t, tx] ty #[.slice (some ⟨g, 0, none⟩) n cap, x]).run P w =
          .ok (.slice (some ⟨g, 0, none⟩) (n + m) cap) (w.setRow g (cur.toList.take (n * i.size) ++ news ++ cur.toList.drop (n * i.size + news.length)).toArray) := by
        rcases hs.kind with ⟨e', hk⟩ | hk <;> simp [Builtin.append_, run_underlying ht, run_underlying hk, Go.sizeOf, typeInfo, hi, hs.len, hroom, hs.cells, Addr.add_lit, hst]
      refine ⟨_, _, hr, ⟨hlen, .inr ⟨g, cap, _, rfl, hbg, setRow_heap w g cur _ e _ hg, hroom, hcm, ?_, ?_⟩⟩, ⟨rfl, rfl, rfl, by simp, fun k _ hk => setRow_other w g k _ (fun e => hk (by simp [Value.ownBlock, e]))⟩, .inl rfl⟩
      · simp only [List.size_toArray, List.length_append, List.length_take, List.length_drop, Array.length_toList]
        omega
      · rw [htake, ← hlen]
        exact List.take_left
    · have holds : ∀ j u, xs[j]? = some u → w.cell? ((⟨g, 0, none⟩ : Addr).add j) = some u := hown.cells (g := g) rfl
      have hold : (Builtin.firstCells i.size n (.slice (some ⟨g, 0, none⟩) n cap)).run P w.drew = .ok xs.toArray w.drew := run_firstCells_some w.drew i.size n ⟨g, 0, none⟩ n cap xs hown.1 (by simpa using holds)
      have hr := run_append_grow_src w t tx ty e i z ht hi hz (some ⟨g, 0, none⟩) n cap xs hold x m news hs (by omega) (by omega) (growslice_fits (by omega) hbytes)
      have hgr := grown cap (by omega) (Value.ownBlock (.slice (some ⟨g, 0, none⟩) n cap))
      exact ⟨_, _, hr, hgr.1, hgr.2, .inr rfl⟩

/-- 'append(s, x...)' at an operation that is wanted. -/
theorem wpList_appAt {P : Program} (w : World) {ops : Array Oper} {rest : List Oper} {o : Oper} {a : Act} {Q : Exit → Act → World → Prop} {t e : TypeId} {z : Value} {size bytes : Nat} (he : ElemOf P t e z size bytes)
    (hg : Region.wanted o (yielded ops a.tmps) = true) (s x : Operand) (tx : TypeId) (hop : o.op = Op.call { callee := Callee.builtin Builtin.append, args := #[s, x], argTypes := #[t, tx] }) (base : Nat)
    (v : Value) (k : Nat) (xs : List Value) (hs : a.eval s = v) (hown : w.ownsRow base e size v k xs) (X : Value) (m : Nat) (news : List Value) (hx : a.eval x = X) (hsrc : Src P size tx X m news w)
    (b1 : k + m ≤ maxLen) (b2 : (k + m) * bytes ≤ 140737488355328) (b3 : base ≤ w.heap.size)
    (hK : ∀ v' w', w'.ownsRow base e size v' (k + m) (xs ++ news) → w.grownBy w' v.ownBlock → (v'.ownBlock = v.ownBlock ∨ v'.ownBlock = some w.heap.size) → wpList P ops Q rest (a.put o.dst v') w') :
    wpList P ops Q (o :: rest) a w := by
  unfold wpList
  rw [if_pos hg]
  left
  obtain ⟨v', w', hrun, r1, r2, r3⟩ := run_append_src_at w he tx o.type base v k xs hown X m news hsrc b1 b2 b3
  unfold Oper.wp
  simp [execOp, hop, resolve, invoke, builtin, hs, hx, hrun, Result.andThen]
  exact hK v' w' r1 r2 r3
end Fm

/- A struct of so many fields in a box of the call's own. No program is imported. -/
namespace Fm
open Go Go.RowKit

structure BoxL (w : World) (b : Nat) (vs : List Value) : Prop where
  lt : b < w.heap.size
  cell : ∀ j u, vs[j]? = some u → w.cell? ⟨b, j, none⟩ = some u
  free : ∀ j, w.frozen? ⟨b, j, none⟩ = false
theorem BoxL.new (w : World) (vs : List Value) (e : TypeId) : BoxL (w.alloc (.cells vs.toArray e)) w.heap.size vs := by
  refine ⟨by simp, fun j u h => ?_, fun j => ?_⟩
  · have := heap_alloc_new w (.cells vs.toArray e)
    simp only [World.cell?, this]
    simpa using h
  · have := heap_alloc_new w (.cells vs.toArray e)
    simp only [World.frozen?, this]
    simp
theorem BoxL.ext {w w' : World} {b : Nat} {vs : List Value} (h : BoxL w b vs) (hE : Ext w w') : BoxL w' b vs :=
  ⟨Nat.lt_of_lt_of_le h.lt hE.size, fun j u hu => (hE.cell (p := ⟨b, j, none⟩) h.lt).trans (h.cell j u hu), fun j => (hE.frozen (p := ⟨b, j, none⟩) h.lt).trans (h.free j)⟩
/-- What is written elsewhere leaves it. -/
theorem BoxL.kept {w w' : World} {b : Nat} {vs : List Value} {row : Option Nat} (h : BoxL w b vs) (hg : w.grownBy w' row) (hr : row ≠ some b) : BoxL w' b vs :=
  ⟨Nat.lt_of_lt_of_le h.lt hg.size, fun j u hu => (hg.cell_far ⟨b, j, none⟩ h.lt (fun e => hr e.symm)).trans (h.cell j u hu), fun j => (hg.frozen_far ⟨b, j, none⟩ h.lt (fun e => hr e.symm)).trans (h.free j)⟩
/-- One field is written. -/
theorem BoxL.set {w : World} {b : Nat} {vs : List Value} (h : BoxL w b vs) (j : Nat) (hj : j < vs.length) (u : Value) : BoxL (w.setCell ⟨b, j, none⟩ u) b (vs.set j u) := by
  refine ⟨by simp [h.lt], fun i x hx => ?_, fun i => by rw [World.frozen?_setCell]; exact h.free i⟩
  by_cases hij : i = j
  · subst hij
    rw [List.getElem?_set_self hj] at hx
    injection hx with hx
    subst hx
    exact World.cell?_setCell_same _ _ _ (h.cell i _ (List.getElem?_eq_getElem hj))
  · rw [List.getElem?_set_ne (by omega)] at hx
    exact (World.cell?_setCell_other w _ _ u (fun e => by injection e with _ e _; omega)).trans (h.cell i x hx)
end Fm

namespace Fm
open Go Go.RowKit

/-- A value: its kind, number, text, list. -/
inductive Tr where
  | node (k : UInt8) (n : Int) (s : List UInt8) (l : List Tr)

theorem Tr.ind {M : Tr → Prop} (h : ∀ k n s l, (∀ t, t ∈ l → M t) → M (.node k n s l)) : ∀ t, M t := by
  intro t
  refine Tr.rec (motive_1 := M) (motive_2 := fun l => ∀ t, t ∈ l → M t) ?_ ?_ ?_ t
  · intro k n s l ih; exact h k n s l ih
  · intro t ht; cases ht
  · intro a l iha ihl t ht
    cases ht with
    | head => exact iha
    | tail _ hm => exact ihl t hm

inductive Lies (w : World) : Tr → Value → Prop where
  | node (k : UInt8) (n : Int) (s : List UInt8) (l : List Tr) (a : Option Addr) (cap : Nat) (C : Nat → Nat → Value) (hn : isI64 n) (hs : s.length ≤ 9223372036854775807)
      (h1 : l.length ≤ cap) (h2 : cap ≤ maxLen) (h3 : a = none → cap = 0)
      (h4 : 0 < l.length → ∃ b off, a = some ⟨b, off, none⟩ ∧ b < w.heap.size ∧ ∀ i j, i < l.length → j < 4 → w.cell? ⟨b, off + (i * 4 + j), none⟩ = some (C i j))
      (h5 : ∀ (i : Nat) (hi : i < l.length), Lies w l[i] (.agg #[C i 0, C i 1, C i 2, C i 3])) :
      Lies w (.node k n s l) (.agg #[.int .u8 (k.toNat : Int), .int .i64 n, .string (str s), .slice a l.length cap])

theorem Lies.ext {w w' : World} (hx : Ext w w') {t : Tr} {v : Value} (h : Lies w t v) : Lies w' t v := by
  induction h with
  | node k n s l a cap C hn hs h1 h2 h3 h4 h5 ih =>
    refine .node k n s l a cap C hn hs h1 h2 h3 (fun hp => ?_) ih
    obtain ⟨b, off, ha, hb, hc⟩ := h4 hp
    exact ⟨b, off, ha, Nat.lt_of_lt_of_le hb hx.size, fun i j hi hj => (hx.cell (p := ⟨b, _, none⟩) hb).trans (hc i j hi hj)⟩

/-- How many parts. -/
def partsT : Tr → Nat
  | .node _ _ _ l => 1 + (l.map partsT).sum
def partsL (l : List Tr) : Nat := (l.map partsT).sum
theorem partsT_node (k : UInt8) (n : Int) (s : List UInt8) (l : List Tr) : partsT (.node k n s l) = 1 + partsL l := by rw [partsT]; rfl
theorem partsL_nil : partsL [] = 0 := rfl
theorem partsL_cons (t : Tr) (ts : List Tr) : partsL (t :: ts) = partsT t + partsL ts := by simp [partsL]
/-- How deep. -/
def deepT : Tr → Nat
  | .node _ _ _ l => (l.map deepT).foldr max 0 + 1
def deepL (l : List Tr) : Nat := (l.map deepT).foldr max 0
theorem deepT_node (k : UInt8) (n : Int) (s : List UInt8) (l : List Tr) : deepT (.node k n s l) = deepL l + 1 := by rw [deepT]; rfl
theorem deepL_nil : deepL [] = 0 := rfl
theorem deepL_cons (t : Tr) (ts : List Tr) : deepL (t :: ts) = max (deepT t) (deepL ts) := by simp [deepL]

theorem deepL_at : ∀ (l : List Tr) (i : Nat) (hi : i < l.length), deepL (l.take (i + 1)) = max (deepL (l.take i)) (deepT l[i])
  | [], _, hi => absurd hi (by simp)
  | t :: ts, 0, _ => by simp [deepL]
  | t :: ts, i + 1, hi => by
    have := deepL_at ts i (by simpa using hi)
    simp only [List.take_succ_cons, deepL_cons, List.getElem_cons_succ]; omega
theorem deepL_take_le : ∀ (l : List Tr) (i : Nat), deepL (l.take i) ≤ deepL l
  | [], i => by simp
  | t :: ts, 0 => by simp [deepL_nil]
  | t :: ts, i + 1 => by have := deepL_take_le ts i; simp only [List.take_succ_cons, deepL_cons]; omega
/-- A part of a right kind, but for what its list has in it. -/
def plainB (k : UInt8) (n : Int) (s : List UInt8) (m : Nat) : Bool :=
  if k = 0 then decide (s = [] ∧ m = 0) else if k = 1 then decide (n = 0 ∧ m = 0 ∧ s.length ≤ 100) else decide (k = 2 ∧ n = 0 ∧ s = [] ∧ m ≤ 40)
def kindsT : Tr → Bool
  | .node k n s l => plainB k n s l.length && (l.map kindsT).all id
def rightT (t : Tr) : Bool := kindsT t && decide (deepT t ≤ 6) && decide (partsT t ≤ 200)
theorem kindsT_node (k : UInt8) (n : Int) (s : List UInt8) (l : List Tr) : kindsT (.node k n s l) = (plainB k n s l.length && l.all kindsT) := by
  rw [kindsT]; simp

/-- The slice v holds the list l. -/
def LiesS (w : World) (l : List Tr) (v : Value) : Prop :=
  ∃ a cap, v = .slice a l.length cap ∧ l.length ≤ cap ∧ cap ≤ maxLen ∧ (a = none → cap = 0) ∧ ∃ C : Nat → Nat → Value,
    (0 < l.length → ∃ b off, a = some ⟨b, off, none⟩ ∧ b < w.heap.size ∧ ∀ i j, i < l.length → j < 4 → w.cell? ⟨b, off + (i * 4 + j), none⟩ = some (C i j)) ∧
    (∀ (i : Nat) (hi : i < l.length), Lies w l[i] (.agg #[C i 0, C i 1, C i 2, C i 3]))
theorem LiesS.ext {w w' : World} (hx : Ext w w') {l : List Tr} {v : Value} (h : LiesS w l v) : LiesS w' l v := by
  obtain ⟨a, cap, hv, h1, h2, h3, C, h4, h5⟩ := h
  refine ⟨a, cap, hv, h1, h2, h3, C, fun hp => ?_, fun i hi => (h5 i hi).ext hx⟩
  obtain ⟨b, off, ha, hb, hc⟩ := h4 hp
  exact ⟨b, off, ha, Nat.lt_of_lt_of_le hb hx.size, fun i j hi hj => (hx.cell (p := ⟨b, _, none⟩) hb).trans (hc i j hi hj)⟩
theorem Lies.parts {w : World} {k : UInt8} {n : Int} {s : List UInt8} {l : List Tr} {v : Value} (h : Lies w (.node k n s l) v) :
    ∃ d, v = .agg #[.int .u8 (k.toNat : Int), .int .i64 n, .string (str s), d] ∧ isI64 n ∧ s.length ≤ 9223372036854775807 ∧ LiesS w l d := by
  cases h with
  | node k n s l a cap C hn hs h1 h2 h3 h4 h5 => exact ⟨_, rfl, hn, hs, a, cap, rfl, h1, h2, h3, C, h4, h5⟩
theorem Lies.mk {w : World} {k : UInt8} {n : Int} {s : List UInt8} {l : List Tr} {d : Value} (hn : isI64 n) (hs : s.length ≤ 9223372036854775807) (h : LiesS w l d) :
    Lies w (.node k n s l) (.agg #[.int .u8 (k.toNat : Int), .int .i64 n, .string (str s), d]) := by
  obtain ⟨a, cap, rfl, h1, h2, h3, C, h4, h5⟩ := h
  exact .node k n s l a cap C hn hs h1 h2 h3 h4 h5
theorem LiesS.nil (w : World) (a : Option Addr) : LiesS w [] (.slice a 0 0) :=
  ⟨a, 0, rfl, by simp, by simp [maxLen], fun _ => rfl, fun _ _ => .nilFunc, fun h => by simp at h, fun i hi => by simp at hi⟩
end Fm

/- A value's tree: its bytes. No program is imported. -/
namespace Fm
open Go Go.RowKit

/-- A value's bytes. -/
def bytesT : Tr → List UInt8
  | .node k n s l => numB k.toNat ++ (if k = 0 then numB n else if k = 1 then textB s else numB l.length ++ (l.map bytesT).flatten)
def bytesL (l : List Tr) : List UInt8 := (l.map bytesT).flatten
theorem bytesT_node (k : UInt8) (n : Int) (s : List UInt8) (l : List Tr) : bytesT (.node k n s l) = numB k.toNat ++ (if k = 0 then numB n else if k = 1 then textB s else numB l.length ++ bytesL l) := by
  rw [bytesT]; rfl
end Fm

/- The room's cell, and what fits does to it: plain facts. No program is imported. -/
namespace Fm
open Go Go.RowKit

theorem grown_trans {a b c : World} {row : Option Nat} (h : a.grownBy b row) (k : b.grownBy c row) : a.grownBy c row :=
  ⟨k.os.trans h.os, k.tape.trans h.tape, k.output.trans h.output, Nat.le_trans h.size k.size,
    fun i hi hne => (k.block i (Nat.lt_of_lt_of_le hi h.size) hne).trans (h.block i hi hne)⟩
theorem grown_ext {a b : World} (h : Ext a b) (row : Option Nat) : a.grownBy b row := by
  have := h.grownBy
  exact ⟨this.os, this.tape, this.output, this.size, fun i hi _ => this.block i hi (by simp)⟩

/-- Block R is the room's: so much is left. -/
structure RoomAt (w0 w : World) (R : Nat) (left : Int) : Prop where
  ext : Ext w0 w
  old : w0.heap.size ≤ R
  lt : R < w.heap.size
  cell : w.cell? ⟨R, 0, none⟩ = some (.int .i64 left)
  free : w.frozen? ⟨R, 0, none⟩ = false
theorem RoomAt.then {w0 w w' : World} {R : Nat} {left : Int} (h : RoomAt w0 w R left) (hE : Ext w w') : RoomAt w0 w' R left :=
  ⟨h.ext.trans hE, h.old, Nat.lt_of_lt_of_le h.lt hE.size, (hE.cell (p := ⟨R, 0, none⟩) h.lt).trans h.cell, (hE.frozen (p := ⟨R, 0, none⟩) h.lt).trans h.free⟩
theorem RoomAt.set {w0 w : World} {R : Nat} {left : Int} (h : RoomAt w0 w R left) (x : Int) : RoomAt w0 (w.setCell ⟨R, 0, none⟩ (.int .i64 x)) R x ∧ w.grownBy (w.setCell ⟨R, 0, none⟩ (.int .i64 x)) (some R) := by
  refine ⟨⟨h.ext.setCell h.old _, h.old, by simp [h.lt], ?_, ?_⟩, ?_⟩
  · apply World.cell?_setCell_same; exact h.cell
  · rw [World.frozen?_setCell]; exact h.free
  · exact ⟨rfl, rfl, rfl, by simp [World.setCell], fun k _ hk => Below.heap_setCell _ _ _ _ (fun e => hk (by simp [e]))⟩

end Fm

/- A right value's bytes are few. No program is imported. -/
namespace Fm
open Go Go.RowKit

end Fm

/- Reading a value off bytes: what the program's reader does, and what the reference's does: plain facts. No program is imported. -/
namespace Fm
open Go Go.RowKit

/-- The number at the head, and what is behind it. -/
def hdN (xs : List UInt8) : Option (Int × List UInt8) := (takeN xs).map fun p => (p.1, xs.drop p.2)
/-- The text at the head, and what is behind it. -/
def hdT (xs : List UInt8) : Option (List UInt8 × List UInt8) := (takeT xs 100).map fun p => ((xs.drop p.1).take p.2, (xs.drop p.1).drop p.2)

theorem hdN_some {xs : List UInt8} {n : Int} {k : Nat} (h : takeN xs = some (n, k)) : hdN xs = some (n, xs.drop k) := by unfold hdN; rw [h]; rfl
theorem hdT_some {xs : List UInt8} {k n : Nat} (h : takeT xs 100 = some (k, n)) : hdT xs = some ((xs.drop k).take n, (xs.drop k).drop n) := by unfold hdT; rw [h]; rfl

theorem hdN_num {n : Int} (h : isI64 n) (r : List UInt8) : hdN (numB n ++ r) = some (n, r) := by
  rw [hdN_some (takeN_num h r), List.drop_left]
theorem i64_len {n : Nat} (h : n ≤ 100) : isI64 (n : Int) := by unfold isI64; omega
theorem hdT_text {s : List UInt8} (h : s.length ≤ 100) (r : List UInt8) : hdT (textB s ++ r) = some (s, r) := by
  have hn : takeN (textB s ++ r) = some ((s.length : Int), (numB s.length).length) := by
    unfold textB; rw [List.append_assoc]; exact takeN_num (i64_len h) _
  have ht := takeT_some (top := 100) hn (by
    unfold textB; simp only [List.length_append]; omega)
  rw [hdT_some ht]
  simp [textB]
/-- All numbers are of 64 bits. -/
inductive NumsT : Tr → Prop where
  | node (k : UInt8) (n : Int) (s : List UInt8) (l : List Tr) (h : isI64 n) (hl : ∀ t, t ∈ l → NumsT t) : NumsT (.node k n s l)
theorem NumsT.num {k : UInt8} {n : Int} {s : List UInt8} {l : List Tr} (h : NumsT (.node k n s l)) : isI64 n := by cases h; assumption
theorem NumsT.list {k : UInt8} {n : Int} {s : List UInt8} {l : List Tr} (h : NumsT (.node k n s l)) : ∀ t, t ∈ l → NumsT t := by cases h; assumption
theorem Lies.nums {w : World} {t : Tr} {v : Value} (h : Lies w t v) : NumsT t := by
  induction h with
  | node k n s l a cap C hn hs h1 h2 h3 h4 h5 ih =>
    refine .node k n s l hn fun t ht => ?_
    obtain ⟨i, hi, rfl⟩ := List.getElem_of_mem ht
    exact ih i hi

/-- The program's reader: how deep, how many parts more. -/
def readL (f : Nat → List UInt8 → Option (Tr × List UInt8 × Nat)) : Nat → Nat → List UInt8 → Option (List Tr × List UInt8 × Nat)
  | 0, m, xs => some ([], xs, m)
  | c + 1, m, xs => match f m xs with
    | none => none
    | some (t, r, m') => match readL f c m' r with
      | none => none
      | some (ts, r', m'') => some (t :: ts, r', m'')
def readT : Nat → Nat → List UInt8 → Option (Tr × List UInt8 × Nat)
  | 0, _, _ => none
  | d + 1, m, xs => match hdN xs with
    | none => none
    | some (k, r) =>
      if k < 0 ∨ 2 < k ∨ m = 0 then none
      else if k = 0 then match hdN r with
        | none => none
        | some (n, r') => some (.node 0 n [] [], r', m - 1)
      else if k = 1 then match hdT r with
        | none => none
        | some (s, r') => some (.node 1 0 s [], r', m - 1)
      else match hdN r with
        | none => none
        | some (n, r') => if n < 0 ∨ 40 < n then none else match readL (readT d) n.toNat (m - 1) r' with
          | none => none
          | some (l, r'', m') => some (.node 2 0 [] l, r'', m')

theorem readT_num {d m : Nat} {xs r : List UInt8} (h : hdN xs = some (0, r)) (hm : 0 < m) (hd : 0 < d) :
    readT d m xs = match hdN r with
      | none => none
      | some (n, r') => some (.node 0 n [] [], r', m - 1) := by
  obtain ⟨d, rfl⟩ : ∃ e, d = e + 1 := ⟨d - 1, by omega⟩
  rw [readT, h]
  simp only
  rw [if_neg (by omega), if_pos trivial]
theorem readT_text {d m : Nat} {xs r : List UInt8} (h : hdN xs = some (1, r)) (hm : 0 < m) (hd : 0 < d) :
    readT d m xs = match hdT r with
      | none => none
      | some (s, r') => some (.node 1 0 s [], r', m - 1) := by
  obtain ⟨d, rfl⟩ : ∃ e, d = e + 1 := ⟨d - 1, by omega⟩
  rw [readT, h]
  simp only
  rw [if_neg (by omega), if_neg (by decide), if_pos trivial]
theorem readT_list {d m : Nat} {xs r : List UInt8} (h : hdN xs = some (2, r)) (hm : 0 < m) :
    readT (d + 1) m xs = match hdN r with
      | none => none
      | some (n, r') => if n < 0 ∨ 40 < n then none else match readL (readT d) n.toNat (m - 1) r' with
        | none => none
        | some (l, r'', m') => some (.node 2 0 [] l, r'', m') := by
  rw [readT, h]
  simp only
  rw [if_neg (by omega), if_neg (by decide), if_neg (by decide)]

theorem readL_bytes (f : Nat → List UInt8 → Option (Tr × List UInt8 × Nat)) : ∀ (l : List Tr) (m : Nat) (r : List UInt8),
    (∀ t, t ∈ l → ∀ m r, partsT t ≤ m → f m (bytesT t ++ r) = some (t, r, m - partsT t)) → partsL l ≤ m → readL f l.length m (bytesL l ++ r) = some (l, r, m - partsL l)
  | [], m, r, _, _ => by simp [readL, bytesL, partsL_nil]
  | t :: ts, m, r, hf, hp => by
    rw [partsL_cons] at hp ⊢
    have e : bytesL (t :: ts) ++ r = bytesT t ++ (bytesL ts ++ r) := by simp [bytesL]
    rw [List.length_cons, readL, e, hf t (List.mem_cons_self ..) m _ (by omega)]
    simp only
    rw [readL_bytes f ts (m - partsT t) r (fun x hx => hf x (List.mem_cons_of_mem _ hx)) (by omega)]
    simp only
    congr 3
    omega

theorem plainB_zero {k : UInt8} {n : Int} {s : List UInt8} {m : Nat} (h : plainB k n s m = true) (hk : k = 0) : s = [] ∧ m = 0 := by
  unfold plainB at h; rw [if_pos hk] at h; simpa using h
theorem plainB_one {k : UInt8} {n : Int} {s : List UInt8} {m : Nat} (h : plainB k n s m = true) (hk : k = 1) : n = 0 ∧ m = 0 ∧ s.length ≤ 100 := by
  subst hk; unfold plainB at h; rw [if_neg (by decide), if_pos rfl] at h; simpa using h
theorem plainB_two {k : UInt8} {n : Int} {s : List UInt8} {m : Nat} (h : plainB k n s m = true) (h0 : k ≠ 0) (h1 : k ≠ 1) : k = 2 ∧ n = 0 ∧ s = [] ∧ m ≤ 40 := by
  unfold plainB at h; rw [if_neg h0, if_neg h1] at h; simpa using h

/-- What is said of a right value is read, whatever is behind it. -/
theorem readT_bytes (t : Tr) : ∀ (d m : Nat) (r : List UInt8), kindsT t = true → NumsT t → deepT t ≤ d → partsT t ≤ m → readT d m (bytesT t ++ r) = some (t, r, m - partsT t) := by
  induction t using Tr.ind with
  | h k n s l ih =>
    intro d m r hk hn hd hp
    rw [deepT_node] at hd
    rw [partsT_node] at hp
    obtain ⟨d, rfl⟩ : ∃ e, d = e + 1 := ⟨d - 1, by omega⟩
    rw [kindsT_node, Bool.and_eq_true] at hk
    obtain ⟨hk, hl⟩ := hk
    have hk255 := k.toNat_lt
    have hh : hdN (bytesT (.node k n s l) ++ r) = some ((k.toNat : Int), (if k = 0 then numB n else if k = 1 then textB s else numB l.length ++ bytesL l) ++ r) := by
      rw [bytesT_node, List.append_assoc, hdN_num (by unfold isI64; omega)]
    by_cases h0 : k = 0
    · obtain ⟨rfl, hm⟩ := plainB_zero hk h0
      obtain rfl : l = [] := List.eq_nil_of_length_eq_zero hm
      subst h0
      rw [if_pos rfl] at hh
      rw [readT_num hh (by omega) (by omega), hdN_num hn.num, partsT_node, partsL_nil]
    by_cases h1 : k = 1
    · obtain ⟨rfl, hm, hs⟩ := plainB_one hk h1
      obtain rfl : l = [] := List.eq_nil_of_length_eq_zero hm
      subst h1
      rw [if_neg (by decide), if_pos rfl] at hh
      rw [readT_text hh (by omega) (by omega), hdT_text hs, partsT_node, partsL_nil]
    · obtain ⟨rfl, rfl, rfl, hm⟩ := plainB_two hk h0 h1
      rw [if_neg (by decide), if_neg (by decide), List.append_assoc] at hh
      rw [readT_list hh (by omega), hdN_num (by unfold isI64; omega)]
      simp only
      rw [if_neg (by omega), Int.toNat_natCast, readL_bytes (readT d) l (m - 1) r ?_ (by omega), partsT_node]
      · simp only
        congr 3; omega
      · intro t ht m' r' hp'
        refine ih t ht d m' r' (List.all_eq_true.1 hl t ht) (hn.list t ht) ?_ hp'
        have : deepT t ≤ deepL l := by
          obtain ⟨i, hi, rfl⟩ := List.getElem_of_mem ht
          have h := deepL_at l i hi
          have := deepL_take_le l (i + 1)
          omega
        omega

/-- The program's Take. -/
def takeV' (xs : List UInt8) : Option (Tr × List UInt8) := match readT 6 200 xs with
  | none => none
  | some (t, r, _) => some (t, r)
theorem rightT_iff {t : Tr} : rightT t = true ↔ kindsT t = true ∧ deepT t ≤ 6 ∧ partsT t ≤ 200 := by
  simp only [rightT, Bool.and_eq_true, decide_eq_true_eq, and_assoc]
theorem takeV_bytes {t : Tr} (h : rightT t = true) (hn : NumsT t) (r : List UInt8) : takeV' (bytesT t ++ r) = some (t, r) := by
  obtain ⟨h1, h2, h3⟩ := rightT_iff.1 h
  unfold takeV'; rw [readT_bytes t 6 200 r h1 hn h2 h3]
/-- The reference's reader. -/
def rreadL (f : List UInt8 → Option (Tr × List UInt8)) : Nat → Nat → List UInt8 → Option (List Tr × List UInt8)
  | 0, _, xs => some ([], xs)
  | c + 1, P, xs => match f xs with
    | none => none
    | some (t, r) => if 200 < P + partsT t then none else match rreadL f c (P + partsT t) r with
      | none => none
      | some (ts, r') => some (t :: ts, r')
end Fm

/- A value's text: plain facts. No program is imported. -/
namespace Fm
open Go Go.RowKit

end Fm

/- A value's tree in memory of its own: plain facts. No program is imported. -/
namespace Fm
open Go Go.RowKit

/-- The cells of n elements. -/
def cells4 (C : Nat → Nat → Value) : Nat → List Value
  | 0 => []
  | n + 1 => cells4 C n ++ [C n 0, C n 1, C n 2, C n 3]
theorem cells4_length (C : Nat → Nat → Value) : ∀ n, (cells4 C n).length = n * 4
  | 0 => rfl
  | n + 1 => by rw [cells4, List.length_append, cells4_length C n]; simp; omega
theorem cells4_at (C : Nat → Nat → Value) : ∀ (n i j : Nat), i < n → j < 4 → (cells4 C n)[i * 4 + j]? = some (C i j)
  | 0, i, j, h, _ => by omega
  | n + 1, i, j, h, hj => by
    rw [cells4]
    have hl := cells4_length C n
    by_cases hi : i < n
    · rw [List.getElem?_append_left (by omega), cells4_at C n i j hi hj]
    · obtain rfl : i = n := by omega
      rw [List.getElem?_append_right (by omega), hl]
      have e : i * 4 + j - i * 4 = j := by omega
      rw [e]
      match j, hj with
      | 0, _ => rfl
      | 1, _ => rfl
      | 2, _ => rfl
      | 3, _ => rfl
theorem cells4_congr {C D : Nat → Nat → Value} : ∀ n, (∀ i j, i < n → j < 4 → C i j = D i j) → cells4 C n = cells4 D n
  | 0, _ => rfl
  | n + 1, h => by
    rw [cells4, cells4, cells4_congr n (fun i j hi hj => h i j (by omega) hj), h n 0 (by omega) (by omega), h n 1 (by omega) (by omega), h n 2 (by omega) (by omega), h n 3 (by omega) (by omega)]

/-- The tree lies in blocks of its own, from 'base' on: F tells which. e: the elements' type. -/
inductive Owns (e : TypeId) (w : World) (base : Nat) : Tr → Value → (Nat → Prop) → Prop where
  | node (k : UInt8) (n : Int) (s : List UInt8) (l : List Tr) (d : Value) (C : Nat → Nat → Value) (G : Nat → Nat → Prop) (F : Nat → Prop) (hn : isI64 n) (hs : s.length ≤ 9223372036854775807)
      (hrow : w.ownsRow base e 4 d l.length (cells4 C l.length))
      (hch : ∀ (i : Nat) (hi : i < l.length), Owns e w base l[i] (.agg #[C i 0, C i 1, C i 2, C i 3]) (G i))
      (hF : ∀ b, F b ↔ d.ownBlock = some b ∨ ∃ i, i < l.length ∧ G i b)
      (hdis : ∀ i j b, i < j → j < l.length → G i b → ¬ G j b)
      (hown : ∀ i b, i < l.length → G i b → d.ownBlock ≠ some b) :
      Owns e w base (.node k n s l) (.agg #[.int .u8 (k.toNat : Int), .int .i64 n, .string (str s), d]) F
/-- A row of trees of its own. -/
def RowO (e : TypeId) (w : World) (base : Nat) (l : List Tr) (d : Value) (F : Nat → Prop) : Prop :=
  ∃ (C : Nat → Nat → Value) (G : Nat → Nat → Prop), w.ownsRow base e 4 d l.length (cells4 C l.length) ∧
    (∀ (i : Nat) (hi : i < l.length), Owns e w base l[i] (.agg #[C i 0, C i 1, C i 2, C i 3]) (G i)) ∧
    (∀ b, F b ↔ d.ownBlock = some b ∨ ∃ i, i < l.length ∧ G i b) ∧ (∀ i j b, i < j → j < l.length → G i b → ¬ G j b) ∧ (∀ i b, i < l.length → G i b → d.ownBlock ≠ some b)
theorem Owns.parts {e : TypeId} {w : World} {base : Nat} {k : UInt8} {n : Int} {s : List UInt8} {l : List Tr} {v : Value} {F : Nat → Prop} (h : Owns e w base (.node k n s l) v F) :
    ∃ d, v = .agg #[.int .u8 (k.toNat : Int), .int .i64 n, .string (str s), d] ∧ isI64 n ∧ s.length ≤ 9223372036854775807 ∧ RowO e w base l d F := by
  cases h with
  | node k n s l d C G F hn hs hrow hch hF hdis hown => exact ⟨d, rfl, hn, hs, C, G, hrow, hch, hF, hdis, hown⟩
theorem Owns.mk {e : TypeId} {w : World} {base : Nat} {k : UInt8} {n : Int} {s : List UInt8} {l : List Tr} {d : Value} {F : Nat → Prop} (hn : isI64 n) (hs : s.length ≤ 9223372036854775807) (h : RowO e w base l d F) :
    Owns e w base (.node k n s l) (.agg #[.int .u8 (k.toNat : Int), .int .i64 n, .string (str s), d]) F := by
  obtain ⟨C, G, hrow, hch, hF, hdis, hown⟩ := h
  exact .node k n s l d C G F hn hs hrow hch hF hdis hown
theorem Owns.bounds {e : TypeId} {w : World} {base : Nat} {t : Tr} {v : Value} {F : Nat → Prop} (h : Owns e w base t v F) : ∀ b, F b → base ≤ b ∧ b < w.heap.size := by
  induction h with
  | node k n s l d C G F hn hs hrow hch hF hdis hown ih =>
    intro b hb
    rcases (hF b).1 hb with h | ⟨i, hi, h⟩
    · exact hrow.lt b h
    · exact ih i hi b h
theorem RowO.bounds {e : TypeId} {w : World} {base : Nat} {l : List Tr} {d : Value} {F : Nat → Prop} (h : RowO e w base l d F) : ∀ b, F b → base ≤ b ∧ b < w.heap.size := by
  obtain ⟨C, G, hrow, hch, hF, hdis, hown⟩ := h
  intro b hb
  rcases (hF b).1 hb with h | ⟨i, hi, h⟩
  · exact hrow.lt b h
  · exact (hch i hi).bounds b h
theorem ownsRow_block {w w' : World} {base e size : Nat} {v : Value} {n : Nat} {xs : List Value} (h : w.ownsRow base e size v n xs) (hb : ∀ b, v.ownBlock = some b → w'.heap[b]? = w.heap[b]?) : w'.ownsRow base e size v n xs := by
  refine ⟨h.1, ?_⟩
  rcases h.2 with hn | ⟨g, cap, cur, hv, h1, h2, rest⟩
  · exact .inl hn
  · exact .inr ⟨g, cap, cur, hv, h1, by rw [hb g (by rw [hv]; rfl)]; exact h2, rest⟩
theorem ownsRow_mono {w : World} {base base' e size : Nat} {v : Value} {n : Nat} {xs : List Value} (h : w.ownsRow base e size v n xs) (hb : base' ≤ base) : w.ownsRow base' e size v n xs := by
  refine ⟨h.1, ?_⟩
  rcases h.2 with hn | ⟨g, cap, cur, hv, h1, rest⟩
  · exact .inl hn
  · exact .inr ⟨g, cap, cur, hv, Nat.le_trans hb h1, rest⟩
theorem Owns.kept {e : TypeId} {w : World} {base : Nat} {t : Tr} {v : Value} {F : Nat → Prop} (h : Owns e w base t v F) {w' : World} (hk : ∀ b, F b → w'.heap[b]? = w.heap[b]?) : Owns e w' base t v F := by
  induction h with
  | node k n s l d C G F hn hs hrow hch hF hdis hown ih =>
    exact .node k n s l d C G F hn hs (ownsRow_block hrow fun b hb => hk b ((hF b).2 (.inl hb))) (fun i hi => ih i hi fun b hb => hk b ((hF b).2 (.inr ⟨i, hi, hb⟩))) hF hdis hown
theorem Owns.mono {e : TypeId} {w : World} {base : Nat} {t : Tr} {v : Value} {F : Nat → Prop} (h : Owns e w base t v F) {base' : Nat} (hb : base' ≤ base) : Owns e w base' t v F := by
  induction h with
  | node k n s l d C G F hn hs hrow hch hF hdis hown ih =>
    exact .node k n s l d C G F hn hs (ownsRow_mono hrow hb) (fun i hi => ih i hi) hF hdis hown
theorem RowO.kept {e : TypeId} {w : World} {base : Nat} {l : List Tr} {d : Value} {F : Nat → Prop} (h : RowO e w base l d F) {w' : World} (hk : ∀ b, F b → w'.heap[b]? = w.heap[b]?) : RowO e w' base l d F := by
  obtain ⟨C, G, hrow, hch, hF, hdis, hown⟩ := h
  exact ⟨C, G, ownsRow_block hrow fun b hb => hk b ((hF b).2 (.inl hb)), fun i hi => (hch i hi).kept fun b hb => hk b ((hF b).2 (.inr ⟨i, hi, hb⟩)), hF, hdis, hown⟩
theorem RowO.ext {e : TypeId} {w w' : World} {base : Nat} {l : List Tr} {d : Value} {F : Nat → Prop} (h : RowO e w base l d F) (hE : Ext w w') : RowO e w' base l d F :=
  h.kept fun b hb => hE.block b (h.bounds b hb).2
theorem Owns.ext {e : TypeId} {w w' : World} {base : Nat} {t : Tr} {v : Value} {F : Nat → Prop} (h : Owns e w base t v F) (hE : Ext w w') : Owns e w' base t v F :=
  h.kept fun b hb => hE.block b (h.bounds b hb).2
theorem RowO.grown {e : TypeId} {w w' : World} {base : Nat} {l : List Tr} {d : Value} {F : Nat → Prop} {row : Option Nat} (h : RowO e w base l d F) (hg : w.grownBy w' row) (hr : ∀ b, row = some b → ¬ F b) : RowO e w' base l d F :=
  h.kept fun b hb => hg.block b (h.bounds b hb).2 (fun e => hr b e.symm hb)
theorem Owns.grown {e : TypeId} {w w' : World} {base : Nat} {t : Tr} {v : Value} {F : Nat → Prop} {row : Option Nat} (h : Owns e w base t v F) (hg : w.grownBy w' row) (hr : ∀ b, row = some b → ¬ F b) : Owns e w' base t v F :=
  h.kept fun b hb => hg.block b (h.bounds b hb).2 (fun e => hr b e.symm hb)
theorem RowO.nil (e : TypeId) (w : World) (base : Nat) : RowO e w base [] (.slice none 0 0) (fun _ => False) :=
  ⟨fun _ _ => .nilFunc, fun _ _ => False, World.ownsRow_nil w base e 4, (fun i hi => by simp at hi), (fun b => by simp [Value.ownBlock]), (fun i j b _ hj => by simp at hj), fun i b hi => by simp at hi⟩
theorem RowO.slice {e : TypeId} {w : World} {base : Nat} {l : List Tr} {d : Value} {F : Nat → Prop} (h : RowO e w base l d F) : ∃ a cap, d = .slice a l.length cap := by
  obtain ⟨C, G, hrow, _⟩ := h
  rcases hrow.2 with ⟨hv, h0⟩ | ⟨g, cap, cur, hv, _⟩
  · exact ⟨none, 0, by rw [hv, h0]⟩
  · exact ⟨_, cap, hv⟩
/-- What lies in memory of its own lies. -/
theorem Owns.lies {e : TypeId} {w : World} {base : Nat} {t : Tr} {v : Value} {F : Nat → Prop} (h : Owns e w base t v F) : Lies w t v := by
  induction h with
  | node k n s l d C G F hn hs hrow hch hF hdis hown ih =>
    have hc := fun g => World.ownsRow.cells hrow (g := g)
    rcases hrow.2 with ⟨rfl, h0⟩ | ⟨g, cap, cur, rfl, hb, hg, h1, h2, h3, h4⟩
    · have hl : l.length = 0 := h0
      obtain rfl : l = [] := List.eq_nil_of_length_eq_zero hl
      exact Lies.node k n s [] none 0 C hn hs (by simp) (by simp [maxLen]) (fun _ => rfl) (fun h => by simp at h) (fun i hi => by simp at hi)
    · refine Lies.node k n s l (some ⟨g, 0, none⟩) cap C hn hs h1 h2 (fun h => by cases h) (fun hp => ⟨g, 0, rfl, (Array.getElem?_eq_some_iff.1 hg).1, fun i j hi hj => ?_⟩) ih
      have := hc g rfl (i * 4 + j) (C i j) (cells4_at C l.length i j hi hj)
      rw [Addr.add_lit] at this
      exact this
theorem RowO.lies {e : TypeId} {w : World} {base : Nat} {l : List Tr} {d : Value} {F : Nat → Prop} (h : RowO e w base l d F) : LiesS w l d := by
  have hl := (Owns.mk (k := 2) (n := 0) (s := []) (by unfold isI64; omega) (by simp) h).lies
  obtain ⟨d', hd, _, _, hx⟩ := hl.parts
  injection hd with hd
  have : d = d' := by
    have := congrArg (fun a => a[3]?) hd
    simpa using this
  rw [this]; exact hx

/-- One tree more. -/
theorem RowO.snoc {e : TypeId} {w w' : World} {base : Nat} {l : List Tr} {d : Value} {F : Nat → Prop} (h : RowO e w base l d F) {t : Tr} {c0 c1 c2 c3 : Value} {Ft : Nat → Prop}
    (ht : Owns e w base t (.agg #[c0, c1, c2, c3]) Ft) (hdj : ∀ b, Ft b → ¬ F b) {d' : Value} (hg : w.grownBy w' d.ownBlock) {xs : List Value}
    (hx : w.ownsRow base e 4 d l.length xs) (hrow' : w'.ownsRow base e 4 d' (l.length + 1) (xs ++ [c0, c1, c2, c3])) (hat : d'.ownBlock = d.ownBlock ∨ d'.ownBlock = some w.heap.size) :
    ∃ F', RowO e w' base (l ++ [t]) d' F' ∧ ∀ b, F' b → F b ∨ Ft b ∨ b = w.heap.size := by
  have hFb := h.bounds
  have hTb := ht.bounds
  obtain ⟨C, G, hrow, hch, hF, hdis, hown⟩ := h
  have hxs : xs = cells4 C l.length := by
    rcases hrow.2 with ⟨hv, h0⟩ | ⟨g, cap, cur, hv, _, hgg, _, _, _, ht4⟩
    · have a1 := hrow.1; have a2 := hx.1
      rw [h0] at a1 a2
      have b1 : cells4 C l.length = [] := List.eq_nil_of_length_eq_zero (by rw [h0]; omega)
      have b2 : xs = [] := List.eq_nil_of_length_eq_zero (by omega)
      rw [b1, b2]
    · rcases hx.2 with ⟨hv2, _⟩ | ⟨g2, cap2, cur2, hv2, _, hgg2, _, _, _, ht42⟩
      · rw [hv] at hv2; cases hv2
      · rw [hv] at hv2
        injection hv2 with ha _ _
        injection ha with ha
        injection ha with ha
        subst ha
        rw [hgg] at hgg2
        injection hgg2 with hc
        injection hc with hc
        rw [← ht4, ← ht42, hc]
  let C' : Nat → Nat → Value := fun i j => if i < l.length then C i j else match j with | 0 => c0 | 1 => c1 | 2 => c2 | _ => c3
  let G' : Nat → Nat → Prop := fun i b => if i < l.length then G i b else Ft b
  have hC : ∀ i j, i < l.length → C' i j = C i j := fun i j hi => if_pos hi
  have hG : ∀ i, i < l.length → G' i = G i := fun i hi => by funext b; exact if_pos hi
  have hC4 : ∀ j, C' l.length j = match j with | 0 => c0 | 1 => c1 | 2 => c2 | _ => c3 := fun j => if_neg (by omega)
  have hG4 : G' l.length = Ft := by funext b; exact if_neg (by omega)
  have hold : ∀ b, (∃ i, i < l.length ∧ G i b) → w'.heap[b]? = w.heap[b]? := by
    rintro b ⟨i, hi, hb⟩
    exact hg.block b (hFb b ((hF b).2 (.inr ⟨i, hi, hb⟩))).2 (fun e => hown i b hi hb e.symm)
  have holdT : ∀ b, Ft b → w'.heap[b]? = w.heap[b]? := fun b hb =>
    hg.block b (hTb b hb).2 (fun e => hdj b hb ((hF b).2 (.inl e.symm)))
  refine ⟨fun b => d'.ownBlock = some b ∨ ∃ i, i < (l ++ [t]).length ∧ G' i b, ⟨C', G', ?_, ?_, fun b => Iff.rfl, ?_, ?_⟩, ?_⟩
  · have e1 : cells4 C' (l ++ [t]).length = xs ++ [c0, c1, c2, c3] := by
      rw [List.length_append, List.length_singleton, cells4, hxs, cells4_congr (D := C) l.length (fun i j hi _ => hC i j hi), hC4, hC4, hC4, hC4]
      rfl
    rw [e1, List.length_append, List.length_singleton]
    exact hrow'
  · intro i hi
    rw [List.length_append, List.length_singleton] at hi
    by_cases hlt : i < l.length
    · rw [List.getElem_append_left hlt, hG i hlt, hC i 0 hlt, hC i 1 hlt, hC i 2 hlt, hC i 3 hlt]
      exact (hch i hlt).kept fun b hb => hold b ⟨i, hlt, hb⟩
    · obtain rfl : i = l.length := by omega
      rw [List.getElem_append_right (by omega), hG4, hC4, hC4, hC4, hC4]
      simp only [Nat.sub_self, List.getElem_cons_zero]
      exact ht.kept holdT
  · intro i j b hij hj hb hb2
    rw [List.length_append, List.length_singleton] at hj
    rw [hG i (by omega)] at hb
    by_cases hlt : j < l.length
    · rw [hG j hlt] at hb2
      exact hdis i j b hij hlt hb hb2
    · obtain rfl : j = l.length := by omega
      rw [hG4] at hb2
      exact hdj b hb2 ((hF b).2 (.inr ⟨i, by omega, hb⟩))
  · intro i b hi hb he
    rw [List.length_append, List.length_singleton] at hi
    by_cases hlt : i < l.length
    · rw [hG i hlt] at hb
      rcases hat with ha | ha
      · exact hown i b hlt hb (by rw [← ha]; exact he)
      · have := (hFb b ((hF b).2 (.inr ⟨i, hlt, hb⟩))).2
        rw [ha] at he; injection he with he; omega
    · obtain rfl : i = l.length := by omega
      rw [hG4] at hb
      rcases hat with ha | ha
      · exact hdj b hb ((hF b).2 (.inl (by rw [← ha]; exact he)))
      · have := (hTb b hb).2
        rw [ha] at he; injection he with he; omega
  · rintro b (hb | ⟨i, hi, hb⟩)
    · rcases hat with ha | ha
      · exact .inl ((hF b).2 (.inl (by rw [← ha]; exact hb)))
      · rw [ha] at hb; injection hb with hb; exact .inr (.inr hb.symm)
    · rw [List.length_append, List.length_singleton] at hi
      by_cases hlt : i < l.length
      · rw [hG i hlt] at hb; exact .inl ((hF b).2 (.inr ⟨i, hlt, hb⟩))
      · obtain rfl : i = l.length := by omega
        rw [hG4] at hb; exact .inr (.inl hb)

/-- .. in memory of its own from 'base' on. -/
def OwnT (e : TypeId) (w : World) (base : Nat) (t : Tr) (v : Value) : Prop := ∃ F, Owns e w base t v F
def OwnL (e : TypeId) (w : World) (base : Nat) (l : List Tr) (d : Value) : Prop := ∃ F, RowO e w base l d F
theorem OwnT.lies {e : TypeId} {w : World} {base : Nat} {t : Tr} {v : Value} (h : OwnT e w base t v) : Lies w t v := let ⟨_, h⟩ := h; h.lies
theorem OwnT.ext {e : TypeId} {w w' : World} {base : Nat} {t : Tr} {v : Value} (h : OwnT e w base t v) (hE : Ext w w') : OwnT e w' base t v := let ⟨F, h⟩ := h; ⟨F, h.ext hE⟩
theorem OwnT.grown {e : TypeId} {w w' : World} {base : Nat} {t : Tr} {v : Value} {row : Option Nat} (h : OwnT e w base t v) (hg : w.grownBy w' row) (hr : ∀ b, row = some b → b < base) : OwnT e w' base t v :=
  let ⟨F, h⟩ := h; ⟨F, h.grown hg fun b hb hF => by have := (h.bounds b hF).1; have := hr b hb; omega⟩
theorem OwnT.mono {e : TypeId} {w : World} {base base' : Nat} {t : Tr} {v : Value} (h : OwnT e w base t v) (hb : base' ≤ base) : OwnT e w base' t v := let ⟨F, h⟩ := h; ⟨F, h.mono hb⟩
theorem OwnL.ext {e : TypeId} {w w' : World} {base : Nat} {l : List Tr} {d : Value} (h : OwnL e w base l d) (hE : Ext w w') : OwnL e w' base l d := let ⟨F, h⟩ := h; ⟨F, h.ext hE⟩
theorem OwnL.grown {e : TypeId} {w w' : World} {base : Nat} {l : List Tr} {d : Value} {row : Option Nat} (h : OwnL e w base l d) (hg : w.grownBy w' row) (hr : ∀ b, row = some b → b < base) : OwnL e w' base l d :=
  let ⟨F, h⟩ := h; ⟨F, h.grown hg fun b hb hF => by have := (h.bounds b hF).1; have := hr b hb; omega⟩
theorem OwnL.nil (e : TypeId) (w : World) (base : Nat) : OwnL e w base [] (.slice none 0 0) := ⟨_, RowO.nil e w base⟩
theorem OwnL.lies {e : TypeId} {w : World} {base : Nat} {l : List Tr} {d : Value} (h : OwnL e w base l d) : LiesS w l d := let ⟨_, h⟩ := h; h.lies
theorem OwnL.row {e : TypeId} {w : World} {base : Nat} {l : List Tr} {d : Value} (h : OwnL e w base l d) : ∃ xs, w.ownsRow base e 4 d l.length xs := let ⟨_, _, _, h, _⟩ := h; ⟨_, h⟩
theorem OwnT.mk {e : TypeId} {w : World} {base : Nat} {k : UInt8} {n : Int} {s : List UInt8} {l : List Tr} {d : Value} (hn : isI64 n) (hs : s.length ≤ 9223372036854775807) (h : OwnL e w base l d) :
    OwnT e w base (.node k n s l) (.agg #[.int .u8 (k.toNat : Int), .int .i64 n, .string (str s), d]) := let ⟨F, h⟩ := h; ⟨F, Owns.mk hn hs h⟩
/-- One tree more, younger than all ahead: the row in w, the tree made since, the append behind. -/
theorem OwnL.snoc {e : TypeId} {w0 w w' : World} {base mid : Nat} {l : List Tr} {d : Value} (h : OwnL e w0 base l d) (hmid : w0.heap.size ≤ mid) (hkeep : ∀ b, base ≤ b → b < w0.heap.size → w.heap[b]? = w0.heap[b]?)
    {t : Tr} {c0 c1 c2 c3 : Value} (ht : OwnT e w mid t (.agg #[c0, c1, c2, c3])) (hbm : base ≤ mid) {d' : Value} (hg : w.grownBy w' d.ownBlock) {xs : List Value}
    (hx : w.ownsRow base e 4 d l.length xs) (hrow' : w'.ownsRow base e 4 d' (l.length + 1) (xs ++ [c0, c1, c2, c3])) (hat : d'.ownBlock = d.ownBlock ∨ d'.ownBlock = some w.heap.size) :
    OwnL e w' base (l ++ [t]) d' := by
  obtain ⟨F, h⟩ := h
  obtain ⟨Ft, ht⟩ := ht
  have h1 := h.kept (w' := w) fun b hb => hkeep b (h.bounds b hb).1 (h.bounds b hb).2
  obtain ⟨F', h2, _⟩ := h1.snoc (ht.mono hbm) (fun b hb hF => by have := (ht.bounds b hb).1; have := (h.bounds b hF).2; omega) hg hx hrow' hat
  exact ⟨F', h2⟩
end Fm

/- One part of a tree in memory of its own is changed: plain facts. No program is imported. -/
namespace Fm
open Go Go.RowKit

/-- A tree's four cells lie at (b, o), its lists in memory of its own; beside it a counter. -/
structure Spot (e : TypeId) (w : World) (base b o kb : Nat) (c : Int) (k : UInt8) (n : Int) (s : List UInt8) (l : List Tr) (d : Value) (F : Nat → Prop) : Prop where
  c0 : w.cell? ⟨b, o, none⟩ = some (.int .u8 (k.toNat : Int))
  c1 : w.cell? ⟨b, o + 1, none⟩ = some (.int .i64 n)
  c2 : w.cell? ⟨b, o + 2, none⟩ = some (.string (str s))
  c3 : w.cell? ⟨b, o + 3, none⟩ = some d
  f1 : w.frozen? ⟨b, o + 1, none⟩ = false
  hn : isI64 n
  hs : s.length ≤ 9223372036854775807
  row : RowO e w base l d F
  nb : ¬ F b
  nk : ¬ F kb
  bk : b ≠ kb
  ck : w.cell? ⟨kb, 0, none⟩ = some (.int .i64 c)
  fk : w.frozen? ⟨kb, 0, none⟩ = false

theorem Spot.size {e : TypeId} {w : World} {base b o kb : Nat} {c : Int} {k : UInt8} {n : Int} {s : List UInt8} {l : List Tr} {d : Value} {F : Nat → Prop} (h : Spot e w base b o kb c k n s l d F) : b < w.heap.size ∧ kb < w.heap.size :=
  ⟨World.block_lt_of_cell? w _ h.c0, World.block_lt_of_cell? w _ h.ck⟩
end Fm

/- Unlike values are shown unlike: plain facts. No program is imported. -/
namespace Fm
open Go Go.RowKit

def digC (c : UInt8) : Bool := decide (48 ≤ c.toNat ∧ c.toNat ≤ 57)
def numC (c : UInt8) : Bool := digC c || decide (c = 45)
/-- What may stand behind a value's text. -/
def Ends (r : List UInt8) : Prop := ∀ c t, r = c :: t → c = 44 ∨ c = 93
theorem Ends.num {r : List UInt8} (h : Ends r) : ∀ c t, r = c :: t → numC c = false := by
  intro c t e
  rcases h c t e with rfl | rfl <;> decide
end Fm

/- The reference's reader of a list, round for round: plain facts. No program is imported. -/
namespace Fm
open Go Go.RowKit

/-- l is read; ys is behind it. -/
def RL (f : List UInt8 → Option (Tr × List UInt8)) (c : Nat) (x : Option (List Tr × List UInt8)) (l : List Tr) (ys : List UInt8) : Prop :=
  x = match rreadL f (c - l.length) (1 + partsL l) ys with
    | none => none
    | some (ts, r) => some (l ++ ts, r)
theorem RL.none {f : List UInt8 → Option (Tr × List UInt8)} {c : Nat} {x : Option (List Tr × List UInt8)} {l : List Tr} {ys : List UInt8} (h : RL f c x l ys) (hl : l.length < c) (hf : f ys = .none) : x = .none := by
  unfold RL at h
  obtain ⟨m, hm⟩ : ∃ m, c - l.length = m + 1 := ⟨c - l.length - 1, by omega⟩
  rw [hm, rreadL, hf] at h
  exact h
theorem RL.done {f : List UInt8 → Option (Tr × List UInt8)} {c : Nat} {x : Option (List Tr × List UInt8)} {l : List Tr} {ys : List UInt8} (h : RL f c x l ys) (hl : l.length = c) : x = some (l, ys) := by
  unfold RL at h
  rw [hl, Nat.sub_self, rreadL] at h
  simpa using h
end Fm

/- The chapter's examples: plain facts. No program is imported. -/
namespace Fm
open Go Go.RowKit

def ex1 : Tr := .node 0 5 [] []
theorem ex1_right : rightT ex1 = true := by
  simp [ex1, rightT, kindsT_node, deepT_node, deepL_nil, partsT_node, partsL_nil, plainB]
theorem ex1_bytes : bytesT ex1 = [0, 10] := by
  rw [ex1, bytesT_node]; decide
theorem ex1_nums : NumsT ex1 := .node _ _ _ _ (by unfold isI64; omega) (fun t h => by cases h)
theorem take_more : takeV' [0, 10, 0] = some (ex1, [0]) := by
  have h := takeV_bytes ex1_right ex1_nums [0]
  rw [ex1_bytes] at h
  exact h
end Fm

namespace Fm
open Go Go.RowKit

/-- A kind of data: how many cells one has, and how it lies in them. -/
structure Elem (α : Type) where
  sz : Nat
  R : World → α → (Nat → Value) → Prop
  ext : ∀ {w w' : World} {x : α} {c : Nat → Value}, Ext w w' → R w x c → R w' x c
  loc : ∀ {w : World} {x : α} {c d : Nat → Value}, (∀ j, j < sz → c j = d j) → R w x c → R w x d

/-- The slice v holds the list l. -/
def Elem.Row {α : Type} (E : Elem α) (w : World) (l : List α) (v : Value) : Prop :=
  ∃ a cap, v = .slice a l.length cap ∧ l.length ≤ cap ∧ cap ≤ maxLen ∧ (a = none → cap = 0) ∧ ∃ C : Nat → Nat → Value,
    (0 < l.length → ∃ b off, a = some ⟨b, off, none⟩ ∧ b < w.heap.size ∧ ∀ i j, i < l.length → j < E.sz → w.cell? ⟨b, off + (i * E.sz + j), none⟩ = some (C i j)) ∧
    (∀ (i : Nat) (hi : i < l.length), E.R w l[i] (C i))
theorem Elem.Row.ext {α : Type} {E : Elem α} {w w' : World} {l : List α} {v : Value} (h : E.Row w l v) (hx : Ext w w') : E.Row w' l v := by
  obtain ⟨a, cap, hv, h1, h2, h3, C, h4, h5⟩ := h
  refine ⟨a, cap, hv, h1, h2, h3, C, fun hp => ?_, fun i hi => E.ext hx (h5 i hi)⟩
  obtain ⟨b, off, ha, hb, hc⟩ := h4 hp
  exact ⟨b, off, ha, Nat.lt_of_lt_of_le hb hx.size, fun i j hi hj => (hx.cell (p := ⟨b, _, none⟩) hb).trans (hc i j hi hj)⟩
theorem Elem.Row.void {α : Type} (E : Elem α) (w : World) (a : Option Addr) : E.Row w [] (.slice a 0 0) :=
  ⟨a, 0, rfl, by simp, by simp [maxLen], fun _ => rfl, fun _ _ => .nilFunc, fun h => by simp at h, fun i hi => by simp at hi⟩
theorem Elem.Row.slice {α : Type} {E : Elem α} {w : World} {l : List α} {v : Value} (h : E.Row w l v) : ∃ a cap, v = .slice a l.length cap ∧ l.length ≤ cap ∧ cap ≤ 9223372036854775807 := by
  obtain ⟨a, cap, hv, h1, h2, _⟩ := h
  exact ⟨a, cap, hv, h1, by unfold maxLen at h2; omega⟩
/-- An element: its cells, in a world that has grown. -/
theorem Elem.Row.at {α : Type} {E : Elem α} {w : World} {l : List α} {a : Option Addr} {n cap : Nat} (h : E.Row w l (.slice a n cap)) (hp : 0 < l.length) :
    n = l.length ∧ ∃ b off, a = some ⟨b, off, none⟩ ∧ b < w.heap.size ∧ ∀ i (hi : i < l.length), ∃ c : Nat → Value, E.R w l[i] c ∧ ∀ j, j < E.sz → ∀ wr, Ext w wr → wr.cell? ⟨b, off + (i * E.sz + j), none⟩ = some (c j) := by
  obtain ⟨a', cap', hv, h1, h2, h3, C, h4, h5⟩ := h
  injection hv with e1 e2 e3
  obtain ⟨b, off, ha, hb, hc⟩ := h4 hp
  subst e1
  exact ⟨e2, b, off, ha, hb, fun i hi => ⟨C i, h5 i hi, fun j hj wr hx => (hx.cell (p := ⟨b, _, none⟩) hb).trans (hc i j hi hj)⟩⟩
theorem Elem.Row.mk {α : Type} {E : Elem α} {w : World} {l : List α} {b off n cap : Nat} (hn : n = l.length) (h1 : l.length ≤ cap) (h2 : cap ≤ maxLen) (hb : b < w.heap.size)
    (hc : ∀ i (hi : i < l.length), ∃ c : Nat → Value, E.R w l[i] c ∧ ∀ j, j < E.sz → w.cell? ⟨b, off + (i * E.sz + j), none⟩ = some (c j)) : E.Row w l (.slice (some ⟨b, off, none⟩) n cap) := by
  subst hn
  refine ⟨_, cap, rfl, h1, h2, fun h => (by cases h), fun i => if hi : i < l.length then Classical.choose (hc i hi) else fun _ => .nilFunc, fun _ => ⟨b, off, rfl, hb, fun i j hi hj => ?_⟩, fun i hi => ?_⟩
  · simp only [dif_pos hi]; exact (Classical.choose_spec (hc i hi)).2 j hj
  · simp only [dif_pos hi]; exact (Classical.choose_spec (hc i hi)).1
/-- The first k. -/
theorem Elem.Row.take {α : Type} {E : Elem α} {w : World} {l : List α} {a : Option Addr} {n cap : Nat} (h : E.Row w l (.slice a n cap)) {k : Nat} (hk : k ≤ l.length) : E.Row w (l.take k) (.slice a k cap) := by
  obtain ⟨a', cap', hv, h1, h2, h3, C, h4, h5⟩ := h
  injection hv with e1 e2 e3
  subst e1 e3
  have hl : (l.take k).length = k := by simp; omega
  refine ⟨a, cap, by rw [hl], by omega, h2, h3, C, fun hp => ?_, fun i hi => ?_⟩
  · obtain ⟨b, off, ha, hb, hc⟩ := h4 (by omega)
    exact ⟨b, off, ha, hb, fun i j hi hj => hc i j (by omega) hj⟩
  · rw [List.getElem_take]; exact h5 i (by omega)
/-- What is behind the first k. -/
theorem Elem.Row.drop {α : Type} {E : Elem α} {w : World} {l : List α} {a : Option Addr} {n cap : Nat} (h : E.Row w l (.slice a n cap)) {k : Nat} (hk : k ≤ l.length) :
    E.Row w (l.drop k) (.slice (if cap = k then a else a.map (·.add (k * E.sz))) (n - k) (cap - k)) := by
  obtain ⟨a', cap', hv, h1, h2, h3, C, h4, h5⟩ := h
  injection hv with e1 e2 e3
  subst e1 e3 e2
  have hl : (l.drop k).length = l.length - k := by simp
  refine ⟨_, _, by rw [hl], by omega, by omega, ?_, fun i => C (k + i), fun hp => ?_, fun i hi => ?_⟩
  · intro hn
    by_cases hck : cap = k
    · omega
    · rw [if_neg hck] at hn
      cases a with
      | none => have := h3 rfl; omega
      | some ad => simp at hn
  · obtain ⟨b, off, ha, hb, hc⟩ := h4 (by omega)
    refine ⟨b, off + k * E.sz, ?_, hb, fun i j hi hj => ?_⟩
    · rw [if_neg (by omega), ha]; simp [Addr.add_lit]
    · have := hc (k + i) j (by omega) hj
      rw [← this]; congr 2; rw [Nat.add_mul]; omega
  · rw [List.getElem_drop]; exact h5 (k + i) (by omega)

/-! ### kinds -/
def strE : Elem (List UInt8) where
  sz := 1
  R _ s c := c 0 = .string (str s) ∧ s.length ≤ 9223372036854775807
  ext _ h := h
  loc hc h := ⟨(hc 0 (by omega)).symm.trans h.1, h.2⟩
def intE : Elem Int where
  sz := 1
  R _ n c := c 0 = .int .i64 n ∧ isI64 n
  ext _ h := h
  loc hc h := ⟨(hc 0 (by omega)).symm.trans h.1, h.2⟩
def rowE {α : Type} (E : Elem α) : Elem (List α) where
  sz := 1
  R w l c := E.Row w l (c 0)
  ext hx h := h.ext hx
  loc hc h := by rw [← hc 0 (by omega)]; exact h
end Fm

/- Fragments: right forms, bytes, what is taken: plain facts. No program is imported. -/
namespace Fm
open Go Go.RowKit

/-- An item. -/
structure It where
  name : List UInt8
  kind : UInt8
  after : List (List UInt8)
  over : List UInt8
  width : Int
  quota : Int
def itE : Elem It where
  sz := 6
  R w x c := c 0 = .string (str x.name) ∧ c 1 = .int .u8 (x.kind.toNat : Int) ∧ strE.Row w x.after (c 2) ∧ c 3 = .string (str x.over) ∧ c 4 = .int .i64 x.width ∧ c 5 = .int .i64 x.quota ∧
    x.name.length ≤ 9223372036854775807 ∧ x.over.length ≤ 9223372036854775807 ∧ isI64 x.width ∧ isI64 x.quota
  ext hx h := ⟨h.1, h.2.1, h.2.2.1.ext hx, h.2.2.2⟩
  loc hc h := ⟨(hc 0 (by omega)).symm.trans h.1, (hc 1 (by omega)).symm.trans h.2.1, (by rw [← hc 2 (by omega)]; exact h.2.2.1), (hc 3 (by omega)).symm.trans h.2.2.2.1, (hc 4 (by omega)).symm.trans h.2.2.2.2.1, (hc 5 (by omega)).symm.trans h.2.2.2.2.2.1, h.2.2.2.2.2.2⟩

/-- A letter of a name. -/
def letB (c : UInt8) : Bool := (decide (97 ≤ c.toNat) && decide (c.toNat ≤ 122)) || (decide (48 ≤ c.toNat) && decide (c.toNat ≤ 57)) || decide (c.toNat = 95)
def nameB (s : List UInt8) : Bool := s.all letB && decide (1 ≤ s.length) && decide (s.length ≤ 20)
theorem nameB_iff {s : List UInt8} : nameB s = true ↔ s.all letB = true ∧ 1 ≤ s.length ∧ s.length ≤ 20 := by unfold nameB; simp [and_assoc]
end Fm

/- Names: a text's letters, and what strings.Trim leaves of it: plain facts. No program is imported. -/
namespace Fm
open Go Go.RowKit

/-- The letters of a name. -/
def letL : List UInt8 := [97, 98, 99, 100, 101, 102, 103, 104, 105, 106, 107, 108, 109, 110, 111, 112, 113, 114, 115, 116, 117, 118, 119, 120, 121, 122, 48, 49, 50, 51, 52, 53, 54, 55, 56, 57, 95]
theorem letL_has (c : UInt8) : letL.contains c = letB c := by
  have h : ∀ n, n < 256 → letL.contains (UInt8.ofNat n) = letB (UInt8.ofNat n) := by decide +kernel
  have := h c.toNat c.toNat_lt
  rwa [UInt8.ofNat_toNat] at this
theorem dropWhile_nil {p : UInt8 → Bool} : ∀ l : List UInt8, l.dropWhile p = [] ↔ l.all p = true
  | [] => by simp
  | c :: l => by
    rw [List.dropWhile_cons, List.all_cons]
    by_cases h : p c = true
    · rw [if_pos h, h, Bool.true_and]; exact dropWhile_nil l
    · rw [if_neg h]; simp [h]
theorem dropWhile_all {p : UInt8 → Bool} : ∀ l : List UInt8, (l.dropWhile p).all p = l.all p
  | [] => rfl
  | c :: l => by
    rw [List.dropWhile_cons]
    by_cases h : p c = true
    · rw [if_pos h, List.all_cons, h, Bool.true_and]; exact dropWhile_all l
    · rw [if_neg h]
theorem trim_nil (s : List UInt8) : Lib.trimS s letL = [] ↔ s.all letB = true := by
  have e : (fun b => letL.contains b) = letB := funext letL_has
  unfold Lib.trimS Lib.trimLeftS Lib.trimRightS
  rw [e, dropWhile_nil, List.all_reverse, dropWhile_all, List.all_reverse]
theorem nameB_short {s : List UInt8} (h : ¬ 1 ≤ s.length) : nameB s = false := by unfold nameB; simp; omega
theorem nameB_long {s : List UInt8} (h : ¬ s.length ≤ 20) : nameB s = false := by unfold nameB; simp; omega
theorem nameB_all {s : List UInt8} (h1 : 1 ≤ s.length) (h2 : s.length ≤ 20) : nameB s = s.all letB := by unfold nameB; simp [h1, h2]
end Fm

/- Items and texts in slices: what a walk asks. No program is imported. -/
namespace Fm
open Go Go.RowKit

/-- An item as a value. -/
def ItV (w : World) (x : It) (v : Value) : Prop :=
  ∃ (a : Option Addr) (m c : Nat), v = .agg #[.string (str x.name), .int .u8 (x.kind.toNat : Int), .slice a m c, .string (str x.over), .int .i64 x.width, .int .i64 x.quota] ∧ strE.Row w x.after (.slice a m c) ∧
    x.name.length ≤ 9223372036854775807 ∧ x.over.length ≤ 9223372036854775807 ∧ isI64 x.width ∧ isI64 x.quota
theorem ItV.ext {w w' : World} {x : It} {v : Value} (h : ItV w x v) (hx : Ext w w') : ItV w' x v := by
  obtain ⟨a, m, c, hv, hr, h⟩ := h
  exact ⟨a, m, c, hv, hr.ext hx, h⟩
theorem ItV.len {w : World} {x : It} {a : Option Addr} {m c : Nat} {n k o wd q : Value} (h : ItV w x (.agg #[n, k, .slice a m c, o, wd, q])) : m = x.after.length := by
  obtain ⟨a', m', c', hv, hr, _⟩ := h
  obtain ⟨a2, c2, e, _⟩ := hr.slice
  simp at hv
  injection e with _ e _
  omega
theorem ItV.row {w : World} {x : It} {d n k o wd q : Value} (h : ItV w x (.agg #[n, k, d, o, wd, q])) : strE.Row w x.after d := by
  obtain ⟨a', m', c', hv, hr, _⟩ := h
  injection hv with hv
  have := congrArg (fun z => z[2]?) hv
  simp at this
  rw [this]; exact hr
/-- What an IndexFunc comes to: q: of each, in order; J: how the world stands behind so many. -/
def IdxPost (n : Nat) (q : Nat → Bool) (J : Nat → World → Prop) (e : Ending) (w' : World) : Prop :=
  (∃ i, i < n ∧ q i = true ∧ (∀ j, j < i → q j = false) ∧ e = .returned (.int .i64 (i : Int)) ∧ J (i + 1) w') ∨ ((∀ j, j < n → q j = false) ∧ e = .returned (.int .i64 (-1)) ∧ J n w')
/-- What a ContainsFunc comes to. -/
def HasPost (n : Nat) (q : Nat → Bool) (J : Nat → World → Prop) (e : Ending) (w' : World) : Prop :=
  (∃ i, i < n ∧ q i = true ∧ (∀ j, j < i → q j = false) ∧ e = .returned (.bool true) ∧ J (i + 1) w') ∨ ((∀ j, j < n → q j = false) ∧ e = .returned (.bool false) ∧ J n w')
end Fm

/- Light fragments: plain facts. No program is imported. -/
namespace Fm
open Go Go.RowKit

end Fm

/- Texts and items in memory of their own: plain facts. No program is imported. -/
namespace Fm
open Go Go.RowKit

def strV (s : List UInt8) : Value := .string (str s)
/-- The texts l in a row of their own, from block 'base' on. e: the elements' type. -/
def OwnS (e : TypeId) (base : Nat) (w : World) (v : Value) (l : List (List UInt8)) : Prop := w.ownsRow base e 1 v l.length (l.map strV) ∧ ∀ s, s ∈ l → s.length ≤ 9223372036854775807
theorem OwnS.nil (e : TypeId) (base : Nat) (w : World) : OwnS e base w (.slice none 0 0) [] := ⟨World.ownsRow_nil w base e 1, fun s h => by cases h⟩
theorem OwnS.ext {e : TypeId} {base : Nat} {w w' : World} {v : Value} {l : List (List UInt8)} (h : OwnS e base w v l) (hE : Ext w w') : OwnS e base w' v l := ⟨hE.own h.1, h.2⟩
theorem ownsRow_base {w : World} {base base' e size n : Nat} {v : Value} {xs : List Value} (h : w.ownsRow base e size v n xs) (hb : base' ≤ base) : w.ownsRow base' e size v n xs := by
  refine ⟨h.1, ?_⟩
  rcases h.2 with h | ⟨g, cap, cur, a, b, c⟩
  · exact .inl h
  · exact .inr ⟨g, cap, cur, a, by omega, c⟩
theorem OwnS.mono {e : TypeId} {base base' : Nat} {w : World} {v : Value} {l : List (List UInt8)} (h : OwnS e base w v l) (hb : base' ≤ base) : OwnS e base' w v l := ⟨ownsRow_base h.1 hb, h.2⟩
theorem OwnS.kept {e : TypeId} {base : Nat} {w w' : World} {v : Value} {l : List (List UInt8)} {row : Option Nat} (h : OwnS e base w v l) (hg : w.grownBy w' row) (hr : ∀ b, v.ownBlock = some b → row ≠ some b) : OwnS e base w' v l :=
  ⟨h.1.kept hg (by
    cases hv : v.ownBlock with
    | none => exact .inl rfl
    | some b => right; exact fun e => hr b hv e.symm), h.2⟩
theorem OwnS.row {e : TypeId} {base : Nat} {w : World} {v : Value} {l : List (List UInt8)} (h : OwnS e base w v l) : strE.Row w l v := by
  have hc := fun g => World.ownsRow.cells h.1 (g := g)
  rcases h.1.2 with ⟨rfl, h0⟩ | ⟨g, cap, cur, rfl, hb, hg, h1, h2, h3, h4⟩
  · have : l = [] := List.eq_nil_of_length_eq_zero h0
    subst this
    exact Elem.Row.void strE w none
  · refine Elem.Row.mk rfl h1 h2 (Array.getElem?_eq_some_iff.1 hg).1 (fun i hi => ⟨fun _ => strV l[i], ⟨rfl, h.2 _ (List.getElem_mem hi)⟩, fun j hj => ?_⟩)
    have := hc g rfl i (strV l[i]) (by simp [hi])
    rw [Addr.add_lit] at this
    have e : (0 + (i * strE.sz + j)) = 0 + i := by
      have : j < 1 := hj
      show 0 + (i * 1 + j) = 0 + i
      omega
    rw [e]; exact this
theorem OwnS.block {e : TypeId} {base : Nat} {w : World} {v : Value} {l : List (List UInt8)} (h : OwnS e base w v l) : ∀ b, v.ownBlock = some b → base ≤ b ∧ b < w.heap.size := h.1.lt
theorem OwnS.snoc {e : TypeId} {base : Nat} {w' : World} {v' : Value} {l : List (List UInt8)} {s : List UInt8} (h : w'.ownsRow base e 1 v' (l.length + 1) (l.map strV ++ [strV s])) (hl : ∀ s, s ∈ l → s.length ≤ 9223372036854775807) (hs : s.length ≤ 9223372036854775807) : OwnS e base w' v' (l ++ [s]) := by
  refine ⟨by rw [List.length_append, List.map_append]; exact h, fun x hx => ?_⟩
  rcases List.mem_append.1 hx with hx | hx
  · exact hl x hx
  · rw [List.mem_singleton.1 hx]; exact hs

end Fm

/- Fragments in memory of their own: plain facts. No program is imported. -/
namespace Fm
open Go Go.RowKit

def itCells (x : It) (d : Value) : List Value := [.string (str x.name), .int .u8 (x.kind.toNat : Int), d, .string (str x.over), .int .i64 x.width, .int .i64 x.quota]
def itWf (x : It) : Prop := x.name.length ≤ 9223372036854775807 ∧ x.over.length ≤ 9223372036854775807 ∧ isI64 x.width ∧ isI64 x.quota
/-- The cells of all items. -/
def itsCells (l : List It) (ds : List Value) : List Value := (List.zipWith itCells l ds).flatten
theorem itsCells_snoc {l : List It} {ds : List Value} (h : ds.length = l.length) (x : It) (d : Value) : itsCells (l ++ [x]) (ds ++ [d]) = itsCells l ds ++ itCells x d := by
  unfold itsCells
  rw [List.zipWith_append h.symm, List.flatten_append]
  simp
theorem itsCells_at : ∀ (l : List It) (ds : List Value) (i j : Nat) (hi : i < l.length) (hd : i < ds.length), j < 6 → (itsCells l ds)[i * 6 + j]? = (itCells l[i] ds[i])[j]?
  | [], _, i, _, hi, _, _ => by simp at hi
  | _ :: _, [], i, _, _, hd, _ => by simp at hd
  | x :: l, d :: ds, 0, j, _, _, hj => by
    unfold itsCells
    rw [List.zipWith_cons_cons, List.flatten_cons, List.getElem?_append_left (by simp [itCells]; omega)]
    simp
  | x :: l, d :: ds, i + 1, j, hi, hd, hj => by
    have ih := itsCells_at l ds i j (by simpa using hi) (by simpa using hd) hj
    unfold itsCells at ih ⊢
    rw [List.zipWith_cons_cons, List.flatten_cons, List.getElem?_append_right (by simp [itCells]; omega)]
    have e : (i + 1) * 6 + j - (itCells x d).length = i * 6 + j := by simp [itCells]; omega
    rw [e, ih]
    simp
/-- A fragment in memory of its own from block 'base' on. -/
def OwnF (eI eS : TypeId) (base : Nat) (w : World) (v : Value) (l : List It) : Prop :=
  ∃ ds : List Value, ds.length = l.length ∧ w.ownsRow base eI 6 v l.length (itsCells l ds) ∧
    ∀ i (hi : i < l.length) (hd : i < ds.length), OwnS eS base w ds[i] l[i].after ∧ itWf l[i] ∧ ∀ b, ds[i].ownBlock = some b → v.ownBlock ≠ some b
theorem OwnF.nil (eI eS : TypeId) (base : Nat) (w : World) : OwnF eI eS base w (.slice none 0 0) [] := ⟨[], rfl, World.ownsRow_nil w base eI 6, fun i hi => by simp at hi⟩
theorem OwnF.ext {eI eS : TypeId} {base : Nat} {w w' : World} {v : Value} {l : List It} (h : OwnF eI eS base w v l) (hE : Ext w w') : OwnF eI eS base w' v l := by
  obtain ⟨ds, h1, h2, h3⟩ := h
  exact ⟨ds, h1, hE.own h2, fun i hi hd => ⟨(h3 i hi hd).1.ext hE, (h3 i hi hd).2⟩⟩
theorem OwnF.mono {eI eS : TypeId} {base base' : Nat} {w : World} {v : Value} {l : List It} (h : OwnF eI eS base w v l) (hb : base' ≤ base) : OwnF eI eS base' w v l := by
  obtain ⟨ds, h1, h2, h3⟩ := h
  exact ⟨ds, h1, ownsRow_base h2 hb, fun i hi hd => ⟨(h3 i hi hd).1.mono hb, (h3 i hi hd).2⟩⟩
theorem OwnF.kept {eI eS : TypeId} {base : Nat} {w w' : World} {v : Value} {l : List It} {row : Option Nat} (h : OwnF eI eS base w v l) (hg : w.grownBy w' row) (hr : ∀ b, row = some b → b < base) : OwnF eI eS base w' v l := by
  obtain ⟨ds, h1, h2, h3⟩ := h
  have hlt := h2.lt
  refine ⟨ds, h1, h2.kept hg ?_, fun i hi hd => ⟨(h3 i hi hd).1.kept hg (fun b hb e => by have := hr b e; have := ((h3 i hi hd).1.block b hb).1; omega), (h3 i hi hd).2⟩⟩
  cases hv : v.ownBlock with
  | none => exact .inl rfl
  | some b => right; exact fun e => by have := hr b e.symm; have := (hlt b hv).1; omega
theorem OwnF.row {eI eS : TypeId} {base : Nat} {w : World} {v : Value} {l : List It} (h : OwnF eI eS base w v l) : itE.Row w l v := by
  obtain ⟨ds, h1, h2, h3⟩ := h
  have hc := fun g => World.ownsRow.cells h2 (g := g)
  rcases h2.2 with ⟨rfl, h0⟩ | ⟨g, cap, cur, rfl, hb, hg, hl, hm, h5, h6⟩
  · have : l = [] := List.eq_nil_of_length_eq_zero h0
    subst this
    exact Elem.Row.void itE w none
  · refine Elem.Row.mk rfl hl hm (Array.getElem?_eq_some_iff.1 hg).1 (fun i hi => ?_)
    have hd : i < ds.length := by omega
    obtain ⟨a1, a2, _⟩ := h3 i hi hd
    refine ⟨fun j => (itCells l[i] ds[i]).getD j .nilFunc, ⟨rfl, rfl, a1.row, rfl, rfl, rfl, a2⟩, fun j hj => ?_⟩
    have hj6 : j < 6 := hj
    have := hc g rfl (i * 6 + j) ((itCells l[i] ds[i]).getD j .nilFunc) (by
      rw [itsCells_at l ds i j hi hd hj6, List.getD_eq_getElem?_getD, List.getElem?_eq_getElem (by simp [itCells]; omega)]
      rfl)
    rw [Addr.add_lit] at this
    exact this
theorem OwnF.snoc {eI eS : TypeId} {base : Nat} {w w' : World} {v v' : Value} {l : List It} {x : It} {d : Value} {xs : List Value} (h : OwnF eI eS base w v l) (hd : OwnS eS base w d x.after) (hw : itWf x) (hdv : ∀ b, d.ownBlock = some b → v.ownBlock ≠ some b)
    (hx : w.ownsRow base eI 6 v l.length xs) (hrow : w'.ownsRow base eI 6 v' (l.length + 1) (xs ++ itCells x d)) (hg : w.grownBy w' v.ownBlock) (hat : v'.ownBlock = v.ownBlock ∨ v'.ownBlock = some w.heap.size) : OwnF eI eS base w' v' (l ++ [x]) := by
  obtain ⟨ds, h1, h2, h3⟩ := h
  have hxs : xs = itsCells l ds := by
    rcases h2.2 with ⟨hv, h0⟩ | ⟨g, cap, cur, hv, _, hgg, _, _, _, ht4⟩
    · have a1 := h2.1; have a2 := hx.1
      rw [h0] at a1 a2
      have b1 : itsCells l ds = [] := List.eq_nil_of_length_eq_zero (by omega)
      have b2 : xs = [] := List.eq_nil_of_length_eq_zero (by omega)
      rw [b1, b2]
    · rcases hx.2 with ⟨hv2, _⟩ | ⟨g2, cap2, cur2, hv2, _, hgg2, _, _, _, ht42⟩
      · rw [hv] at hv2; cases hv2
      · rw [hv] at hv2
        injection hv2 with ha _ _
        injection ha with ha
        injection ha with ha
        subst ha
        rw [hgg] at hgg2
        injection hgg2 with hc
        injection hc with hc
        rw [← ht4, ← ht42, hc]
  subst hxs
  refine ⟨ds ++ [d], by simp [h1], by rw [itsCells_snoc h1, List.length_append]; exact hrow, fun i hi hid => ?_⟩
  by_cases hil : i < l.length
  · have hil2 : i < ds.length := by omega
    rw [List.getElem_append_left hil, List.getElem_append_left hil2]
    obtain ⟨a1, a2, a3⟩ := h3 i hil hil2
    refine ⟨a1.kept hg (fun b hb e => a3 b hb e), a2, fun b hb e => ?_⟩
    rcases hat with h | h
    · exact a3 b hb (by rw [← h]; exact e)
    · rw [h] at e; injection e with e; have := (a1.block b hb).2; omega
  · have e1 : i = l.length := by simp at hi; omega
    subst e1
    have e2 : (ds ++ [d])[l.length]'hid = d := by rw [List.getElem_append_right (by omega)]; simp [h1]
    rw [List.getElem_append_right (Nat.le_refl _), e2]
    simp only [Nat.sub_self, List.getElem_cons_zero]
    refine ⟨hd.kept hg (fun b hb e => hdv b hb e), hw, fun b hb e => ?_⟩
    rcases hat with h | h
    · exact hdv b hb (by rw [← h]; exact e)
    · rw [h] at e; injection e with e; have := (hd.block b hb).2; omega
end Fm

/- The reader of fragments: its state, and what it reads: plain facts. No program is imported. -/
namespace Fm
open Go Go.RowKit

/-- Block R is the reader's: so much is left; is it bad? -/
structure RdF (w0 w : World) (R : Nat) (v : Value) (xs : List UInt8) (bad : Bool) : Prop where
  ext : Ext w0 w
  old : w0.heap.size ≤ R
  lt : R < w.heap.size
  c0 : w.cell? ⟨R, 0, none⟩ = some v
  c1 : w.cell? ⟨R, 1, none⟩ = some (.bool bad)
  f0 : w.frozen? ⟨R, 0, none⟩ = false
  f1 : w.frozen? ⟨R, 1, none⟩ = false
  bytes : Bytes w0 v xs
theorem RdF.then {w0 w w' : World} {R : Nat} {v : Value} {xs : List UInt8} {bad : Bool} (h : RdF w0 w R v xs bad) (hE : Ext w w') : RdF w0 w' R v xs bad :=
  ⟨h.ext.trans hE, h.old, Nat.lt_of_lt_of_le h.lt hE.size, (hE.cell (p := ⟨R, 0, none⟩) h.lt).trans h.c0, (hE.cell (p := ⟨R, 1, none⟩) h.lt).trans h.c1, (hE.frozen (p := ⟨R, 0, none⟩) h.lt).trans h.f0, (hE.frozen (p := ⟨R, 1, none⟩) h.lt).trans h.f1, h.bytes⟩
theorem RdF.kept {w0 w w' : World} {R : Nat} {v : Value} {xs : List UInt8} {bad : Bool} {row : Option Nat} (h : RdF w0 w R v xs bad) (hg : w.grownBy w' row) (hr : ∀ k, row = some k → w0.heap.size ≤ k ∧ k ≠ R) : RdF w0 w' R v xs bad := by
  have hne : some R ≠ row := fun e => (hr R e.symm).2 rfl
  exact ⟨h.ext.grown hg (fun k hk => (hr k hk).1), h.old, Nat.lt_of_lt_of_le h.lt hg.size, (hg.cell_far ⟨R, 0, none⟩ h.lt hne).trans h.c0, (hg.cell_far ⟨R, 1, none⟩ h.lt hne).trans h.c1, (hg.frozen_far ⟨R, 0, none⟩ h.lt hne).trans h.f0, (hg.frozen_far ⟨R, 1, none⟩ h.lt hne).trans h.f1, h.bytes⟩
theorem setOne_grown (w : World) (R j : Nat) (u : Value) : w.grownBy (w.setCell ⟨R, j, none⟩ u) (some R) :=
  ⟨rfl, rfl, rfl, by simp [World.setCell], fun k _ hk => Below.heap_setCell _ _ _ _ (fun e => hk (by simp [e]))⟩
theorem RdF.setBad {w0 w : World} {R : Nat} {v : Value} {xs : List UInt8} {bad : Bool} (h : RdF w0 w R v xs bad) (b : Bool) : RdF w0 (w.setCell ⟨R, 1, none⟩ (.bool b)) R v xs b := by
  refine ⟨h.ext.setCell h.old _, h.old, by simp [h.lt], ?_, World.cell?_setCell_same _ _ _ h.c1, by rw [World.frozen?_setCell]; exact h.f0, by rw [World.frozen?_setCell]; exact h.f1, h.bytes⟩
  exact (World.cell?_setCell_other w _ _ _ (fun e => by injection e with _ e _; omega)).trans h.c0
/-- The state: what is left; none: it is bad. -/
def RdS (w0 w : World) (R : Nat) (s : Option (List UInt8)) : Prop := ∃ v ys, RdF w0 w R v ys s.isNone ∧ ∀ xs, s = some xs → ys = xs
theorem RdS.then {w0 w w' : World} {R : Nat} {s : Option (List UInt8)} (h : RdS w0 w R s) (hE : Ext w w') : RdS w0 w' R s := let ⟨v, ys, h, k⟩ := h; ⟨v, ys, h.then hE, k⟩
theorem RdS.kept {w0 w w' : World} {R : Nat} {s : Option (List UInt8)} {row : Option Nat} (h : RdS w0 w R s) (hg : w.grownBy w' row) (hr : ∀ k, row = some k → w0.heap.size ≤ k ∧ k ≠ R) : RdS w0 w' R s :=
  let ⟨v, ys, h, k⟩ := h; ⟨v, ys, h.kept hg hr, k⟩
theorem RdS.lt {w0 w : World} {R : Nat} {s : Option (List UInt8)} (h : RdS w0 w R s) : R < w.heap.size := let ⟨_, _, h, _⟩ := h; h.lt
theorem RdS.ext {w0 w : World} {R : Nat} {s : Option (List UInt8)} (h : RdS w0 w R s) : Ext w0 w := let ⟨_, _, h, _⟩ := h; h.ext
theorem RdS.old {w0 w : World} {R : Nat} {s : Option (List UInt8)} (h : RdS w0 w R s) : w0.heap.size ≤ R := let ⟨_, _, h, _⟩ := h; h.old

end Fm

/- What frag's reader reads is what the bytes say: plain facts. No program is imported. -/
namespace Fm
open Go Go.RowKit

end Fm

/- The reference's read of an item, step by step: plain facts. No program is imported. -/
namespace Fm
open Go Go.RowKit

end Fm

/- What item of frag's reader holds on its way: plain facts. No program is imported. -/
namespace Fm
open Go Go.RowKit

theorem grown_row' {a b c : World} {r1 row : Option Nat} (h : a.grownBy b r1) (k : b.grownBy c row) (hr : ∀ x, row = some x → a.heap.size ≤ x) : a.grownBy c r1 :=
  ⟨k.os.trans h.os, k.tape.trans h.tape, k.output.trans h.output, Nat.le_trans h.size k.size,
    fun i hi hne => (k.block i (Nat.lt_of_lt_of_le hi h.size) (fun e => by have := hr i e.symm; omega)).trans (h.block i hi hne)⟩
/-- The reader's state; the result's box; the item's box. -/
structure ItSt (w0 w wr : World) (R Pb V : Nat) (s : Option (List UInt8)) (zs vs : List Value) : Prop where
  rd : RdS w0 wr R s
  g : w.grownBy wr (some R)
  pb : BoxL wr Pb zs
  bv : BoxL wr V vs
  hR : R < w.heap.size
  hP : w.heap.size ≤ Pb
  hV : Pb < V
theorem ItSt.step {w0 w wr wx : World} {R Pb V : Nat} {s s' : Option (List UInt8)} {zs vs : List Value} (h : ItSt w0 w wr R Pb V s zs vs) (hr : RdS w0 wx R s') (hg : wr.grownBy wx (some R)) : ItSt w0 w wx R Pb V s' zs vs :=
  ⟨hr, grown_trans h.g hg, h.pb.kept hg (fun e => by injection e with e; have := h.hR; have := h.hP; omega), h.bv.kept hg (fun e => by injection e with e; have := h.hR; have := h.hP; have := h.hV; omega), h.hR, h.hP, h.hV⟩
theorem ItSt.then {w0 w wr wx : World} {R Pb V : Nat} {s : Option (List UInt8)} {zs vs : List Value} (h : ItSt w0 w wr R Pb V s zs vs) (hE : Ext wr wx) : ItSt w0 w wx R Pb V s zs vs :=
  ⟨h.rd.then hE, grown_trans h.g (grown_ext hE _), h.pb.ext hE, h.bv.ext hE, h.hR, h.hP, h.hV⟩
theorem ItSt.set {w0 w wr : World} {R Pb V : Nat} {s : Option (List UInt8)} {zs vs : List Value} (h : ItSt w0 w wr R Pb V s zs vs) (j : Nat) (hj : j < vs.length) (u : Value) : ItSt w0 w (wr.setCell ⟨V, j, none⟩ u) R Pb V s zs (vs.set j u) := by
  have hg := setOne_grown wr V j u
  have a := h.hR; have b := h.hP; have c := h.hV
  have d := h.rd.old
  exact ⟨h.rd.kept hg (fun k hk => by injection hk with hk; omega), grown_row' h.g hg (fun x hx => by injection hx with hx; omega), h.pb.kept hg (fun e => by injection e with e; omega), h.bv.set j hj u, a, b, c⟩
theorem ItSt.setP {w0 w wr : World} {R Pb V : Nat} {s : Option (List UInt8)} {zs vs : List Value} (h : ItSt w0 w wr R Pb V s zs vs) (j : Nat) (hj : j < zs.length) (u : Value) : ItSt w0 w (wr.setCell ⟨Pb, j, none⟩ u) R Pb V s (zs.set j u) vs := by
  have hg := setOne_grown wr Pb j u
  have a := h.hR; have b := h.hP; have c := h.hV
  have d := h.rd.old
  exact ⟨h.rd.kept hg (fun k hk => by injection hk with hk; omega), grown_row' h.g hg (fun x hx => by injection hx with hx; omega), h.pb.set j hj u, h.bv.kept hg (fun e => by injection e with e; omega), a, b, c⟩
/-- The mark is set. -/
theorem ItSt.bad {w0 w wr : World} {R Pb V : Nat} {s : Option (List UInt8)} {zs vs : List Value} (h : ItSt w0 w wr R Pb V s zs vs) (b : Bool) (s' : Option (List UInt8)) (hb : b = s'.isNone) (hs : ∀ xs, s' = some xs → s = some xs) : ItSt w0 w (wr.setCell ⟨R, 1, none⟩ (.bool b)) R Pb V s' zs vs := by
  obtain ⟨v, ys, hF, hys⟩ := h.rd
  subst hb
  exact h.step ⟨v, ys, hF.setBad _, fun xs hx => hys xs (hs xs hx)⟩ (setOne_grown wr R 1 _)
theorem RdS.free {w0 w : World} {R : Nat} {s : Option (List UInt8)} (h : RdS w0 w R s) : w.frozen? ⟨R, 1, none⟩ = false := let ⟨_, _, h, _⟩ := h; h.f1
/-- The results' six cells are written. -/
def set6W (w : World) (B : Nat) (c0 c1 c2 c3 c4 c5 : Value) : World := (((((w.setCell ⟨B, 0, none⟩ c0).setCell ⟨B, 1, none⟩ c1).setCell ⟨B, 2, none⟩ c2).setCell ⟨B, 3, none⟩ c3).setCell ⟨B, 4, none⟩ c4).setCell ⟨B, 5, none⟩ c5
theorem ItSt.done {w0 w wr : World} {R Pb V : Nat} {s : Option (List UInt8)} {z0 z1 z2 z3 z4 z5 : Value} {vs : List Value} (h : ItSt w0 w wr R Pb V s [z0, z1, z2, z3, z4, z5] vs) (c0 c1 c2 c3 c4 c5 : Value) :
    ItSt w0 w (set6W wr Pb c0 c1 c2 c3 c4 c5) R Pb V s [c0, c1, c2, c3, c4, c5] vs :=
  (((((h.setP 0 (by simp) c0).setP 1 (by simp) c1).setP 2 (by simp) c2).setP 3 (by simp) c3).setP 4 (by simp) c4).setP 5 (by simp) c5
end Fm

namespace Fm
open Go Go.RowKit

/-- A step of a path. -/
structure Stp where
  name : List UInt8
  place : Int
/-- A path. -/
structure Pth where
  flow : Int
  steps : List Stp
theorem Stp.ext_iff' {a b : Stp} : a = b ↔ a.name = b.name ∧ a.place = b.place := by
  cases a; cases b; simp
theorem Pth.ext_iff' {a b : Pth} : a = b ↔ a.flow = b.flow ∧ a.steps = b.steps := by
  cases a; cases b; simp
def mayB (n : Int) : Bool := decide (0 ≤ n) && decide (n ≤ 999999)
theorem mayB_iff {n : Int} : mayB n = true ↔ 0 ≤ n ∧ n ≤ 999999 := by unfold mayB; simp
def stpB (s : Stp) : Bool := nameB s.name && (decide (s.place = -1) || mayB s.place)
theorem stpB_iff {s : Stp} : stpB s = true ↔ nameB s.name = true ∧ (s.place = -1 ∨ (0 ≤ s.place ∧ s.place ≤ 999999)) := by unfold stpB; simp [mayB_iff]
def pthB (p : Pth) : Bool := mayB p.flow && p.steps.all stpB
theorem pthB_iff {p : Pth} : pthB p = true ↔ (0 ≤ p.flow ∧ p.flow ≤ 999999) ∧ ∀ s, s ∈ p.steps → stpB s = true := by unfold pthB; simp [mayB_iff]
/-- A step as it is shown. -/
def placeS (n : Int) : List UInt8 := if n = -1 then [] else 91 :: (Lib.itoa n ++ [93])
def stpS (s : Stp) : List UInt8 := 47 :: (s.name ++ placeS s.place)
def stepsS (l : List Stp) : List UInt8 := (l.map stpS).flatten
def pthS (p : Pth) : List UInt8 := Lib.itoa p.flow ++ stepsS p.steps
def showP (p : Pth) : List UInt8 := if pthB p = true then pthS p else []
theorem stepsS_nil : stepsS [] = [] := rfl
theorem stepsS_cons (s : Stp) (l : List Stp) : stepsS (s :: l) = stpS s ++ stepsS l := rfl
theorem stepsS_append (l m : List Stp) : stepsS (l ++ m) = stepsS l ++ stepsS m := by unfold stepsS; simp
def digB (c : UInt8) : Bool := decide (48 ≤ c.toNat) && decide (c.toNat ≤ 57)
theorem digB_iff {c : UInt8} : digB c = true ↔ 48 ≤ c.toNat ∧ c.toNat ≤ 57 := by unfold digB; simp
theorem dig_nat {d : Nat} (h : d < 10) : (UInt8.ofNat (48 + d)).toNat = 48 + d := by rw [UInt8.toNat_ofNat']; omega
theorem decDig_all (u : Nat) : ∀ c, c ∈ Lib.decDigits u → digB c = true := by
  induction u using Nat.strongRecOn with
  | _ u ih =>
    intro c hc
    rw [Lib.decDigits] at hc
    split at hc
    · rename_i h
      rw [List.mem_singleton] at hc
      subst hc
      rw [digB_iff, dig_nat h]; omega
    · rename_i h
      rcases List.mem_append.1 hc with hc | hc
      · exact ih (u / 10) (by omega) c hc
      · rw [List.mem_singleton] at hc
        subst hc
        rw [digB_iff, dig_nat (by omega)]; omega
theorem decDig_ne (u : Nat) : Lib.decDigits u ≠ [] := by
  rw [Lib.decDigits]
  split <;> simp
theorem itoa_decD {n : Int} (h : 0 ≤ n) : Lib.itoa n = Lib.decDigits n.toNat := by unfold Lib.itoa; rw [if_neg (by omega)]
theorem itoa_dig {n : Int} (h : 0 ≤ n) : ∀ c, c ∈ Lib.itoa n → digB c = true := by rw [itoa_decD h]; exact decDig_all _
theorem itoa_ne (n : Int) : Lib.itoa n ≠ [] := by
  unfold Lib.itoa
  split
  · simp
  · exact decDig_ne _
/-- How digits are read. -/
theorem parse_dec (u : Nat) : ∀ (r : List UInt8), u < 1000000000000 → Lib.parseUint10 0 (Lib.decDigits u ++ r) = Lib.parseUint10 u r := by
  induction u using Nat.strongRecOn with
  | _ u ih =>
    intro r hu
    rw [Lib.decDigits]
    split
    · rename_i h
      rw [List.singleton_append, Lib.parseUint10, dig_nat h, if_pos (by omega), if_neg (by omega), if_neg (by omega)]
      congr 1
      omega
    · rename_i h
      rw [List.append_assoc, ih (u / 10) (by omega) _ (by omega), List.singleton_append, Lib.parseUint10, dig_nat (by omega), if_pos (by omega), if_neg (by omega), if_neg (by omega)]
      congr 1
      omega
theorem atoi_itoa {n : Int} (h0 : 0 ≤ n) (h1 : n ≤ 999999) : Lib.atoiAll (Lib.itoa n) = .ok n := by
  have hne := itoa_ne n
  have hdg := itoa_dig h0
  have hp := parse_dec n.toNat [] (by omega)
  rw [List.append_nil, ← itoa_decD h0] at hp
  cases hl : Lib.itoa n with
  | nil => exact absurd hl hne
  | cons c r =>
    have hc := digB_iff.1 (hdg c (by rw [hl]; exact List.mem_cons_self ..))
    rw [hl] at hp
    unfold Lib.atoiAll
    simp only
    rw [if_neg (by omega)]
    unfold Lib.parseMag
    rw [if_neg (by simp), hp]
    simp only [Lib.parseUint10]
    rw [if_neg (by omega), if_neg (by omega), if_neg (by omega)]
    congr 1
    omega
/-- The number of digits, if they are just so. -/
def numI (s : List UInt8) : Option Int :=
  match Lib.atoiAll s with
  | .ok n => if mayB n = true ∧ Lib.itoa n = s then some n else none
  | _ => none
theorem numI_iff {s : List UInt8} {n : Int} : numI s = some n ↔ (0 ≤ n ∧ n ≤ 999999) ∧ Lib.itoa n = s := by
  unfold numI
  constructor
  · intro h
    split at h
    · split at h
      · rename_i h2
        cases h
        exact ⟨mayB_iff.1 h2.1, h2.2⟩
      · cases h
    · cases h
  · rintro ⟨h1, rfl⟩
    rw [atoi_itoa h1.1 h1.2]
    simp [mayB_iff.2 h1]

/-! ### pieces -/
/-- A text's pieces between slashes. -/
def split47 : List UInt8 → List (List UInt8)
  | [] => [[]]
  | c :: r => if c = 47 then [] :: split47 r else match split47 r with | p :: ps => (c :: p) :: ps | [] => [[c]]
theorem split47_ne : ∀ l, split47 l ≠ []
  | [] => by simp [split47]
  | c :: r => by
    rw [split47]
    split
    · simp
    · split <;> simp
theorem split47_no : ∀ (a : List UInt8), (∀ c, c ∈ a → c ≠ 47) → split47 a = [a]
  | [], _ => rfl
  | c :: r, h => by
    rw [split47, if_neg (h c (List.mem_cons_self ..)), split47_no r (fun d hd => h d (List.mem_cons_of_mem _ hd))]
theorem split47_at : ∀ (a r : List UInt8), (∀ c, c ∈ a → c ≠ 47) → split47 (a ++ 47 :: r) = a :: split47 r
  | [], r, _ => by rw [List.nil_append, split47, if_pos rfl]
  | c :: a, r, h => by
    rw [List.cons_append, split47, if_neg (h c (List.mem_cons_self ..)), split47_at a r (fun d hd => h d (List.mem_cons_of_mem _ hd))]
/-- A text is its pieces, joined. -/
def join47 : List (List UInt8) → List UInt8
  | [] => []
  | [p] => p
  | p :: ps => p ++ 47 :: join47 ps
theorem join47_cons (p : List UInt8) {ps : List (List UInt8)} (h : ps ≠ []) : join47 (p :: ps) = p ++ 47 :: join47 ps := by
  cases ps with
  | nil => exact absurd rfl h
  | cons q qs => rfl
theorem join47_split : ∀ l, join47 (split47 l) = l
  | [] => rfl
  | c :: r => by
    have ih := join47_split r
    have hne := split47_ne r
    rw [split47]
    split
    · rename_i h
      subst h
      rw [join47_cons _ hne, ih]; rfl
    · cases hs : split47 r with
      | nil => exact absurd hs hne
      | cons p ps =>
        rw [hs] at ih
        simp only
        cases ps with
        | nil => rw [join47] at ih ⊢; rw [ih]
        | cons q qs => rw [join47_cons _ (by simp)] at ih ⊢; rw [List.cons_append, ih]
theorem index_one : ∀ (a r : List UInt8) (c : UInt8), (∀ d, d ∈ a → d ≠ c) → Lib.index (a ++ c :: r) [c] = a.length
  | [], r, c, _ => by simp [Lib.index]
  | d :: a, r, c, h => by
    have hd := h d (List.mem_cons_self ..)
    have ih := index_one a r c (fun e he => h e (List.mem_cons_of_mem _ he))
    rw [List.cons_append, Lib.index, ih, if_neg (by simp [Ne.symm hd]), if_neg (by simp)]
    simp
theorem index_none : ∀ (a : List UInt8) (c : UInt8), (∀ d, d ∈ a → d ≠ c) → Lib.index a [c] = -1
  | [], c, _ => by simp [Lib.index]
  | d :: a, c, h => by
    have hd := h d (List.mem_cons_self ..)
    have ih := index_none a c (fun e he => h e (List.mem_cons_of_mem _ he))
    rw [Lib.index, ih, if_neg (by simp [Ne.symm hd])]
    simp
/-- A text that holds a byte, at its first one. -/
theorem first_of (c : UInt8) : ∀ (l : List UInt8), c ∈ l → ∃ a r, l = a ++ c :: r ∧ ∀ d, d ∈ a → d ≠ c
  | [], h => by cases h
  | d :: l, h => by
    by_cases hd : d = c
    · subst hd; exact ⟨[], l, rfl, by simp⟩
    · obtain ⟨a, r, e, k⟩ := first_of c l (by
        rcases List.mem_cons.1 h with h | h
        · exact absurd h.symm hd
        · exact h)
      refine ⟨d :: a, r, by rw [e]; rfl, fun e he => ?_⟩
      rcases List.mem_cons.1 he with he | he
      · rw [he]; exact hd
      · exact k e he
theorem cut_at (a r : List UInt8) (c : UInt8) (h : ∀ d, d ∈ a → d ≠ c) : Lib.cut (a ++ c :: r) [c] = (a, r, true) := by
  unfold Lib.cut
  rw [index_one a r c h, if_pos (by omega), Int.toNat_natCast]
  simp
theorem cut_no (a : List UInt8) (c : UInt8) (h : ∀ d, d ∈ a → d ≠ c) : Lib.cut a [c] = (a, [], false) := by
  unfold Lib.cut
  rw [index_none a c h, if_neg (by omega)]

/-! ### steps -/
/-- A step out of a piece. -/
def stepP (s : List UInt8) : Option Stp :=
  if (Lib.cut s [91]).2.2 = true then
    if Lib.hasSuffix (Lib.cut s [91]).2.1 [93] = true then (numI (Lib.trimSuffix (Lib.cut s [91]).2.1 [93])).bind fun n => if nameB (Lib.cut s [91]).1 = true then some ⟨(Lib.cut s [91]).1, n⟩ else none else none
  else if nameB (Lib.cut s [91]).1 = true then some ⟨(Lib.cut s [91]).1, -1⟩ else none
theorem letB_47 {c : UInt8} (h : letB c = true) : c ≠ 47 ∧ c ≠ 91 := by
  unfold letB at h
  simp only [Bool.or_eq_true, Bool.and_eq_true, decide_eq_true_eq] at h
  constructor <;> (rintro rfl; revert h; decide)
theorem digB_47 {c : UInt8} (h : digB c = true) : c ≠ 47 ∧ c ≠ 91 ∧ c ≠ 93 := by
  have := digB_iff.1 h
  refine ⟨?_, ?_, ?_⟩ <;> (rintro rfl; revert this; decide)
theorem nameB_47 {s : List UInt8} (h : nameB s = true) : ∀ c, c ∈ s → c ≠ 47 ∧ c ≠ 91 := fun c hc => letB_47 (List.all_eq_true.1 (nameB_iff.1 h).1 c hc)
theorem hasSuffix_snoc (a : List UInt8) (c : UInt8) : Lib.hasSuffix (a ++ [c]) [c] = true := by
  unfold Lib.hasSuffix
  rw [List.isSuffixOf_iff_suffix]
  exact ⟨a, rfl⟩
theorem trimSuffix_snoc (a : List UInt8) (c : UInt8) : Lib.trimSuffix (a ++ [c]) [c] = a := by
  unfold Lib.trimSuffix
  rw [if_pos (hasSuffix_snoc a c)]
  simp
theorem suffix_cases {s : List UInt8} {c : UInt8} (h : Lib.hasSuffix s [c] = true) : ∃ a, s = a ++ [c] := by
  unfold Lib.hasSuffix at h
  rw [List.isSuffixOf_iff_suffix] at h
  obtain ⟨a, e⟩ := h
  exact ⟨a, e.symm⟩
theorem stepP_iff {s : List UInt8} {x : Stp} : stepP s = some x ↔ stpB x = true ∧ 47 :: s = stpS x := by
  constructor
  · intro h
    unfold stepP at h
    by_cases hm : (91 : UInt8) ∈ s
    · obtain ⟨a, r, rfl, hk⟩ := first_of 91 s hm
      rw [cut_at a r 91 hk] at h
      simp only [if_true] at h
      split at h
      case isFalse => cases h
      rename_i hs
      obtain ⟨d, rfl⟩ := suffix_cases hs
      rw [trimSuffix_snoc] at h
      obtain ⟨n, h1, h2⟩ := Option.bind_eq_some_iff.1 h
      obtain ⟨h3, h4⟩ := numI_iff.1 h1
      split at h2
      case isFalse => cases h2
      rename_i h5
      cases h2
      refine ⟨stpB_iff.2 ⟨h5, .inr h3⟩, ?_⟩
      unfold stpS placeS
      simp only
      rw [if_neg (by omega), h4]
    · have hk : ∀ d, d ∈ s → d ≠ 91 := fun d hd e => hm (e ▸ hd)
      rw [cut_no s 91 hk] at h
      simp only [Bool.false_eq_true, if_false] at h
      split at h
      case isFalse => cases h
      rename_i h5
      cases h
      refine ⟨stpB_iff.2 ⟨h5, .inl rfl⟩, ?_⟩
      unfold stpS placeS
      simp
  · rintro ⟨h1, h2⟩
    obtain ⟨h3, h4⟩ := stpB_iff.1 h1
    unfold stpS at h2
    injection h2 with _ h2
    subst h2
    have hk := nameB_47 h3
    unfold stepP placeS
    rcases h4 with h4 | h4
    · rw [if_pos h4, List.append_nil, cut_no _ 91 (fun d hd => (hk d hd).2)]
      simp only [Bool.false_eq_true, if_false]
      rw [if_pos h3]
      congr 1
      rw [Stp.ext_iff']
      exact ⟨rfl, h4.symm⟩
    · have hne : ¬ x.place = -1 := by omega
      simp only [if_neg hne]
      rw [cut_at _ _ 91 (fun d hd => (hk d hd).2)]
      simp only [if_true]
      rw [if_pos (hasSuffix_snoc _ _), trimSuffix_snoc, numI_iff.2 ⟨h4, rfl⟩, Option.bind_some, if_pos h3]
/-- Steps out of pieces. -/
def stepsP : List (List UInt8) → Option (List Stp)
  | [] => some []
  | s :: r => (stepP s).bind fun x => (stepsP r).map (x :: ·)
theorem stepsP_snoc : ∀ (l : List (List UInt8)) (s : List UInt8), stepsP (l ++ [s]) = (stepsP l).bind fun r => (stepP s).map fun x => r ++ [x]
  | [], s => by
    rw [List.nil_append, stepsP, stepsP, Option.bind_some]
    cases stepP s <;> rfl
  | p :: l, s => by
    rw [List.cons_append, stepsP, stepsP_snoc l s, stepsP]
    cases stepP p with
    | none => rfl
    | some x =>
      cases stepsP l with
      | none => rfl
      | some r => cases stepP s <;> rfl
theorem stepsP_dead {l m : List (List UInt8)} (h : stepsP l = none) : stepsP (l ++ m) = none := by
  induction l with
  | nil => cases h
  | cons p l ih =>
    rw [List.cons_append]
    rw [stepsP] at h ⊢
    cases hp : stepP p with
    | none => rfl
    | some x =>
      rw [hp, Option.bind_some] at h
      rw [Option.bind_some]
      cases hl : stepsP l with
      | none => rw [ih hl]; rfl
      | some r => rw [hl] at h; cases h
theorem stepsP_iff : ∀ {l : List (List UInt8)} {m : List Stp}, stepsP l = some m ↔ (∀ x, x ∈ m → stpB x = true) ∧ l.map (fun s => 47 :: s) = m.map stpS
  | [], m => by
    rw [stepsP]
    constructor
    · intro h; cases h; exact ⟨by simp, rfl⟩
    · rintro ⟨-, h⟩
      cases m with
      | nil => rfl
      | cons _ _ => simp at h
  | s :: l, m => by
    rw [stepsP]
    constructor
    · intro h
      obtain ⟨x, h1, h2⟩ := Option.bind_eq_some_iff.1 h
      obtain ⟨r, h3, rfl⟩ := Option.map_eq_some_iff.1 h2
      obtain ⟨a1, a2⟩ := stepP_iff.1 h1
      obtain ⟨b1, b2⟩ := stepsP_iff.1 h3
      refine ⟨fun y hy => ?_, ?_⟩
      · rcases List.mem_cons.1 hy with rfl | hy
        · exact a1
        · exact b1 y hy
      · rw [List.map_cons, List.map_cons, a2, b2]
    · rintro ⟨h1, h2⟩
      cases m with
      | nil => simp at h2
      | cons x r =>
        rw [List.map_cons, List.map_cons] at h2
        injection h2 with h3 h4
        rw [stepP_iff.2 ⟨h1 x (List.mem_cons_self ..), h3⟩, Option.bind_some, stepsP_iff.2 ⟨fun y hy => h1 y (List.mem_cons_of_mem _ hy), h4⟩]
        rfl
/-- The path of an id. -/
def parseP (s : List UInt8) : Option Pth :=
  (numI ((split47 s).headD [])).bind fun n => (stepsP (split47 s).tail).bind fun l => if s.length ≤ 400 then some ⟨n, l⟩ else none
theorem flatten_join : ∀ (p : List UInt8) (ps : List (List UInt8)), join47 (p :: ps) = p ++ (ps.map fun s => 47 :: s).flatten
  | p, [] => by simp [join47]
  | p, q :: qs => by
    rw [join47_cons _ (by simp), flatten_join q qs]
    simp
/-- Pieces of a path as it is shown. -/
theorem stpS_no {x : Stp} (h : stpB x = true) : ∃ q, stpS x = 47 :: q ∧ ∀ c, c ∈ q → c ≠ 47 := by
  obtain ⟨h1, h2⟩ := stpB_iff.1 h
  refine ⟨_, rfl, fun c hc => ?_⟩
  rcases List.mem_append.1 hc with hc | hc
  · exact (nameB_47 h1 c hc).1
  · unfold placeS at hc
    split at hc
    · cases hc
    · rename_i hn
      rcases List.mem_cons.1 hc with rfl | hc
      · decide
      · rcases List.mem_append.1 hc with hc | hc
        · exact (digB_47 (itoa_dig (by omega) c hc)).1
        · rw [List.mem_singleton] at hc; subst hc; decide
theorem split_steps : ∀ (l : List Stp) (a : List UInt8), (∀ c, c ∈ a → c ≠ 47) → (∀ x, x ∈ l → stpB x = true) → ∃ qs, split47 (a ++ stepsS l) = a :: qs ∧ qs.map (fun s => 47 :: s) = l.map stpS
  | [], a, ha, _ => ⟨[], by rw [stepsS_nil, List.append_nil, split47_no a ha], rfl⟩
  | x :: l, a, ha, h => by
    obtain ⟨q, hq, hk⟩ := stpS_no (h x (List.mem_cons_self ..))
    obtain ⟨qs, h1, h2⟩ := split_steps l q hk (fun y hy => h y (List.mem_cons_of_mem _ hy))
    refine ⟨q :: qs, ?_, by rw [List.map_cons, List.map_cons, h2, hq]⟩
    rw [stepsS_cons, hq, List.cons_append, split47_at a _ ha, h1]
theorem parseP_iff {s : List UInt8} {p : Pth} : parseP s = some p ↔ pthB p = true ∧ pthS p = s ∧ s.length ≤ 400 := by
  constructor
  · intro h
    unfold parseP at h
    obtain ⟨n, h1, h⟩ := Option.bind_eq_some_iff.1 h
    obtain ⟨l, h2, h⟩ := Option.bind_eq_some_iff.1 h
    split at h
    case isFalse => cases h
    rename_i h3
    cases h
    obtain ⟨a1, a2⟩ := numI_iff.1 h1
    obtain ⟨b1, b2⟩ := stepsP_iff.1 h2
    refine ⟨pthB_iff.2 ⟨a1, b1⟩, ?_, h3⟩
    have hj := join47_split s
    cases hs : split47 s with
    | nil => exact absurd hs (split47_ne s)
    | cons q qs =>
      rw [hs] at hj a2 b2
      rw [flatten_join, show qs.map (fun s => 47 :: s) = l.map stpS from b2] at hj
      unfold pthS stepsS
      rw [a2]
      exact hj
  · rintro ⟨h1, rfl, h3⟩
    obtain ⟨a1, a2⟩ := pthB_iff.1 h1
    obtain ⟨qs, b1, b2⟩ := split_steps p.steps (Lib.itoa p.flow) (fun c hc => (digB_47 (itoa_dig a1.1 c hc)).1) a2
    unfold parseP
    rw [show split47 (pthS p) = Lib.itoa p.flow :: qs from b1, List.headD_cons, List.tail_cons, numI_iff.2 ⟨a1, rfl⟩, Option.bind_some, stepsP_iff.2 ⟨a2, b2⟩, Option.bind_some, if_pos h3]
theorem showP_right {p : Pth} (h : pthB p = true) : showP p = pthS p := by unfold showP; rw [if_pos h]
theorem pthS_ne (p : Pth) : pthS p ≠ [] := by
  unfold pthS
  have := itoa_ne p.flow
  simp [this]
/-- A text whose number is below 100. -/
def NumOk (s : List UInt8) : Prop := ∃ v : Nat, v < 100 ∧ Lib.atoiAll s = .ok (v : Int)
/-- A text without brackets. -/
def StpOk (s : List UInt8) : Prop := s.length ≤ 1000000 ∧ ∀ d, d ∈ s → d ≠ 91
/-- An id without brackets, its flow below 100. -/
structure IdOk (s : List UInt8) : Prop where
  len : s.length ≤ 1000000
  num : NumOk ((split47 s).headD [])
  stp : ∀ d, d ∈ s → d ≠ 91
theorem mem_join47 : ∀ {l : List (List UInt8)} {x : List UInt8} {d : UInt8}, x ∈ l → d ∈ x → d ∈ join47 l
  | [p], x, d, h, hd => by
    rw [List.mem_singleton] at h
    subst h
    simpa [join47] using hd
  | p :: q :: qs, x, d, h, hd => by
    rw [join47_cons _ (by simp)]
    rcases List.mem_cons.1 h with rfl | h
    · exact List.mem_append_left _ hd
    · exact List.mem_append_right _ (List.mem_cons_of_mem _ (mem_join47 h hd))
theorem IdOk.part {s x : List UInt8} (h : IdOk s) (hx : x ∈ split47 s) (hl : x.length ≤ 1000000) : StpOk x := by
  refine ⟨hl, fun d hd => h.stp d ?_⟩
  have := mem_join47 hx hd
  rwa [join47_split] at this
end Fm

namespace Fm
open Go Go.RowKit

/-! ### whose -/
def stpW (s : Stp) : Nat := if s.place = -1 then 1 else 2
def deepP (p : Pth) : Nat := (p.steps.map stpW).sum
def upS (x : Stp) : List Stp := if x.place = -1 then [] else [⟨x.name, -1⟩]
def upP (p : Pth) : Option Pth :=
  match p.steps.getLast? with
  | none => none
  | some x => some ⟨p.flow, p.steps.dropLast ++ upS x⟩
theorem upP_nil {p : Pth} (h : p.steps = []) : upP p = none := by unfold upP; rw [h]; rfl
theorem upP_snoc {p : Pth} {l : List Stp} {x : Stp} (h : p.steps = l ++ [x]) : upP p = some ⟨p.flow, l ++ upS x⟩ := by
  unfold upP; rw [h]; simp
theorem snoc_cases {α : Type} (l : List α) : l = [] ∨ ∃ m x, l = m ++ [x] := by
  rcases List.eq_nil_or_concat l with h | ⟨m, x, h⟩
  · exact .inl h
  · exact .inr ⟨m, x, by rw [h, List.concat_eq_append]⟩
theorem upP_some {p q : Pth} (h : upP p = some q) : ∃ l x, p.steps = l ++ [x] ∧ q = ⟨p.flow, l ++ upS x⟩ := by
  rcases snoc_cases p.steps with h1 | ⟨l, x, h1⟩
  · rw [upP_nil h1] at h; cases h
  · rw [upP_snoc h1] at h; injection h with h
    exact ⟨l, x, h1, h.symm⟩
theorem deep_append (f : Int) (l m : List Stp) : deepP ⟨f, l ++ m⟩ = deepP ⟨f, l⟩ + deepP ⟨f, m⟩ := by unfold deepP; simp
theorem upP_deep {p q : Pth} (h : upP p = some q) : deepP p = deepP q + 1 := by
  obtain ⟨l, x, h1, rfl⟩ := upP_some h
  obtain ⟨f, s⟩ := p
  simp only at h1
  subst h1
  rw [deep_append, deep_append]
  have : deepP ⟨f, [x]⟩ = deepP ⟨f, upS x⟩ + 1 := by
    unfold deepP upS stpW
    by_cases hx : x.place = -1
    · simp [hx]
    · simp [hx]
  simp only
  omega
theorem upP_right {p q : Pth} (hp : pthB p = true) (h : upP p = some q) : pthB q = true := by
  obtain ⟨l, x, h1, rfl⟩ := upP_some h
  obtain ⟨a, b⟩ := pthB_iff.1 hp
  refine pthB_iff.2 ⟨a, fun s hs => ?_⟩
  rw [h1] at b
  rcases List.mem_append.1 hs with hs | hs
  · exact b s (List.mem_append_left _ hs)
  · have hx := b x (by simp)
    unfold upS at hs
    split at hs
    · cases hs
    · rw [List.mem_singleton] at hs
      subst hs
      exact stpB_iff.2 ⟨(stpB_iff.1 hx).1, .inl rfl⟩
theorem upP_len {p q : Pth} (h : upP p = some q) : (pthS q).length < (pthS p).length := by
  obtain ⟨l, x, h1, rfl⟩ := upP_some h
  unfold pthS
  rw [h1, stepsS_append, stepsS_append]
  simp only [List.length_append]
  have : (stepsS (upS x)).length < (stepsS [x]).length := by
    unfold upS
    split
    · simp [stepsS, stpS]
    · rename_i hx
      simp [stepsS, stpS, placeS, hx]
  omega
/-- All that are above, the nearest ahead. -/
def chainF : Nat → Pth → List Pth
  | 0, _ => []
  | n + 1, p => match upP p with
    | none => []
    | some q => q :: chainF n q
def chainP (p : Pth) : List Pth := chainF (deepP p) p
theorem chainP_some {p q : Pth} (h : upP p = some q) : chainP p = q :: chainP q := by
  unfold chainP
  rw [upP_deep h, chainF, h]
noncomputable def aboveP (p q : Pth) : Bool := @decide (p ∈ chainP q) (Classical.propDecidable _)
theorem aboveP_iff {p q : Pth} : aboveP p q = true ↔ p ∈ chainP q := by unfold aboveP; exact @decide_eq_true_iff _ (Classical.propDecidable _)
/-- A way to compare: below 0 the first one is ahead. -/
structure GoodC {α : Type} (c : α → α → Int) : Prop where
  zero : ∀ x y, c x y = 0 ↔ x = y
  neg : ∀ x y, c y x = - c x y
  trans : ∀ x y z, c x y < 0 → c y z < 0 → c x z < 0
theorem GoodC.self {α : Type} {c : α → α → Int} (h : GoodC c) (x : α) : c x x = 0 := (h.zero x x).2 rfl
def cmpI (a b : Int) : Int := if a < b then -1 else if b < a then 1 else 0
theorem cmpI_good : GoodC cmpI where
  zero x y := by unfold cmpI; split <;> (try split) <;> omega
  neg x y := by unfold cmpI; split <;> split <;> (try split) <;> omega
  trans x y z := by unfold cmpI; split <;> split <;> (try split) <;> (try split) <;> (try split) <;> omega
noncomputable def cmpB (a b : List UInt8) : Int := if a < b then -1 else if b < a then 1 else 0
theorem lt_tri (a b : List UInt8) : a < b ∨ a = b ∨ b < a := by
  by_cases h : a < b
  · exact .inl h
  · by_cases h2 : b < a
    · exact .inr (.inr h2)
    · exact .inr (.inl (List.le_antisymm (List.not_lt.1 h2) (List.not_lt.1 h)))
theorem cmpB_good : GoodC cmpB where
  zero x y := by
    unfold cmpB
    have h := lt_tri x y
    have hi : ∀ a : List UInt8, ¬ a < a := fun a => List.lt_irrefl a
    by_cases h1 : x < y
    · rw [if_pos h1]
      exact ⟨fun h => by omega, fun e => absurd (e ▸ h1) (hi _)⟩
    · rw [if_neg h1]
      by_cases h2 : y < x
      · rw [if_pos h2]
        exact ⟨fun h => by omega, fun e => absurd (e ▸ h2) (hi _)⟩
      · rw [if_neg h2]
        refine ⟨fun _ => ?_, fun _ => rfl⟩
        rcases h with h | h | h
        · exact absurd h h1
        · exact h
        · exact absurd h h2
  neg x y := by
    unfold cmpB
    by_cases h1 : x < y
    · have h2 : ¬ y < x := fun h => List.lt_irrefl x (List.lt_trans h1 h)
      rw [if_neg h2, if_pos h1, if_pos h1]; rfl
    · by_cases h2 : y < x
      · rw [if_pos h2, if_neg h1, if_pos h2]
      · rw [if_neg h2, if_neg h1, if_neg h1, if_neg h2]; rfl
  trans x y z := by
    unfold cmpB
    intro h1 h2
    have a1 : x < y := by
      by_cases h : x < y
      · exact h
      · rw [if_neg h] at h1; split at h1 <;> omega
    have a2 : y < z := by
      by_cases h : y < z
      · exact h
      · rw [if_neg h] at h2; split at h2 <;> omega
    rw [if_pos (List.lt_trans a1 a2)]; omega
/-- The first one that is not 0. -/
def orI (a b : Int) : Int := if a = 0 then b else a
theorem orI_good {α β γ : Type} {c : α → α → Int} {d : β → β → Int} (hc : GoodC c) (hd : GoodC d) (f : γ → α) (g : γ → β) (hfg : ∀ x y, f x = f y → g x = g y → x = y) : GoodC (fun x y => orI (c (f x) (f y)) (d (g x) (g y))) where
  zero x y := by
    unfold orI
    constructor
    · intro h
      by_cases h1 : c (f x) (f y) = 0
      · simp only [h1, if_true] at h
        exact hfg x y ((hc.zero _ _).1 h1) ((hd.zero _ _).1 h)
      · simp only [h1, if_false] at h
    · rintro rfl
      simp [hc.self, hd.self]
  neg x y := by
    unfold orI
    have h := hc.neg (f x) (f y)
    have k := hd.neg (g x) (g y)
    simp only [h, k]
    split <;> split <;> omega
  trans x y z := by
    unfold orI
    intro h1 h2
    by_cases e1 : c (f x) (f y) = 0
    · have e1' := (hc.zero _ _).1 e1
      rw [if_pos e1] at h1
      by_cases e2 : c (f y) (f z) = 0
      · rw [if_pos e2] at h2
        rw [e1', if_pos e2]
        exact hd.trans _ _ _ h1 h2
      · rw [if_neg e2] at h2
        rw [e1', if_neg e2]; exact h2
    · rw [if_neg e1] at h1
      by_cases e2 : c (f y) (f z) = 0
      · have e2' := (hc.zero _ _).1 e2
        rw [← e2', if_neg e1]; exact h1
      · rw [if_neg e2] at h2
        have := hc.trans _ _ _ h1 h2
        rw [if_neg (by omega)]; exact this
noncomputable def cmpS (x y : Stp) : Int := orI (cmpB x.name y.name) (cmpI x.place y.place)
theorem cmpS_good : GoodC cmpS := orI_good cmpB_good cmpI_good Stp.name Stp.place (fun _ _ h1 h2 => Stp.ext_iff'.2 ⟨h1, h2⟩)
noncomputable def cmpL : List Stp → List Stp → Int
  | [], [] => 0
  | [], _ :: _ => -1
  | _ :: _, [] => 1
  | x :: l, y :: m => orI (cmpS x y) (cmpL l m)
theorem cmpL_good : GoodC cmpL where
  zero := by
    intro x
    induction x with
    | nil => intro y; cases y <;> simp [cmpL]
    | cons a l ih =>
      intro y
      cases y with
      | nil => simp [cmpL]
      | cons b m =>
        simp only [cmpL, orI]
        by_cases h : cmpS a b = 0
        · rw [if_pos h, ih m, (cmpS_good.zero _ _).1 h]; simp
        · rw [if_neg h]
          refine ⟨fun e => absurd e h, fun e => ?_⟩
          injection e with e1 e2
          exact absurd ((cmpS_good.zero _ _).2 e1) h
  neg := by
    intro x
    induction x with
    | nil => intro y; cases y <;> simp [cmpL]
    | cons a l ih =>
      intro y
      cases y with
      | nil => simp [cmpL]
      | cons b m =>
        simp only [cmpL, orI, cmpS_good.neg a b, ih m]
        split <;> split <;> omega
  trans := by
    intro x
    induction x with
    | nil =>
      intro y z
      cases y <;> cases z <;> simp [cmpL]
    | cons a l ih =>
      intro y z
      cases y with
      | nil => simp [cmpL]
      | cons b m =>
        cases z with
        | nil => simp [cmpL]
        | cons d n =>
          simp only [cmpL, orI]
          intro h1 h2
          by_cases e1 : cmpS a b = 0
          · have e1' := (cmpS_good.zero _ _).1 e1
            rw [if_pos e1] at h1
            subst e1'
            by_cases e2 : cmpS a d = 0
            · rw [if_pos e2] at h2 ⊢
              exact ih m n h1 h2
            · rw [if_neg e2] at h2 ⊢; exact h2
          · rw [if_neg e1] at h1
            by_cases e2 : cmpS b d = 0
            · have e2' := (cmpS_good.zero _ _).1 e2
              subst e2'
              rw [if_neg e1]; exact h1
            · rw [if_neg e2] at h2
              have := cmpS_good.trans _ _ _ h1 h2
              rw [if_neg (by omega)]; exact this
noncomputable def thanP (p q : Pth) : Int := orI (cmpI p.flow q.flow) (cmpL p.steps q.steps)
theorem thanP_good : GoodC thanP := orI_good cmpI_good cmpL_good Pth.flow Pth.steps (fun _ _ h1 h2 => Pth.ext_iff'.2 ⟨h1, h2⟩)
end Fm

namespace Fm
open Go Go.RowKit

def ownerS (s : List UInt8) : Option (List UInt8) := (parseP s).bind fun p => (upP p).map showP
noncomputable def aboveS (a b : List UInt8) : Bool :=
  match parseP a with
  | none => false
  | some p => match parseP b with
    | none => false
    | some q => aboveP p q
noncomputable def lessS (a b : List UInt8) : Bool :=
  match parseP a with
  | none => false
  | some p => match parseP b with
    | none => false
    | some q => decide (thanP p q < 0)
theorem parseP_show {s : List UInt8} {p : Pth} (h : parseP s = some p) : pthB p = true ∧ showP p = s ∧ pthS p = s ∧ s.length ≤ 400 ∧ s ≠ [] := by
  obtain ⟨a, b, c⟩ := parseP_iff.1 h
  exact ⟨a, by rw [showP_right a, b], b, c, by rw [← b]; exact pthS_ne p⟩
theorem parseP_of {p : Pth} (h : pthB p = true) (hl : (pthS p).length ≤ 400) : parseP (pthS p) = some p := parseP_iff.2 ⟨h, rfl, hl⟩
theorem parseP_up {s : List UInt8} {p q : Pth} (h : parseP s = some p) (hu : upP p = some q) : parseP (pthS q) = some q ∧ showP q = pthS q := by
  obtain ⟨a, b, c⟩ := parseP_iff.1 h
  have hq := upP_right a hu
  have hl := upP_len hu
  exact ⟨parseP_of hq (by rw [b] at hl; omega), showP_right hq⟩
/-- One is directly above the other. -/
def Kid (s x : List UInt8) : Prop := ∃ p q, parseP s = some p ∧ parseP x = some q ∧ upP q = some p
theorem Kid.owner {s x : List UInt8} (h : Kid s x) : ownerS x = some s := by
  obtain ⟨p, q, h1, h2, h3⟩ := h
  unfold ownerS
  rw [h2, Option.bind_some, h3, Option.map_some, (parseP_show h1).2.1]
theorem Kid.top {s x t : List UInt8} (h : Kid s x) (ht : ownerS s = some t) : aboveS t x = true := by
  obtain ⟨p, q, h1, h2, h3⟩ := h
  unfold ownerS at ht
  rw [h1, Option.bind_some] at ht
  obtain ⟨r, h4, h5⟩ := Option.map_eq_some_iff.1 ht
  obtain ⟨h6, h7⟩ := parseP_up h1 h4
  rw [h7] at h5
  subst h5
  unfold aboveS
  rw [h6, h2]
  rw [aboveP_iff, chainP_some h3, chainP_some h4]
  simp
/-! ### which is ahead -/
end Fm

namespace Fm
open Go Go.RowKit

/-- An operation. -/
structure Opn where
  what : UInt8
  id : List UInt8
  tok : Int
  val : Tr
  frg : List It
  quo : Int

def zT : Tr := .node 0 0 [] []
/-- Numbers that 64 bits hold. -/
def opWf (o : Opn) : Prop := o.id.length ≤ 9223372036854775807 ∧ isI64 o.tok ∧ NumsT o.val ∧ isI64 o.quo

/-- An operation that is handed in. -/
def OpV (w : World) (o : Opn) (v : Value) : Prop :=
  ∃ (k n s d : Value) (a : Option Addr) (m c : Nat), v = .agg #[.int .u8 (o.what.toNat : Int), .string (str o.id), .int .i64 o.tok, k, n, s, d, .slice a m c, .int .i64 o.quo] ∧ Lies w o.val (.agg #[k, n, s, d]) ∧ itE.Row w o.frg (.slice a m c) ∧ o.id.length ≤ 9223372036854775807 ∧ isI64 o.tok ∧ isI64 o.quo
theorem OpV.ext {w w' : World} {o : Opn} {v : Value} (h : OpV w o v) (hE : Ext w w') : OpV w' o v := by
  obtain ⟨k, n, s, d, a, m, c, h1, h2, h3, h4⟩ := h
  exact ⟨k, n, s, d, a, m, c, h1, h2.ext hE, h3.ext hE, h4⟩
theorem OpV.wf {w : World} {o : Opn} {v : Value} (h : OpV w o v) : opWf o := by
  obtain ⟨k, n, s, d, a, m, c, h1, h2, h3, h4, h5, h6⟩ := h
  exact ⟨h4, h5, h2.nums, h6⟩
theorem u8_is {k : UInt8} {n : Nat} (hn : n < 256) (h : k.toNat = n) : k = UInt8.ofNat n := UInt8.toNat_inj.1 (by rw [h, UInt8.toNat_ofNat']; omega)
/-- A call's results' box is written on the way. -/
structure OSt (w W : World) (vs : List Value) : Prop where
  e : Ext w W
  b : BoxL W w.heap.size vs
theorem OSt.set {w W : World} {vs : List Value} (h : OSt w W vs) (j : Nat) (hj : j < vs.length) (u : Value) : OSt w (W.setCell ⟨w.heap.size, j, none⟩ u) (vs.set j u) :=
  ⟨h.e.setCell (p := ⟨w.heap.size, j, none⟩) (Nat.le_refl _) u, h.b.set j hj u⟩
theorem OSt.ext {w W W' : World} {vs : List Value} (h : OSt w W vs) (hE : Ext W W') : OSt w W' vs := ⟨h.e.trans hE, h.b.ext hE⟩
end Fm
