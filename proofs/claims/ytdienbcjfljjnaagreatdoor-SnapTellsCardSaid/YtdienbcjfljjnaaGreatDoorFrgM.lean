/- The reference's read of an item: what it comes to, its way out. -/
import Derived.Shelf.Strings.Builder1
import Derived.Shelf.LaysM
import Derived.Shelf.Strconv.Itoa4
import Derived.Test.YtdienbcjfljjnaaGreatDoorProg
import Derived.Test.YtdienbcjfljjnaaGreatDoorVaM
import Derived.Test.YtdienbcjfljjnaaGreatDoorPlA
import Derived.Test.YtdienbcjfljjnaaGreatDoorWireR
import Derived.Test.YtdienbcjfljjnaaGreatDoorValL
import Derived.Test.YtdienbcjfljjnaaGreatDoorFrgA
import Derived.Test.YtdienbcjfljjnaaGreatDoorWireB
import Derived.Test.YtdienbcjfljjnaaGreatDoorShelfF
import Derived.Deep.RegionHeld3
import Derived.Deep.CutRange
import Derived.Deep.Cut
open Go.RowKit Go.Shelf
namespace Go.Proofs.YtdienbcjfljjnaaGreatDoor
open Go Go.Proofs Fm

/-- In which block its buffer lies. -/
def bufAt (w : World) (b : Nat) : Option Nat := match w.heap[b]? with
  | some (.cells cs _ _) => (cs.getD 1 undef).ownBlock
  | _ => none
/-- Block k is none of the builder's. -/
def Apart (w : World) (b k : Nat) : Prop := k < w.heap.size ∧ k ≠ b ∧ bufAt w b ≠ some k
/-- What is none of the builder's stays as it is, and none of its. -/
def Keep (b : Nat) (w w' : World) : Prop := ∀ k, Apart w b k → w'.heap[k]? = w.heap[k]? ∧ Apart w' b k
theorem Keep.refl (b : Nat) (w : World) : Keep b w w := fun _ h => ⟨rfl, h⟩
theorem Keep.trans {b : Nat} {x y z : World} (h : Keep b x y) (k : Keep b y z) : Keep b x z := fun i hi => by
  obtain ⟨a1, a2⟩ := h i hi
  obtain ⟨b1, b2⟩ := k i a2
  exact ⟨b1.trans a1, b2⟩
/-- 'append(s, x...)', s of one's own, x any slice of bytes; and where it lies. -/
theorem appBt {w : World} {ops : Array Oper} {rest : List Oper} {o : Oper} {a : Act} {Q : Exit → Act → World → Prop}
    (hg : Region.wanted o (yielded ops a.tmps) = true) (s x : Operand) (hop : o.op = Op.call { callee := Callee.builtin Builtin.append, args := #[s, x], argTypes := #[27, 27] }) {base : Nat}
    {v : Value} {xs : List UInt8} (hs : a.eval s = v) (hown : OwnB base w v xs) {X : Value} {ys : List UInt8} (hx : a.eval x = X) (hsrc : Bytes w X ys)
    (b1 : xs.length + ys.length ≤ 70368744177664) (b3 : base ≤ w.heap.size)
    (hK : ∀ v' w', OwnB base w' v' (xs ++ ys) → w.grownBy w' v.ownBlock → (v'.ownBlock = v.ownBlock ∨ v'.ownBlock = some w.heap.size) → wpList Tryz.prog ops Q rest (a.put o.dst v') w') :
    wpList Tryz.prog ops Q (o :: rest) a w := by
  refine wpList_appAt w elem_u8 hg s x 27 hop base v _ _ hs hown X _ _ hx (Src.bytes Tryz.underlying27 hsrc) (by unfold maxLen; omega) (by omega) b3 (fun v' w' h1 h2 h3 => hK v' w' ?_ h2 h3)
  unfold OwnB; rw [List.length_append, List.map_append]; exact h1
end Go.Proofs.YtdienbcjfljjnaaGreatDoor

open Go.RowKit Go.Shelf
namespace Go.Proofs.YtdienbcjfljjnaaGreatDoor
open Go Go.Proofs Fm

/-- append onto bytes of one's own beside a box. -/
theorem appN {w : World} {ops : Array Oper} {rest : List Oper} {o : Oper} {a : Act} {Q : Exit → Act → World → Prop}
    (hg : Region.wanted o (yielded ops a.tmps) = true) (s x : Operand) (hop : o.op = Op.call { callee := Callee.builtin Builtin.append, args := #[s, x], argTypes := #[27, 27] }) {base : Nat}
    {v : Value} {xs : List UInt8} (hs : a.eval s = v) (hown : OwnB base w v xs) {X : Value} {ys : List UInt8} (hx : a.eval x = X) (hsrc : Bytes w X ys)
    (b1 : xs.length + ys.length ≤ 70368744177664) (b3 : base ≤ w.heap.size) {B : Nat} {vs : List Value} (hB : BoxL w B vs) (hne : v.ownBlock ≠ some B)
    (hK : ∀ v' w', OwnB base w' v' (xs ++ ys) → v'.ownBlock ≠ some B → BoxL w' B vs → Below base w w' → wpList Tryz.prog ops Q rest (a.put o.dst v') w') :
    wpList Tryz.prog ops Q (o :: rest) a w := by
  refine appBt hg s x hop hs hown hx hsrc b1 b3 (fun v' w' h1 h2 h3 => hK v' w' h1 ?_ (hB.kept h2 hne) ((Below.refl base w).grown h2 b3 (Fm.own_lt hown)))
  rcases h3 with h | h
  · rw [h]; exact hne
  · rw [h]; intro e; injection e with e; have := hB.lt; omega

end Go.Proofs.YtdienbcjfljjnaaGreatDoor

open Go.RowKit Go.Shelf
namespace Go.Proofs.YtdienbcjfljjnaaGreatDoor
open Go Go.Proofs Fm

set_option maxHeartbeats 2000000 in
theorem rid_any (s : List UInt8) (hs : s.length ≤ 9223372036854775807) (w : World) :
    Calls Tryz.prog 21 #[.string (str s)] w fun e w' => e = .returned (.bool (idB s)) ∧ w = w' := by
  have hss := str_size s
  go_enter Tryz.func21, Tryz.ntmps21
  go_wp2_with fail
  go_loop [3] (fun i => ∃ j : Nat, j ≤ s.length ∧ i = .int .i64 j ∧ Hid ((s.take j).all idC = true)) (fun i => s.length - (intOf i).toNat)
  case atStart => exact ⟨0, by omega, rfl, Lib.hid (by simp)⟩
  case round =>
    obtain ⟨j, hj, rfl, HA⟩ := hrel
    by_cases hlt : j < s.length
    · obtain ⟨x, hx⟩ : ∃ x, x = s[j]?.getD 0 := ⟨_, rfl⟩
      have hxs : x = s[j] := by rw [hx]; simp [hlt]
      have hix := run_index_str (P := Tryz.prog) Tryz.underlying9 s j hlt
      rw [← hx] at hix
      have HI := Lib.hid hxs
      clear hx hxs
      cases hb : idC x with
      | true =>
        have HB := Lib.hid hb
        unfold idC at hb
        simp only [Bool.and_eq_true, decide_eq_true_eq] at hb
        generalize hz : (x.toNat : Int) = z at *
        have z1 : ¬ z < 33 := by omega
        have z2 : ¬ 126 < z := by omega
        clear hb hz
        go_wp2
        go_round
        case rel => exact ⟨j + 1, by omega, by go_num, Lib.hid (all_at hlt HA.out (by rw [← HI.out]; exact HB.out))⟩
        case measure => simp [intOf]; omega
      | false =>
        have HB := Lib.hid (show idB s = false by
          unfold idB; rw [all_not hlt (by rw [← HI.out]; exact hb)]; rfl)
        unfold idC at hb
        simp only [Bool.and_eq_false_iff, decide_eq_false_iff_not] at hb
        generalize hz : (x.toNat : Int) = z at *
        have hz2 : z < 33 ∨ (¬ z < 33 ∧ 126 < z) := by omega
        clear hb hz HA HI
        rcases hz2 with k1 | ⟨k1, k2⟩
        all_goals
          go_wp2
          go_ret
          exact ⟨by rw [HB.out]; rfl, rfl⟩
    · have hjl : j = s.length := by omega
      have HA2 := Lib.hid (show s.all idC = true by have := HA.out; rwa [hjl, List.take_length] at this)
      clear HA
      by_cases h1 : 1 ≤ s.length
      case neg =>
        have HX := Lib.hid (idB_short h1)
        have h1' : ¬ (1 : Int) ≤ (s.length : Int) := by omega
        clear hjl
        go_wp2
        go_ret
        exact ⟨by rw [HX.out]; rfl, rfl⟩
      have h1' : (1 : Int) ≤ (s.length : Int) := by omega
      by_cases h2 : s.length ≤ 400
      case neg =>
        have HX := Lib.hid (idB_long h2)
        have h2' : ¬ (s.length : Int) ≤ 400 := by omega
        clear hjl
        go_wp2
        go_ret
        exact ⟨by rw [HX.out]; rfl, rfl⟩
      have h2' : (s.length : Int) ≤ 400 := by omega
      have HX := Lib.hid ((idB_all h1 h2).trans HA2.out)
      clear hjl
      go_wp2
      go_ret
      exact ⟨by rw [HX.out]; rfl, rfl⟩

end Go.Proofs.YtdienbcjfljjnaaGreatDoor

open Go.RowKit Go.Shelf
namespace Go.Proofs.YtdienbcjfljjnaaGreatDoor
open Go Go.Proofs Fm

/-- What a step of the reader comes to. -/
def RdfPost (w0 w : World) (R : Nat) (x : Value) (s : Option (List UInt8)) (e : Ending) (w' : World) : Prop := e = .returned x ∧ RdS w0 w' R s ∧ w.grownBy w' (some R)

end Go.Proofs.YtdienbcjfljjnaaGreatDoor

/- Walks: frag's reader: many texts. -/
open Go.RowKit Go.Shelf
namespace Go.Proofs.YtdienbcjfljjnaaGreatDoor
open Go Go.Proofs Fm

end Go.Proofs.YtdienbcjfljjnaaGreatDoor

/- Walks: frag's reader: an item. -/
open Go.RowKit Go.Shelf
namespace Go.Proofs.YtdienbcjfljjnaaGreatDoor
open Go Go.Proofs Fm

theorem _root_.Fm.OwnS.far {e : TypeId} {base : Nat} {w : World} {v : Value} {l : List (List UInt8)} (h : OwnS e base w v l) {B : Nat} (hB : B < base) (j : Nat) (u : Value) : OwnS e base (w.setCell ⟨B, j, none⟩ u) v l :=
  h.kept (setOne_grown w B j u) (fun b hb e => by injection e with e; have := (h.block b hb).1; omega)
end Go.Proofs.YtdienbcjfljjnaaGreatDoor

/- Walks: frag's reader: many items; Take, Parse. -/
open Go.RowKit Go.Shelf
namespace Go.Proofs.YtdienbcjfljjnaaGreatDoor
open Go Go.Proofs Fm

abbrev OwnFF := OwnF 138 9

theorem ownF_slice {base : Nat} {w : World} {v : Value} {l : List It} (h : OwnFF base w v l) : ∃ (a : Option Addr) (c : Nat), v = .slice a l.length c := by
  obtain ⟨a, c, h, _⟩ := h.row.slice
  exact ⟨a, c, h⟩

end Go.Proofs.YtdienbcjfljjnaaGreatDoor

open Go.RowKit Go.Shelf
namespace Go.Proofs.YtdienbcjfljjnaaGreatDoor
open Go Go.Proofs Fm

theorem tval_from (v : Value) (xs : List UInt8) (w0 w : World) (hE : Ext w0 w) (h : Bytes w0 v xs) :
    Calls Tryz.prog 92 #[v] w fun e w' => Ext w w' ∧ ((takeV' xs = none ∧ e = .returned (.tuple #[.agg #[.int .u8 0, .int .i64 0, .string (str []), .slice none 0 0], .slice none 0 0, .int .i64 30])) ∨
      ∃ (t : Tr) (r : List UInt8) (rv : Value) (k n : Int) (s : ByteArray) (a : Option Addr) (m c : Nat), takeV' xs = some (t, r) ∧ Bytes w0 rv r ∧ OwnT 43 w' w.heap.size t (.agg #[.int .u8 k, .int .i64 n, .string s, .slice a m c]) ∧ e = .returned (.tuple #[.agg #[.int .u8 k, .int .i64 n, .string s, .slice a m c], rv, .int .i64 0])) := by
  refine (vtake_from v xs w0 w hE h).mono ?_
  intro e w' hp
  unfold TakePost0 at hp
  cases hT : takeV' xs with
  | none =>
    rw [hT] at hp
    obtain ⟨rfl, hE1⟩ := hp
    exact ⟨hE1, .inl ⟨rfl, rfl⟩⟩
  | some p =>
    obtain ⟨t, r⟩ := p
    rw [hT] at hp
    obtain ⟨v1, vr, rfl, hE1, hO, hb⟩ := hp
    obtain ⟨k, n, s, a, m, c, rfl⟩ := ownT_four hO
    exact ⟨hE1, .inr ⟨t, r, vr, k, n, s, a, m, c, rfl, hb, hO, rfl⟩⟩
/-- The cells of an operation; one in memory of its own. -/
def opCells (o : Opn) (k n s d f : Value) : List Value := [.int .u8 (o.what.toNat : Int), .string (str o.id), .int .i64 o.tok, k, n, s, d, f, .int .i64 o.quo]
def OpOwn (base : Nat) (w : World) (o : Opn) (cs : List Value) : Prop :=
  ∃ (k n s d f : Value), cs = opCells o k n s d f ∧ OwnT 43 w base o.val (.agg #[k, n, s, d]) ∧ OwnFF base w f o.frg ∧ o.id.length ≤ 9223372036854775807 ∧ isI64 o.tok ∧ isI64 o.quo
end Go.Proofs.YtdienbcjfljjnaaGreatDoor

open Go.RowKit Go.Shelf
namespace Go.Proofs.YtdienbcjfljjnaaGreatDoor
open Go Go.Proofs Fm

theorem OpOwn.ext {base : Nat} {w w' : World} {o : Opn} {cs : List Value} (h : OpOwn base w o cs) (hE : Ext w w') : OpOwn base w' o cs := by
  obtain ⟨k, n, s, d, f, h1, h2, h3, h4⟩ := h
  exact ⟨k, n, s, d, f, h1, h2.ext hE, h3.ext hE, h4⟩
theorem OpOwn.kept {base : Nat} {w w' : World} {o : Opn} {cs : List Value} {row : Option Nat} (h : OpOwn base w o cs) (hg : w.grownBy w' row) (hr : ∀ b, row = some b → b < base) : OpOwn base w' o cs := by
  obtain ⟨k, n, s, d, f, h1, h2, h3, h4⟩ := h
  exact ⟨k, n, s, d, f, h1, h2.grown hg hr, h3.kept hg hr, h4⟩
theorem OpOwn.mono {base base' : Nat} {w : World} {o : Opn} {cs : List Value} (h : OpOwn base w o cs) (hb : base' ≤ base) : OpOwn base' w o cs := by
  obtain ⟨k, n, s, d, f, h1, h2, h3, h4⟩ := h
  exact ⟨k, n, s, d, f, h1, h2.mono hb, h3.mono hb, h4⟩
theorem OpOwn.v {base : Nat} {w : World} {o : Opn} {c0 c1 c2 c3 c4 c5 c6 c7 c8 : Value} (h : OpOwn base w o [c0, c1, c2, c3, c4, c5, c6, c7, c8]) : OpV w o (.agg #[c0, c1, c2, c3, c4, c5, c6, c7, c8]) := by
  obtain ⟨k, n, s, d, f, h1, h2, h3, h4⟩ := h
  obtain ⟨a, c, rfl⟩ := ownF_slice h3
  unfold opCells at h1
  injection h1 with e0 h1
  injection h1 with e1 h1
  injection h1 with e2 h1
  injection h1 with e3 h1
  injection h1 with e4 h1
  injection h1 with e5 h1
  injection h1 with e6 h1
  injection h1 with e7 h1
  injection h1 with e8 h1
  subst e0 e1 e2 e3 e4 e5 e6 e7 e8
  exact ⟨_, _, _, _, a, _, c, rfl, h2.lies, h3.row, h4⟩
end Go.Proofs.YtdienbcjfljjnaaGreatDoor

open Go.RowKit Go.Shelf
namespace Go.Proofs.YtdienbcjfljjnaaGreatDoor
open Go Go.Proofs Fm

/-- The two boxes of read: the results', and the item's. -/
structure RS9 (w W : World) (vs : List Value) : Prop where
  e : Ext w W
  p : BoxL W w.heap.size [.string { data := #[] }, .int .u8 0, .slice none 0 0, .string { data := #[] }, .int .i64 0, .int .i64 0]
  v : BoxL W (w.heap.size + 1) vs
theorem RS9.set {w W : World} {vs : List Value} (h : RS9 w W vs) (j : Nat) (hj : j < vs.length) (u : Value) : RS9 w (W.setCell ⟨w.heap.size + 1, j, none⟩ u) (vs.set j u) :=
  ⟨h.e.setCell (p := ⟨w.heap.size + 1, j, none⟩) (by show w.heap.size ≤ w.heap.size + 1; omega) u, h.p.kept (setOne_grown W (w.heap.size + 1) j u) (fun e => by injection e with e; omega), h.v.set j hj u⟩
theorem RS9.ext {w W W' : World} {vs : List Value} (h : RS9 w W vs) (hE : Ext W W') : RS9 w W' vs := ⟨h.e.trans hE, h.p.ext hE, h.v.ext hE⟩
theorem RS9.kept {w W W' : World} {vs : List Value} {row : Option Nat} (h : RS9 w W vs) (hg : W.grownBy W' row) (hr : ∀ b, row = some b → w.heap.size + 2 ≤ b) : RS9 w W' vs :=
  ⟨h.e.grown hg (fun k hk => by have := hr k hk; omega), h.p.kept hg (fun e => by have := hr _ e; omega), h.v.kept hg (fun e => by have := hr _ e; omega)⟩
theorem RS9.new (w : World) : RS9 w ((w.alloc (.cells #[.string { data := #[] }, .int .u8 0, .slice none 0 0, .string { data := #[] }, .int .i64 0, .int .i64 0] 138)).alloc (.cells #[.string { data := #[] }, .int .u8 0, .slice none 0 0, .string { data := #[] }, .int .i64 0, .int .i64 0] 138)) [.string { data := #[] }, .int .u8 0, .slice none 0 0, .string { data := #[] }, .int .i64 0, .int .i64 0] := by
  refine ⟨((Ext.refl w).alloc _).alloc _, (BoxL.new w _ _).ext ((Ext.refl _).alloc _), ?_⟩
  have hz0 : (w.alloc (.cells #[.string { data := #[] }, .int .u8 0, .slice none 0 0, .string { data := #[] }, .int .i64 0, .int .i64 0] 138)).heap.size = w.heap.size + 1 := by simp
  have := BoxL.new (w.alloc (.cells #[.string { data := #[] }, .int .u8 0, .slice none 0 0, .string { data := #[] }, .int .i64 0, .int .i64 0] 138)) [.string { data := #[] }, .int .u8 0, .slice none 0 0, .string { data := #[] }, .int .i64 0, .int .i64 0] 138
  rwa [hz0] at this

end Go.Proofs.YtdienbcjfljjnaaGreatDoor

/- The reference's read of an item. -/
open Go.RowKit Go.Shelf
namespace Go.Proofs.YtdienbcjfljjnaaGreatDoor
open Go Go.Proofs Fm

end Go.Proofs.YtdienbcjfljjnaaGreatDoor

/- The reference's Take of a fragment. -/
open Go.RowKit Go.Shelf
namespace Go.Proofs.YtdienbcjfljjnaaGreatDoor
open Go Go.Proofs Fm

end Go.Proofs.YtdienbcjfljjnaaGreatDoor
