/- WireOwn answers true at every input: the walk. -/
import Derived.Test.YtoclheffkhdbhaaLawBack
open Go.RowKit Go.Shelf
namespace Go.Proofs.Ytoclheffkhdbhaa
open Go Go.Proofs Fm

theorem grownBy_trans {a b c : World} {row : Option Nat} (h : a.grownBy b row) (k : b.grownBy c row) : a.grownBy c row :=
  ⟨k.os.trans h.os, k.tape.trans h.tape, k.output.trans h.output, Nat.le_trans h.size k.size,
    fun i hi hne => (k.block i (Nat.lt_of_lt_of_le hi h.size) hne).trans (h.block i hi hne)⟩
theorem ownB_form {base : Nat} {w : World} {v : Value} {xs : List UInt8} (h : OwnB base w v xs) (hne : v ≠ .slice none 0 0) :
    ∃ g cap, v = .slice (some ⟨g, 0, none⟩) xs.length cap ∧ base ≤ g ∧ g < w.heap.size := by
  rcases h.2 with ⟨h1, _⟩ | ⟨g, cap, cur, h1, h2, h3, _⟩
  · exact absurd h1 hne
  · exact ⟨g, cap, h1, h2, (Array.getElem?_eq_some_iff.1 h3).1⟩
theorem ownB_ne {base : Nat} {w : World} {v : Value} {xs : List UInt8} (h : OwnB base w v xs) (hx : 0 < xs.length) : v ≠ .slice none 0 0 := by
  rintro rfl
  rcases h.2 with ⟨_, h1⟩ | ⟨g, cap, cur, h1, _⟩
  · omega
  · simp at h1
theorem ownB_kept {base g : Nat} {w w' : World} {v : Value} {xs : List UInt8} (h : OwnB base w v xs) (hg : w.grownBy w' (some g)) (hne : ∀ k, v.ownBlock = some k → k ≠ g) : OwnB base w' v xs := by
  refine World.ownsRow.kept h hg ?_
  cases hb : v.ownBlock with
  | none => exact .inl rfl
  | some k => exact .inr (fun e => hne k hb (by simpa using e))
theorem ownB_below {base : Nat} {w : World} {v : Value} {xs : List UInt8} (h : OwnB base w v xs) : ∀ k, v.ownBlock = some k → base ≤ k ∧ k < w.heap.size := World.ownsRow.lt h

/-- One byte of a slice of one's own is turned. -/
theorem ownB_set {base g cap n : Nat} {w : World} {zs : List UInt8} (h : OwnB base w (.slice (some ⟨g, 0, none⟩) n cap) zs) (hn : zs.length = n) (k : Nat) (x : UInt8) :
    OwnB base (w.setCell ⟨g, k, none⟩ (bv x)) (.slice (some ⟨g, 0, none⟩) n cap) (zs.set k x) ∧ w.grownBy (w.setCell ⟨g, k, none⟩ (bv x)) (some g) := by
  subst hn
  have := World.ownsRow.stored h k (bv x)
  refine ⟨?_, this.2⟩
  have h1 := this.1
  rw [← List.map_set] at h1
  unfold OwnB
  rw [List.length_set]
  exact h1
theorem xor_255 (x : UInt8) : bits BinOp.xor IntKind.u8 (x.toNat : Int) 255 = ((UInt8.ofNat (x.toNat ^^^ 255)).toNat : Int) := by
  have hx := x.toNat_lt
  have := u8_xor_nat x.toNat 255 (by omega) (by omega)
  rw [show ((255 : Nat) : Int) = 255 from rfl] at this
  have hlt : x.toNat ^^^ 255 < 2 ^ 8 := Nat.xor_lt_two_pow (by omega) (by omega)
  rw [this, toNat_ofNat_lt (by omega)]

theorem appB2 {w : World} {ops : Array Oper} {rest : List Oper} {o : Oper} {a : Act} {Q : Exit → Act → World → Prop}
    (hg : Region.wanted o (yielded ops a.tmps) = true) (s x : Operand) (hop : o.op = Op.call { callee := Callee.builtin Builtin.append, args := #[s, x], argTypes := #[22, 22] }) {base : Nat}
    {v : Value} {xs : List UInt8} (hs : a.eval s = v) (hown : OwnB base w v xs) (hv : v ≠ .slice none 0 0) {X : Value} {ys : List UInt8} (hx : a.eval x = X) (hsrc : Bytes w X ys)
    (b1 : xs.length + ys.length ≤ 70368744177664) (b3 : base ≤ w.heap.size)
    (hK : ∀ v' w', OwnB base w' v' (xs ++ ys) → v' ≠ .slice none 0 0 → Below base w w' → wpList Try.prog ops Q rest (a.put o.dst v') w') :
    wpList Try.prog ops Q (o :: rest) a w := by
  refine wpList_appG w elem_u8 hg s x 22 hop base v _ _ hs hown X _ _ hx (Src.bytes Try.underlying22 hsrc) (by unfold maxLen; omega) (by omega) b3 (fun v' w' h1 h2 h3 => hK v' w' ?_ (fun e => hv (h3.1 e).1) ?_)
  · unfold OwnB; rw [List.length_append, List.map_append]; exact h1
  · exact (Below.refl base w).grown h2 b3 (Fm.own_lt hown)

set_option maxRecDepth 100000 in
set_option maxHeartbeats 4000000 in
theorem wireOwn_any (v : Value) (xs : List UInt8) (n : Int) (s : List UInt8) (hn : isI64 n) (hsl : s.length ≤ 9223372036854775807) (w : World) (h : Bytes w v xs) :
    Calls Try.prog 4 #[v, .int .i64 n, .string (str s)] w fun e w' => e = .returned (.bool true) ∧ Ext w w' := by
  have hla := len_bytes h
  have hll := h.length_le
  have hss := str_size s
  have HN := Lib.hid hn; clear hn
  by_cases hbig : xs.length ≤ 40 ∧ s.length ≤ 40
  · obtain ⟨hxl, hsl'⟩ := hbig
    obtain ⟨i0, hi, hz0, hz1, hz2⟩ := info_parts info_u8
    go_enter Try.func4, Try.ntmps4
    go_wp2_with (at_make; refine wpList_make_own _ rfl _ _ 22 rfl w.heap.size 5 i0 (.int .u8 0) 1 Try.underlying22 hi hz0 hz1 _ _ _ (xs.length + 100) rfl rfl (by omega) ?c1 ?c2 ?c3 ?_)
    case c1 => rw [hz2]; omega
    case c2 => unfold maxLen; omega
    case c3 => omega
    intro w1 o1 g1
    have E1 : Ext w w1 := (Ext.refl w).grown g1 (fun k e => by cases e)
    have O1 : OwnB w.heap.size w1 (.slice (some ⟨w.heap.size, 0, none⟩) 0 (xs.length + 100)) [] := o1
    clear hi hz0 hz1 hz2 o1 g1
    go_wp2_with (at_builtin; refine appB2 rfl _ _ rfl rfl O1 ?hv rfl (h.ext E1) ?b1 E1.size ?_)
    case hv => intro h0; cases h0
    case b1 => first | omega | (simp; omega)
    intro vR w2 oR neR B2
    try rw [List.nil_append] at oR
    have E2 := E1.then B2
    obtain ⟨gR, cR, rfl, hR1, hR2⟩ := ownB_form oR neR
    clear O1 B2 neR
    have bR := oR.bytes
    have E2' := E2
    go_wp2_with fail
    refine (num_any _ xs w2 bR (by omega) n HN.out).mono ?_
    rintro e w3 ⟨vx, rfl, rx⟩
    go_wp2_with fail
    refine (text_any _ xs s w3 (bR.ext rx.2) (by omega) (by omega)).mono ?_
    rintro e w4 ⟨vy, rfl, ry⟩
    obtain ⟨ly, hly⟩ : ∃ ly, ly = (xs ++ textB s).length := ⟨_, rfl⟩
    have HLY := Lib.hid hly
    obtain ⟨gY, cY, hform, hY1, hY2⟩ := ownB_form ry.own (ownB_ne ry.own (by rw [List.length_append, textB_len]; have := numB_pos (s.length : Int); omega))
    rw [← hly] at hform
    subst hform
    clear hly
    go_wp2_with fail
    refine (num_any _ xs w4 ((bR.ext rx.2).ext ry.2) (by omega) n HN.out).mono ?_
    rintro e w5 ⟨vz, rfl, rz⟩
    have hE3 := E2.trans rx.2
    have hE5 := (hE3.trans ry.2).trans rz.2
    have oX := (rx.own.ext ry.2).ext rz.2
    have oXlt : ∀ k, vx.ownBlock = some k → k < w3.heap.size := fun k hk => (ownB_below rx.own k hk).2
    have oY := ry.own.ext rz.2
    have oZ := rz.own
    have oR5 := ((oR.ext rx.2).ext ry.2).ext rz.2
    have hly := HLY.out
    have hn1 := numB_le n
    have hlyb : ly ≤ 100 := by rw [hly, List.length_append, textB_len]; have := numB_le (s.length : Int); omega
    have hR3 : gR < w3.heap.size := Nat.lt_of_lt_of_le hR2 rx.2.size
    clear rx ry rz oR bR E1 E2 E2' hly
    go_wp2_with fail
    go_loopw [39] (fun i wr => ∃ (k : Nat) (zs : List UInt8), k ≤ ly ∧ i = .int .i64 k ∧ zs.length = ly ∧ OwnB w3.heap.size wr (.slice (some ⟨gY, 0, none⟩) ly cY) zs ∧ w5.grownBy wr (some gY)) (fun i _ => ly - (intOf i).toNat)
    case atStart => exact ⟨0, (xs ++ textB s), by omega, rfl, HLY.out.symm, oY, World.grownBy.refl _ _⟩
    case round =>
      obtain ⟨k, zs, hk, rfl, hz, oz, gz⟩ := hrel
      by_cases hlt : k < ly
      · obtain ⟨x, hx⟩ : ∃ x, x = zs[k]?.getD 0 := ⟨_, rfl⟩
        have hcell : wr.cell? ⟨gY, k, none⟩ = some (.int .u8 x.toNat) := by
          rw [World.ownsRow.cellAt (h := hz ▸ oz) k (by omega)]
          rw [hx]; simp [bv, hz, hlt]
        have hfr : wr.frozen? ⟨gY, k, none⟩ = false := World.ownsRow.frozenAt (h := hz ▸ oz) k
        have hxo := xor_255 x
        obtain ⟨y, hy⟩ : ∃ y, y = UInt8.ofNat (x.toNat ^^^ 255) := ⟨_, rfl⟩
        rw [← hy] at hxo
        clear hy
        obtain ⟨o', g'⟩ := ownB_set oz hz k y
        have G' := grownBy_trans gz g'
        unfold bv at o' G'
        have hz' : (zs.set k y).length = ly := by rw [List.length_set]; exact hz
        have HO := Lib.hid o'; clear o'
        have HG := Lib.hid G'; clear G'
        have HZ := Lib.hid hz'; clear hz'
        clear oz gz g' hx hz oX oY oZ oR5
        go_wp2
        go_roundw
        case rel => exact ⟨k + 1, _, by omega, by go_num, HZ.out, HO.out, HG.out⟩
        case measure => simp [intOf]; omega
      · clear hk
        obtain ⟨w6, rfl⟩ : ∃ w6 : World, w6 = wr := ⟨_, rfl⟩
        have fx := ownB_kept oX gz (fun k hk e => by have := oXlt k hk; omega)
        have fz := ownB_kept oZ gz (fun k hk e => by have := own_lt oZ k hk; omega)
        have oR6 := ownB_kept oR5 gz (fun k hk e => by simp [Value.ownBlock] at hk; omega)
        have hE6 : Ext w w6 := hE5.grown gz (fun k e => by cases e; have := hE3.size; omega)
        have hb6 := h.ext hE6
        have fxb := fx.bytes
        have fzb := fz.bytes
        have fRb := oR6.bytes
        clear oz gz hz oX oZ oR5 oY
        go_wp2_with fail
        refine (same_true fxb fzb rfl).mono ?_
        rintro e w8 ⟨rfl, rfl⟩
        go_wp2_with fail
        refine (same_true fRb hb6 rfl).mono ?_
        rintro e w8 ⟨rfl, rfl⟩
        clear fxb fzb fRb
        go_wp2_with fail
        go_loopw [61] (fun i wr => ∃ (k : Nat) (zs : List UInt8), k ≤ xs.length ∧ i = .int .i64 k ∧ zs.length = xs.length ∧ OwnB w.heap.size wr (.slice (some ⟨gR, 0, none⟩) xs.length cR) zs ∧ w6.grownBy wr (some gR)) (fun i _ => xs.length - (intOf i).toNat)
        case atStart => exact ⟨0, xs, by omega, rfl, rfl, oR6, World.grownBy.refl _ _⟩
        case round =>
          obtain ⟨k, zs, hk, rfl, hz, oz, gz⟩ := hrel
          by_cases hlt : k < xs.length
          · obtain ⟨x, hx⟩ : ∃ x, x = zs[k]?.getD 0 := ⟨_, rfl⟩
            have hcell : wr.cell? ⟨gR, k, none⟩ = some (.int .u8 x.toNat) := by
              rw [World.ownsRow.cellAt (h := hz ▸ oz) k (by omega)]
              rw [hx]; simp [bv, hz, hlt]
            have hfr : wr.frozen? ⟨gR, k, none⟩ = false := World.ownsRow.frozenAt (h := hz ▸ oz) k
            have hxo := xor_255 x
            obtain ⟨y, hy⟩ : ∃ y, y = UInt8.ofNat (x.toNat ^^^ 255) := ⟨_, rfl⟩
            rw [← hy] at hxo
            clear hy
            obtain ⟨o', g'⟩ := ownB_set oz hz k y
            have G' := grownBy_trans gz g'
            unfold bv at o' G'
            have hz' : (zs.set k y).length = xs.length := by rw [List.length_set]; exact hz
            have HO := Lib.hid o'; clear o'
            have HG := Lib.hid G'; clear G'
            have HZ := Lib.hid hz'; clear hz'
            clear oz gz g' hx hz fx fz oR6 hb6
            go_wp2
            go_roundw
            case rel => exact ⟨k + 1, _, by omega, by go_num, HZ.out, HO.out, HG.out⟩
            case measure => simp [intOf]; omega
          · clear hk
            obtain ⟨w7, rfl⟩ : ∃ w7 : World, w7 = wr := ⟨_, rfl⟩
            have fx7 := (ownB_kept fx gz (fun k hk e => by have := own_lt fx k hk; omega)).bytes
            have fz7 := (ownB_kept fz gz (fun k hk e => by have := own_lt fz k hk; omega)).bytes
            have hE7 : Ext w w7 := hE6.grown gz (fun k e => by cases e; exact hR1)
            have hb7 := h.ext hE7
            clear oz gz hz fx fz oR6 hb6
            go_wp2_with fail
            refine (same_true fx7 fz7 rfl).mono ?_
            rintro e w8 ⟨rfl, rfl⟩
            have hlx := len_bytes' fx7 (n := (xs.length : Int) + (numB n).length) (by simp)
            have hsx := slice_b fx7 (xs.length : Int) (by omega) (by simp; omega)
            rw [Int.toNat_natCast] at hsx
            have tx := fx7.take (k := xs.length) (by simp)
            rw [List.take_left] at tx
            go_wp2_with fail
            refine (same_true tx hb7 rfl).mono ?_
            rintro e w8 ⟨rfl, rfl⟩
            go_wp2_with fail
            refine (awake07 _).mono ?_
            rintro e w9 ⟨rfl, hE9⟩
            go_wp2
            go_ret
            exact ⟨rfl, hE7.trans hE9⟩
  · go_enter Try.func4, Try.ntmps4
    go_wp2_with fail
    all_goals
      refine (awake07 w).mono ?_
      rintro e w1 ⟨rfl, hE⟩
      go_wp2
      go_ret
      exact ⟨rfl, hE⟩
end Go.Proofs.Ytoclheffkhdbhaa
