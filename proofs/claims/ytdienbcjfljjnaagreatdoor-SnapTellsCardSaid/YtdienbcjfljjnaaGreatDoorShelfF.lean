/- The library's contracts at this program: strings.Trim at an ASCII cutset, strings.Repeat, slices.Equal and Clone at []string, Clone at []api.Item: laid out of the shelf. -/
import Derived.Test.YtdienbcjfljjnaaGreatDoorWireB
import Derived.Deep.RegionHeld3
import Derived.Test.YtdienbcjfljjnaaGreatDoorPlT
import Derived.IntWalk
import Derived.StillTailTactics
import Derived.Shelf.LaysM
import Derived.Shelf.Strings.SlTrimAscii
import Derived.Shelf.Strings.Repeat
import Derived.Shelf.Slices.Equal
import Derived.Shelf.Slices.Empties2
import Derived.Shelf.Slices.Clone
import Derived.Test.YtdienbcjfljjnaaGreatDoorProg
open Go.RowKit Go.Shelf
namespace Go.Proofs.YtdienbcjfljjnaaGreatDoor
open Go Go.Proofs Fm

theorem elem_u8 : ElemOf Tryz.prog 27 5 (.int .u8 0) 1 1 := ⟨Tryz.underlying27, info_u8, rfl, by decide⟩

/-- v is a slice of the call's own, from block 'base' on, that holds these bytes. -/
def OwnB (base : Nat) (w : World) (v : Value) (xs : List UInt8) : Prop := w.ownsRow base 5 1 v xs.length (xs.map bv)
theorem OwnBytes.own {w w' : World} {v : Value} {xs : List UInt8} (h : OwnBytes w w' v xs) : OwnB w.heap.size w' v xs := h.1
theorem OwnB.bytes {base : Nat} {w : World} {v : Value} {xs : List UInt8} (h : OwnB base w v xs) : Bytes w v xs := Bytes.of_own h
theorem OwnB.ext {base : Nat} {w w' : World} {v : Value} {xs : List UInt8} (h : OwnB base w v xs) (hE : Ext w w') : OwnB base w' v xs := hE.own h
theorem OwnB.mono {base base' : Nat} {w : World} {v : Value} {xs : List UInt8} (h : OwnB base w v xs) (hb : base' ≤ base) : OwnB base' w v xs := by
  refine ⟨h.1, ?_⟩
  rcases h.2 with hn | ⟨g, cap, cur, hv, hg, rest⟩
  · exact .inl hn
  · exact .inr ⟨g, cap, cur, hv, Nat.le_trans hb hg, rest⟩
theorem OwnB.nil (base : Nat) (w : World) : OwnB base w (.slice none 0 0) [] := World.ownsRow_nil w base 5 1
/-- 'append(s, x...)', s of one's own, x any slice of bytes. -/
theorem appB {w : World} {ops : Array Oper} {rest : List Oper} {o : Oper} {a : Act} {Q : Exit → Act → World → Prop}
    (hg : Region.wanted o (yielded ops a.tmps) = true) (s x : Operand) (hop : o.op = Op.call { callee := Callee.builtin Builtin.append, args := #[s, x], argTypes := #[27, 27] }) {base : Nat}
    {v : Value} {xs : List UInt8} (hs : a.eval s = v) (hown : OwnB base w v xs) {X : Value} {ys : List UInt8} (hx : a.eval x = X) (hsrc : Bytes w X ys)
    (b1 : xs.length + ys.length ≤ 70368744177664) (b3 : base ≤ w.heap.size)
    (hK : ∀ v' w', OwnB base w' v' (xs ++ ys) → w.grownBy w' v.ownBlock → Below base w w' → wpList Tryz.prog ops Q rest (a.put o.dst v') w') :
    wpList Tryz.prog ops Q (o :: rest) a w := by
  refine wpList_appG w elem_u8 hg s x 27 hop base v _ _ hs hown X _ _ hx (Src.bytes Tryz.underlying27 hsrc) (by unfold maxLen; omega) (by omega) b3 (fun v' w' h1 h2 _ => hK v' w' ?_ h2 ?_)
  · unfold OwnB; rw [List.length_append, List.map_append]; exact h1
  · exact (Below.refl base w).grown h2 b3 (Fm.own_lt hown)
theorem same_any (a b : Value) (xs ys : List UInt8) (w : World) (ha : Bytes w a xs) (hb : Bytes w b ys) :
    Calls Tryz.prog 13 #[a, b] w fun e w' => e = .returned (.bool (decide (xs = ys))) ∧ w = w' := by
  have h1 := conv_bytes (P := Tryz.prog) (src := 27) (dst := 9) (e := 5) Tryz.underlying27 Tryz.underlying5 Tryz.underlying9 ha
  have h2 := conv_bytes (P := Tryz.prog) (src := 27) (dst := 9) (e := 5) Tryz.underlying27 Tryz.underlying5 Tryz.underlying9 hb
  go_enter Tryz.func13, Tryz.ntmps13
  go_wp2
  go_ret
  exact ⟨ret_val (congrArg Value.bool (by rw [str_toList, str_toList, Bool.eq_iff_iff]; simp)), rfl⟩

theorem num_any (v : Value) (xs : List UInt8) (w : World) (h : Bytes w v xs) (hs : xs.length ≤ 1099511627776) (m : Int) (hm : isI64 m) :
    Calls Tryz.prog 31 #[v, .int .i64 m] w (RetBytes w (xs ++ numB m)) := by
  go_enter Tryz.func31, Tryz.ntmps31
  go_wp2_with fail
  refine (clone_any v xs w h hs).mono ?_
  rintro e w1 ⟨v1, rfl, hr1, hE1⟩
  go_wp2_with fail
  refine (groups_any m _).mono ?_
  rintro e w2 ⟨rfl, rfl⟩
  go_wp2_with fail
  refine (appendSeq_any w.heap.size w1.heap.size m hm v1 xs (by omega) _ (by have := hE1.size; simp; omega) (by simp) (cell_new_l _ _ _).1 (hr1.alloc _)).mono ?_
  rintro e w3 ⟨v3, rfl, hr3, hE3⟩
  go_wp2
  go_ret
  exact ⟨v3, rfl, by simpa using hr3, (hE1.alloc _).then hE3⟩

theorem text_any (v : Value) (xs s : List UInt8) (w : World) (h : Bytes w v xs) (hs : xs.length ≤ 1099511627776) (hss : s.length ≤ 1099511627776) :
    Calls Tryz.prog 57 #[v, .string (str s)] w (RetBytes w (xs ++ textB s)) := by
  have hm : isI64 (s.length : Int) := by unfold isI64; omega
  have hl := str_size s
  go_enter Tryz.func57, Tryz.ntmps57
  go_wp2_with fail
  refine (num_any v xs w h hs _ hm).mono ?_
  rintro e w1 ⟨v1, rfl, hr1, hE1⟩
  have hn := numB_le (s.length : Int)
  have hsz := hE1.size
  have HR := Lib.hid hr1; clear hr1
  go_wp2_with (at_builtin; refine wpList_app _ elem_u8 rfl _ _ 9 rfl w.heap.size _ _ _ rfl HR.out _ s.length (s.map bv) rfl ?src ?c1 ?c2 ?c3 ?_)
  case src => have := Src.string (P := Tryz.prog) Tryz.underlying9 w1 (str s); rwa [str_list] at this
  case c1 => unfold maxLen; simp; omega
  case c2 => simp; omega
  case c3 => exact hsz
  intro v' w2 hown hgrow _
  have hE2 := hE1.grown hgrow (own_lt HR.out)
  clear hgrow hsz
  go_wp2
  go_ret
  exact ⟨v', rfl, by simpa [textB, Nat.add_assoc] using hown, hE2⟩

/-- What TakeText comes to. -/
def TakeTextPost (v : Value) (xs : List UInt8) (top : Int) (w : World) (e : Ending) (w' : World) : Prop :=
  match takeT xs top with
  | some (k, n) => ∃ nq, e = .returned (.tuple #[.string (str ((xs.drop k).take n)), dropV (dropV v k) n, .int .i64 0]) ∧ w' = w.drewN nq
  | none => ∃ nq, e = .returned (.tuple #[.string (str []), .slice none 0 0, .int .i64 30]) ∧ w' = w.drewN nq
theorem takeText_none_of {xs : List UInt8} {top : Int} (h : takeT xs top = none) {v : Value} {w : World} (nq : Nat) :
    TakeTextPost v xs top w (.returned (.tuple #[.string (str []), .slice none 0 0, .int .i64 30])) (w.drewN nq) := by
  unfold TakeTextPost; rw [h]; exact ⟨nq, rfl, rfl⟩
theorem takeText_some_of {xs : List UInt8} {top : Int} {k n : Nat} (h : takeT xs top = some (k, n)) {v : Value} {w : World} (nq : Nat) :
    TakeTextPost v xs top w (.returned (.tuple #[.string (str ((xs.drop k).take n)), dropV (dropV v k) n, .int .i64 0])) (w.drewN nq) := by
  unfold TakeTextPost; rw [h]; exact ⟨nq, rfl, rfl⟩

set_option maxHeartbeats 1000000 in
theorem takeText_any (v : Value) (xs : List UInt8) (top : Int) (ht : isI64 top) (w : World) (h : Bytes w v xs) :
    Calls Tryz.prog 109 #[v, .int .i64 top] w (TakeTextPost v xs top w) := by
  obtain ⟨ht1, ht2⟩ := ht
  go_enter Tryz.func109, Tryz.ntmps109
  go_wp2_with fail
  refine (takeNum_any v xs w h).mono ?_
  intro e w1 hp
  unfold TakeNumPost at hp
  cases hn : takeN xs with
  | none =>
    rw [hn] at hp
    obtain ⟨rfl, rfl⟩ := hp
    have HF := Lib.hid (takeT_none hn top); clear hn
    go_wp2
    go_ret3
    exact takeText_none_of HF.out 0
  | some p =>
    obtain ⟨n, k⟩ := p
    rw [hn] at hp
    obtain ⟨nq, rfl, rfl⟩ := hp
    obtain ⟨hn64, hk0, hk10, hkl, _, _⟩ := takeN_inv hn
    obtain ⟨hn1, hn2⟩ := hn64
    have hd := h.drop hkl
    have HN := Lib.hid hn; clear hn
    have hlen := hd.length_le
    obtain ⟨v2, hv2⟩ : ∃ v2, v2 = dropV v k := ⟨_, rfl⟩
    obtain ⟨m, hm⟩ : ∃ m, m = (xs.drop k).length := ⟨_, rfl⟩
    have hm' : m = xs.length - k := by rw [hm]; simp
    rw [← hv2] at hd ⊢
    obtain ⟨a2, c2, hv, hc1, hc2, _, _⟩ := id hd
    rw [← hm] at hv hc1 hlen
    unfold maxLen at hc2
    have hfin : ∀ (q : ¬ (n < 0 ∨ top < n ∨ (m : Int) < n)) (nq' : Nat), TakeTextPost v xs top w (.returned (.tuple #[.string (str ((xs.drop k).take n.toNat)), dropV v2 n.toNat, .int .i64 0])) (w.drewN nq') := fun q nq' => by
      rw [hv2]; exact takeText_some_of (takeT_some HN.out (by rw [← hm']; exact q)) nq'
    have hbad : ∀ (q : n < 0 ∨ top < n ∨ (m : Int) < n) (nq' : Nat), TakeTextPost v xs top w (.returned (.tuple #[.string (str []), .slice none 0 0, .int .i64 30])) (w.drewN nq') := fun q nq' =>
      takeText_none_of (takeT_bad HN.out (by rw [← hm']; exact q)) nq'
    have HFIN := Lib.hid hfin; clear hfin
    have HBAD := Lib.hid hbad; clear hbad
    by_cases hneg : n < 0
    · subst hv
      have q := HBAD.out (.inl hneg)
      have HQ := Lib.hid q; clear q hm hm' hv2
      go_wp2
      go_ret3
      exact HQ.out _
    · by_cases htn : top < n
      · subst hv
        have HQ := Lib.hid (HBAD.out (.inr (.inl htn))); clear hm hm' hv2
        by_cases hmt : top ≤ m
        all_goals
          go_wp2
          go_ret3
          exact HQ.out _
      · by_cases hmn : (m : Int) < n
        · subst hv
          have HQ := Lib.hid (HBAD.out (.inr (.inr hmn))); clear hm hm' hv2
          have hmt : ¬ top ≤ m := by omega
          go_wp2
          go_ret3
          exact HQ.out _
        · have HQ := Lib.hid (HFIN.out (by omega))
          have hcv := fun w' hw' => conv_bytes (P := Tryz.prog) (src := 27) (dst := 9) (e := 5) Tryz.underlying27 Tryz.underlying5 Tryz.underlying9 (w := w') ((hd.take (k := n.toNat) (by rw [← hm]; omega)).ext hw')
          have hcv' := fun q : Nat => hcv (w.drewN q) ((Ext.refl w).drewN q)
          have hs1 := slice_upto a2 m c2 n (by omega) (by omega)
          have hs2 := slice_from a2 m c2 n (by omega) (by omega)
          rw [← hv] at hs1 hs2
          have hlv : ∀ w', (Builtin.len_ #[27] 3 #[v2]).run Tryz.prog w' = .ok (.int .i64 (m : Nat)) w' := by subst hv; intro w'; kernel_rfl
          clear hcv hm hm' hv2 hv hd
          by_cases hmt : top ≤ m
          all_goals
            go_wp2
            go_quiet (fail)
            go_wp2
            go_ret3
            rw [World.drewN_drewN]
            exact HQ.out _
/-- A literal of bytes. -/
theorem bytes_new (W : World) (c : Array Value) (e n B : Nat) (xs : List UInt8) (hB : B = W.heap.size) (hn : n = xs.length) (hc : c = (xs.map bv).toArray) (hl : xs.length ≤ maxLen) :
    Bytes (W.alloc (.cells c e)) (.slice (some ⟨B, 0, none⟩) n n) xs := by
  subst hB hc
  rw [hn]
  refine Bytes.mk rfl (Nat.le_refl _) hl (by simp) (fun j hj => ?_)
  rw [Nat.zero_add, cell_of_row _ _ j _ e (0, 0) (heap_alloc_new W _)]
  simp [hj]
end Go.Proofs.YtdienbcjfljjnaaGreatDoor

open Go.RowKit Go.Shelf
namespace Go.Proofs.YtdienbcjfljjnaaGreatDoor
open Go Go.Proofs Fm

set_option maxRecDepth 100000 in
set_option maxHeartbeats 2000000 in
theorem few_any (d : Nat) : ∀ (D : Int) (t : Tr) (w : World) (v : Value), Hid (D = d) → Lies w t v → d ≤ 20 →
    Calls Tryz.prog 73 #[v, .int .i64 D] w fun e w' => e = .returned (.int .i64 (fewT d t)) ∧ Ext w w' := by
  induction d with
  | zero =>
    intro D t w v hD hl _
    have HF := Lib.hid (fewT_zero t)
    obtain rfl : D = 0 := hD.out
    cases hl with
    | node k n s l a cap C hn hs h1 h2 h3 h4 h5 =>
    clear hn hs h3 h4 h5
    go_enter Tryz.func73, Tryz.ntmps73
    go_wp2
    go_ret
    exact ⟨by rw [HF.out]; rfl, (Ext.refl w).alloc _⟩
  | succ d ih =>
    intro D t w v HD hl hd
    cases hl with
    | node kd n s l a cap C hn hs h1 h2 h3 h4 h5 =>
    have HF := Lib.hid (fewT_succ d kd n s l)
    have H4 := Lib.hid h4; have H5 := Lib.hid h5; have IH := Lib.hid ih
    clear h3 h4 h5 hs hn ih
    have hD := HD.out
    have hD1 : 1 ≤ D := by omega
    have hD2 : D ≤ 20 := by omega
    have h0 : (D == 0) = false := by simp; omega
    clear hD
    have HB : Hid (∀ t, fewT d t ≤ 1000000 * (d + 1)) := fewT_le d
    have hll : l.length ≤ 9223372036854775807 := by unfold maxLen at h2; omega
    go_enter Tryz.func73, Tryz.ntmps73
    go_wp2_with fail
    go_loopw [5, 13] (fun x i wr => ∃ k N : Nat, k ≤ l.length ∧ x = .int .i64 (N : Int) ∧ i = .int .i64 k ∧ N ≤ 1000000 ∧ Hid (fewL (fewT d) 1 l = fewL (fewT d) N (l.drop k)) ∧ Ext w wr) (fun _ i _ => l.length - (intOf i).toNat)
    case atStart => exact ⟨0, 1, by omega, rfl, rfl, by omega, Lib.hid (by rw [List.drop_zero]), (Ext.refl w).alloc _⟩
    case round =>
      obtain ⟨k, N, hk, rfl, rfl, hN, HN, hE⟩ := hrel
      by_cases hlt : k < l.length
      · obtain ⟨b, off, rfl, hb, hc⟩ := H4.out (by omega)
        obtain ⟨k0, n0, s0, a0, m0, c0, e0, e1, e2, e3, hx⟩ := elem4 hE hb hc H5.out k hlt
        have hst := fewL_drop (fewT d) N l k hlt
        have hPB := HB.out l[k]
        go_wp2_with fail
        refine (IH.out (D - 1) _ _ _ (Lib.hid (by have := HD.out; omega)) (hx.ext ((Ext.refl wr).alloc _)) (by omega)).mono ?_
        rintro e w1 ⟨rfl, hE1⟩
        have hE2 := (hE.alloc _).trans hE1
        obtain ⟨P, hP⟩ : ∃ P, P = fewT d l[k] := ⟨_, rfl⟩
        rw [← hP] at hst hPB ⊢
        have hPB' : P ≤ 20000000 := by omega
        by_cases hbig : 1000000 < N + P
        · rw [if_pos hbig] at hst
          have HR : Hid (fewT (d + 1) (.node kd n s l) = N + P) := Lib.hid (by rw [HF.out, HN.out, hst])
          clear hE1 e0 e1 e2 e3 hx hb hc HN hP hst
          go_wp2
          go_ret
          exact ⟨by rw [HR.out]; rfl, hE2⟩
        · rw [if_neg hbig] at hst
          have HR : Hid (fewL (fewT d) 1 l = fewL (fewT d) (N + P) (l.drop (k + 1))) := Lib.hid (by rw [HN.out, hst])
          clear hE1 e0 e1 e2 e3 hx hb hc HN hP hst
          go_wp2
          go_roundw
          case rel => exact ⟨k + 1, N + P, by omega, by go_num, by go_num, by omega, HR, hE2⟩
          case measure => simp [intOf]; omega
      · have hk' : k = l.length := by omega
        have HX := Lib.hid (show fewT (d + 1) (.node kd n s l) = N by rw [HF.out, HN.out, hk', List.drop_length, fewL_nil])
        clear hk'
        go_wp2
        go_ret
        exact ⟨by rw [HX.out]; rfl, hE⟩
end Go.Proofs.YtdienbcjfljjnaaGreatDoor

/- Walks over a value's tree that only read: the reference's Parts, Deep; Same. -/
open Go.RowKit Go.Shelf
namespace Go.Proofs.YtdienbcjfljjnaaGreatDoor
open Go Go.Proofs Fm

set_option maxRecDepth 100000 in
set_option maxHeartbeats 2000000 in
theorem Few_any (t : Tr) (w : World) (v : Value) (h : Lies w t v) :
    Calls Tryz.prog 28 #[v] w fun e w' => e = .returned (.bool (decide (fewT 20 t ≤ 600))) ∧ Ext w w' := by
  cases h with
  | node k n s l a cap C hn hs h1 h2 h3 h4 h5 =>
  have HL := Lib.hid (Lies.node k n s l a cap C hn hs h1 h2 h3 h4 h5)
  clear hn hs h1 h2 h3 h4 h5
  have hle := fewT_le 20 (.node k n s l)
  go_enter Tryz.func28, Tryz.ntmps28
  go_wp2_with fail
  refine (few_any 20 20 (.node k n s l) _ _ (Lib.hid rfl) (HL.out.ext ((Ext.refl w).alloc _)) (by omega)).mono ?_
  rintro e w1 ⟨rfl, hE1⟩
  have hE2 := ((Ext.refl w).alloc _).trans hE1
  obtain ⟨N, hN⟩ : ∃ N, N = fewT 20 (.node k n s l) := ⟨_, rfl⟩
  rw [← hN] at hle ⊢
  have HX := Lib.hid (show decide (fewT 20 (.node k n s l) ≤ 600) = decide ((N : Int) ≤ 600) by rw [← hN]; simp only [decide_eq_decide]; omega)
  clear hE1 hN
  go_wp2
  go_ret
  exact ⟨by rw [HX.out]; rfl, hE2⟩

set_option maxRecDepth 100000 in
set_option maxHeartbeats 2000000 in
theorem rparts_any (t : Tr) : ∀ (w : World) (v : Value), Lies w t v → partsT t ≤ 1000000 →
    Calls Tryz.prog 99 #[v] w fun e w' => e = .returned (.int .i64 (partsT t)) ∧ Ext w w' := by
  induction t using Tr.ind with
  | h k n s l ih =>
    intro w v hl hp
    cases hl with
    | node _ _ _ _ a cap C hn hs h1 h2 h3 h4 h5 =>
    rw [partsT_node] at hp ⊢
    have hll : l.length ≤ 1000000 := by have := partsL_len l; omega
    go_enter Tryz.func99, Tryz.ntmps99
    go_wp2_with fail
    obtain ⟨-, -, -, m3, hsz⟩ := alloc4 w (.int .u8 (k.toNat : Int)) (.int .i64 n) (.string (str s)) (.slice a l.length cap) 43
    have hE0 := (Ext.refl w).alloc (.cells #[.int .u8 (k.toNat : Int), .int .i64 n, .string (str s), .slice a l.length cap] 43)
    generalize w.alloc (.cells #[.int .u8 (k.toNat : Int), .int .i64 n, .string (str s), .slice a l.length cap] 43) = W1 at *
    have H4 := Lib.hid h4; have H5 := Lib.hid h5
    clear h3 h4 h5 hs hn
    go_loopw [3, 4] (fun x i wr => ∃ k N : Nat, k ≤ l.length ∧ x = .int .i64 (N : Int) ∧ i = .int .i64 k ∧ Hid (N = 1 + partsL (l.take k)) ∧ Ext W1 wr) (fun _ i _ => l.length - (intOf i).toNat)
    case atStart => exact ⟨0, 1, by omega, rfl, rfl, by simp [Hid, partsL_nil], Ext.refl _⟩
    case round =>
      obtain ⟨k, N, hk, rfl, rfl, HN, hE'⟩ := hrel
      have hE := hE0.trans hE'
      have m3' := (hE'.cell (p := ⟨w.heap.size, 3, none⟩) hsz).trans m3
      by_cases hlt : k < l.length
      · obtain ⟨b, off, rfl, hb, hc⟩ := H4.out (by omega)
        obtain ⟨k0, n0, s0, a0, m0, c0, e0, e1, e2, e3, hx⟩ := elem4 hE hb hc H5.out k hlt
        have hpk := partsL_at l k hlt
        have hpl := partsL_take_le l (k + 1)
        go_wp2_with fail
        refine (ih _ (List.getElem_mem hlt) _ _ hx (by omega)).mono ?_
        rintro e w1 ⟨rfl, hE1⟩
        have hE2 := hE'.trans hE1
        obtain ⟨P, hP⟩ : ∃ P, P = partsT l[k] := ⟨_, rfl⟩
        rw [← hP] at hpk ⊢
        have hb2 : N + P ≤ 1000000 := by have := HN.out; omega
        have HN2 : Hid (N + P = 1 + partsL (l.take (k + 1))) := by have := HN.out; refine Lib.hid ?_; omega
        clear hE1 e0 e1 e2 e3 hx hpk hpl hb hc HN hP
        go_wp2
        go_roundw
        case rel => exact ⟨k + 1, N + P, by omega, by go_num, by go_num, HN2, hE2⟩
        case measure => simp [intOf]; omega
      · have hk' : k = l.length := by omega
        have hx : 1 + partsL l = N := by have := HN.out; rw [hk', List.take_length] at this; exact this.symm
        have HX := Lib.hid hx
        clear hx hk'
        go_wp2
        go_ret
        exact ⟨by rw [HX.out]; rfl, hE⟩

set_option maxRecDepth 100000 in
set_option maxHeartbeats 2000000 in
theorem rdeep_any (t : Tr) : ∀ (w : World) (v : Value), Lies w t v → deepT t ≤ 1000000 →
    Calls Tryz.prog 98 #[v] w fun e w' => e = .returned (.int .i64 (deepT t)) ∧ Ext w w' := by
  induction t using Tr.ind with
  | h k n s l ih =>
    intro w v hl hp
    cases hl with
    | node _ _ _ _ a cap C hn hs h1 h2 h3 h4 h5 =>
    rw [deepT_node] at hp ⊢
    go_enter Tryz.func98, Tryz.ntmps98
    go_wp2_with fail
    obtain ⟨-, -, -, m3, hsz⟩ := alloc4 w (.int .u8 (k.toNat : Int)) (.int .i64 n) (.string (str s)) (.slice a l.length cap) 43
    have hE0 := (Ext.refl w).alloc (.cells #[.int .u8 (k.toNat : Int), .int .i64 n, .string (str s), .slice a l.length cap] 43)
    generalize w.alloc (.cells #[.int .u8 (k.toNat : Int), .int .i64 n, .string (str s), .slice a l.length cap] 43) = W1 at *
    have H4 := Lib.hid h4; have H5 := Lib.hid h5
    have hll : l.length ≤ 9223372036854775807 := by unfold maxLen at h2; omega
    clear h3 h4 h5 hs hn
    go_loopw [3, 4] (fun x i wr => ∃ k N : Nat, k ≤ l.length ∧ x = .int .i64 (N : Int) ∧ i = .int .i64 k ∧ Hid (N = deepL (l.take k)) ∧ Ext W1 wr) (fun _ i _ => l.length - (intOf i).toNat)
    case atStart => exact ⟨0, 0, by omega, rfl, rfl, by simp [Hid, deepL_nil], Ext.refl _⟩
    case round =>
      obtain ⟨k, N, hk, rfl, rfl, HN, hE'⟩ := hrel
      have hE := hE0.trans hE'
      have m3' := (hE'.cell (p := ⟨w.heap.size, 3, none⟩) hsz).trans m3
      by_cases hlt : k < l.length
      · obtain ⟨b, off, rfl, hb, hc⟩ := H4.out (by omega)
        obtain ⟨k0, n0, s0, a0, m0, c0, e0, e1, e2, e3, hx⟩ := elem4 hE hb hc H5.out k hlt
        have hpk := deepL_at l k hlt
        have hpl := deepL_take_le l (k + 1)
        go_wp2_with fail
        refine (ih _ (List.getElem_mem hlt) _ _ hx (by omega)).mono ?_
        rintro e w1 ⟨rfl, hE1⟩
        have hE2 := hE'.trans hE1
        obtain ⟨P, hP⟩ : ∃ P, P = deepT l[k] := ⟨_, rfl⟩
        rw [← hP] at hpk ⊢
        by_cases hb2 : N < P
        · have HN2 : Hid (P = deepL (l.take (k + 1))) := by have := HN.out; refine Lib.hid ?_; omega
          clear hE1 e0 e1 e2 e3 hx hpk hpl hb hc HN hP
          go_wp2
          go_roundw
          case rel => exact ⟨k + 1, P, by omega, by go_num, by go_num, HN2, hE2⟩
          case measure => simp [intOf]; omega
        · have HN2 : Hid (N = deepL (l.take (k + 1))) := by have := HN.out; refine Lib.hid ?_; omega
          clear hE1 e0 e1 e2 e3 hx hpk hpl hb hc HN hP
          go_wp2
          go_roundw
          case rel => exact ⟨k + 1, N, by omega, by go_num, by go_num, HN2, hE2⟩
          case measure => simp [intOf]; omega
      · have hk' : k = l.length := by omega
        have hx : deepL l = N := by have := HN.out; rw [hk', List.take_length] at this; exact this.symm
        have hN : N ≤ 999999 := by omega
        have HX := Lib.hid hx
        clear hx hk'
        go_wp2
        go_ret
        exact ⟨by rw [HX.out]; rfl, hE⟩
end Go.Proofs.YtdienbcjfljjnaaGreatDoor

/- Walks: plain, the reference's kinds, Right, Same. -/
open Go.RowKit Go.Shelf
namespace Go.Proofs.YtdienbcjfljjnaaGreatDoor
open Go Go.Proofs Fm

theorem str_toList (s : List UInt8) : (str s).toList = s := by rw [Lib.toList_data]; rfl
theorem u8_eq (k c : UInt8) : ((k.toNat : Int) == (c.toNat : Int)) = decide (k = c) := by
  rw [Bool.eq_iff_iff]
  simp only [beq_iff_eq, decide_eq_true_eq]
  exact ⟨fun h => UInt8.toNat_inj.1 (by omega), fun h => by rw [h]⟩
theorem plainB_0 (n : Int) (s : List UInt8) (m : Nat) : plainB 0 n s m = ((str s).toList.isEmpty && ((m : Int) == 0)) := by
  rw [str_toList, Bool.eq_iff_iff]; simp [plainB]
theorem plainB_1 (n : Int) (s : List UInt8) (m : Nat) : plainB 1 n s m = ((n == 0) && ((m : Int) == 0) && decide ((s.length : Int) ≤ 100)) := by
  rw [Bool.eq_iff_iff]; simp [plainB]; omega
theorem plainB_2 (n : Int) (s : List UInt8) (m : Nat) : plainB 2 n s m = ((n == 0) && (str s).toList.isEmpty && decide ((m : Int) ≤ 40)) := by
  rw [str_toList, Bool.eq_iff_iff]; simp [plainB, and_assoc]; intro _ _; omega
theorem plainB_3 (k : UInt8) (n : Int) (s : List UInt8) (m : Nat) (h0 : k ≠ 0) (h1 : k ≠ 1) (h2 : k ≠ 2) : plainB k n s m = false := by
  simp [plainB, h0, h1, h2]

set_option maxRecDepth 100000 in
set_option maxHeartbeats 2000000 in
theorem vplain_any (k : UInt8) (n : Int) (s : List UInt8) (l : List Tr) (w : World) (v : Value) (h : Lies w (.node k n s l) v) :
    Calls Tryz.prog 126 #[v] w fun e w' => e = .returned (.bool (plainB k n s l.length)) ∧ Ext w w' := by
  cases h with
  | node _ _ _ _ a cap C hn hs h1 h2 h3 h4 h5 =>
  have e0 := u8_eq k 0
  have e1 := u8_eq k 1
  have e2 := u8_eq k 2
  rw [show ((0 : UInt8).toNat : Int) = 0 from rfl] at e0
  rw [show ((1 : UInt8).toNat : Int) = 1 from rfl] at e1
  rw [show ((2 : UInt8).toNat : Int) = 2 from rfl] at e2
  generalize (k.toNat : Int) = K at *
  clear h3 h4 h5 hn
  have hll : l.length ≤ 9223372036854775807 := by unfold maxLen at h2; omega
  have hss := str_size s
  by_cases hk0 : k = 0
  · have HX := Lib.hid ((congrArg (fun k => plainB k n s l.length) hk0).trans (plainB_0 n s l.length))
    have f0 : (K == 0) = true := by rw [e0]; simpa using hk0
    clear e0 e1 e2 hk0
    go_enter Tryz.func126, Tryz.ntmps126
    go_wp2
    all_goals go_ret
    all_goals
      refine ⟨?_, (Ext.refl w).alloc _⟩
      have hX := HX.out
      clear HX
      rw [hX]
      simp_all
  have f0 : (K == 0) = false := by rw [e0]; simpa using hk0
  by_cases hk1 : k = 1
  · have HX := Lib.hid ((congrArg (fun k => plainB k n s l.length) hk1).trans (plainB_1 n s l.length))
    have f1 : (K == 1) = true := by rw [e1]; simpa using hk1
    clear e0 e1 e2 hk0 hk1
    go_enter Tryz.func126, Tryz.ntmps126
    go_wp2
    all_goals go_ret
    all_goals
      refine ⟨?_, (Ext.refl w).alloc _⟩
      have hX := HX.out
      clear HX
      rw [hX]
      simp_all
  have f1 : (K == 1) = false := by rw [e1]; simpa using hk1
  by_cases hk2 : k = 2
  · have HX := Lib.hid ((congrArg (fun k => plainB k n s l.length) hk2).trans (plainB_2 n s l.length))
    have f2 : (K == 2) = true := by rw [e2]; simpa using hk2
    clear e0 e1 e2 hk0 hk1 hk2
    go_enter Tryz.func126, Tryz.ntmps126
    go_wp2
    all_goals go_ret
    all_goals
      refine ⟨?_, (Ext.refl w).alloc _⟩
      have hX := HX.out
      clear HX
      rw [hX]
      simp_all
  · have HX := Lib.hid (plainB_3 k n s l.length hk0 hk1 hk2)
    have f2 : (K == 2) = false := by rw [e2]; simpa using hk2
    clear e0 e1 e2 hk0 hk1 hk2
    go_enter Tryz.func126, Tryz.ntmps126
    go_wp2
    all_goals go_ret
    all_goals
      refine ⟨?_, (Ext.refl w).alloc _⟩
      rw [HX.out]
      rfl
end Go.Proofs.YtdienbcjfljjnaaGreatDoor

/- Walks: the reference's kinds, Right, Same. -/
open Go.RowKit Go.Shelf
namespace Go.Proofs.YtdienbcjfljjnaaGreatDoor
open Go Go.Proofs Fm

theorem all_take (f : Tr → Bool) (l : List Tr) (k : Nat) (hk : k < l.length) (h : (l.take k).all f = true) (hx : f l[k] = true) : (l.take (k + 1)).all f = true := by
  rw [List.take_add_one, List.getElem?_eq_getElem hk, List.all_append, h]; simp [hx]
theorem all_false (f : Tr → Bool) (l : List Tr) (k : Nat) (hk : k < l.length) (hx : f l[k] = false) : l.all f = false := by
  rw [List.all_eq_false]; exact ⟨l[k], List.getElem_mem hk, by simp [hx]⟩

set_option maxRecDepth 100000 in
set_option maxHeartbeats 2000000 in
theorem rkinds_any (t : Tr) : ∀ (w : World) (v : Value), Lies w t v →
    Calls Tryz.prog 97 #[v] w fun e w' => e = .returned (.bool (kindsT t)) ∧ Ext w w' := by
  induction t using Tr.ind with
  | h k n s l ih =>
  intro w v hl
  cases hl with
  | node _ _ _ _ a cap C hn hs h1 h2 h3 h4 h5 =>
  have e0 := u8_eq k 0
  have e1 := u8_eq k 1
  have e2 := u8_eq k 2
  rw [show ((0 : UInt8).toNat : Int) = 0 from rfl] at e0
  rw [show ((1 : UInt8).toNat : Int) = 1 from rfl] at e1
  rw [show ((2 : UInt8).toNat : Int) = 2 from rfl] at e2
  generalize (k.toNat : Int) = K at *
  have H4 := Lib.hid h4; have H5 := Lib.hid h5
  have hll : l.length ≤ 9223372036854775807 := by unfold maxLen at h2; omega
  clear h3 h4 h5 hn
  have hss := str_size s
  have hstl := str_toList s
  have HK := Lib.hid (kindsT_node k n s l)
  by_cases hk0 : k = 0
  · have HX : Hid (kindsT (.node k n s l) = ((str s).toList.isEmpty && ((l.length : Int) == 0))) := Lib.hid (by
      rw [HK.out, hk0, plainB_0]
      cases l with
      | nil => simp
      | cons t ts => simp; intro _ hh; omega)
    have f0 : (K == 0) = true := by rw [e0]; simpa using hk0
    clear e0 e1 e2 hk0 HK hstl ih H4 H5
    go_enter Tryz.func97, Tryz.ntmps97
    go_wp2
    all_goals go_ret
    all_goals
      refine ⟨?_, (Ext.refl w).alloc _⟩
      have hX := HX.out
      clear HX
      rw [hX]
      simp_all
  have f0 : (K == 0) = false := by rw [e0]; simpa using hk0
  by_cases hk1 : k = 1
  · have HX : Hid (kindsT (.node k n s l) = ((n == 0) && ((l.length : Int) == 0) && decide ((s.length : Int) ≤ 100))) := Lib.hid (by
      rw [HK.out, hk1, plainB_1]
      cases l with
      | nil => simp
      | cons t ts => simp; intro _ hh; omega)
    have f1 : (K == 1) = true := by rw [e1]; simpa using hk1
    clear e0 e1 e2 hk0 hk1 HK hstl ih H4 H5
    go_enter Tryz.func97, Tryz.ntmps97
    go_wp2
    all_goals go_ret
    all_goals
      refine ⟨?_, (Ext.refl w).alloc _⟩
      have hX := HX.out
      clear HX
      rw [hX]
      simp_all
  have f1 : (K == 1) = false := by rw [e1]; simpa using hk1
  by_cases hp : plainB k n s l.length = true
  · have hk2 : k = 2 := Decidable.byContradiction fun h => by rw [plainB_3 k n s l.length hk0 hk1 h] at hp; cases hp
    have f2 : (K == 2) = true := by rw [e2]; simpa using hk2
    have g2 : (K != 2) = false := by rw [bne, f2]; rfl
    rw [hk2, plainB_2] at hp
    simp only [Bool.and_eq_true, beq_iff_eq, decide_eq_true_eq, hstl, List.isEmpty_iff] at hp
    obtain ⟨⟨hn0, hs0⟩, hl40⟩ := hp
    have hst : (str s).toList = [] := by rw [hstl, hs0]
    have hl40' : l.length ≤ 40 := by omega
    have HX : Hid (kindsT (.node k n s l) = l.all kindsT) := Lib.hid (by rw [HK.out, hk2, plainB_2, hstl, hs0, hn0]; simp; intro h; omega)
    subst hn0
    clear e0 e1 e2 hk0 hk1 hk2 HK hstl hs0 hl40
    go_enter Tryz.func97, Tryz.ntmps97
    go_wp2_with fail
    obtain ⟨-, -, -, m3, hsz⟩ := alloc4 w (.int .u8 K) (.int .i64 0) (.string (str s)) (.slice a l.length cap) 43
    have hE0 := (Ext.refl w).alloc (.cells #[.int .u8 K, .int .i64 0, .string (str s), .slice a l.length cap] 43)
    generalize w.alloc (.cells #[.int .u8 K, .int .i64 0, .string (str s), .slice a l.length cap] 43) = W1 at *
    clear f0 f1 f2 g2 hst
    go_loopw [3] (fun i wr => ∃ k : Nat, k ≤ l.length ∧ i = .int .i64 k ∧ Hid ((l.take k).all kindsT = true) ∧ Ext W1 wr) (fun i _ => l.length - (intOf i).toNat)
    case atStart => exact ⟨0, by omega, rfl, by simp [Hid], Ext.refl _⟩
    case round =>
      obtain ⟨i, hi, rfl, HA, hE'⟩ := hrel
      have hE := hE0.trans hE'
      have m3' := (hE'.cell (p := ⟨w.heap.size, 3, none⟩) hsz).trans m3
      by_cases hlt : i < l.length
      · obtain ⟨b, off, rfl, hb, hc⟩ := H4.out (by omega)
        obtain ⟨k0, n0, s0, a0, m0, c0, e0, e1, e2, e3, hx⟩ := elem4 hE hb hc H5.out i hlt
        go_wp2_with fail
        refine (ih _ (List.getElem_mem hlt) _ _ hx).mono ?_
        rintro e w1 ⟨rfl, hE1⟩
        have hE2 := hE'.trans hE1
        have hE3 := hE.trans hE1
        cases hkx : kindsT l[i] with
        | true =>
          have HA2 := Lib.hid (all_take kindsT l i hlt HA.out hkx)
          clear hE1 e0 e1 e2 e3 hx hb hc HA hkx
          go_wp2
          go_roundw
          case rel => exact ⟨i + 1, by omega, by go_num, HA2, hE2⟩
          case measure => simp [intOf]; omega
        | false =>
          have HA2 := Lib.hid (all_false kindsT l i hlt hkx)
          clear hE1 e0 e1 e2 e3 hx hb hc HA hkx
          go_wp2
          go_ret
          exact ⟨by rw [HX.out, HA2.out]; rfl, hE3⟩
      · have hi' : i = l.length := by omega
        have HA2 : Hid (l.all kindsT = true) := by have := HA.out; rw [hi', List.take_length] at this; exact this
        clear hi'
        go_wp2
        go_ret
        exact ⟨by rw [HX.out, HA2.out]; rfl, hE⟩
  · have HX : Hid (kindsT (.node k n s l) = false) := Lib.hid (by rw [HK.out]; simp [hp])
    by_cases hk2 : k = 2
    · have f2 : (K == 2) = true := by rw [e2]; simpa using hk2
      have g2 : (K != 2) = false := by rw [bne, f2]; rfl
      rw [hk2, plainB_2, hstl] at hp
      have HP := Lib.hid hp
      clear e0 e1 e2 hk0 hk1 hk2 HK ih H4 H5 hp
      have hstl' := Lib.hid hstl; clear hstl
      by_cases hn0 : n = 0
      · by_cases hs0 : s = []
        · have hl40 : ¬ (l.length : Int) ≤ 40 := fun h => HP.out (by simp [hn0, hs0]; omega)
          have hst : (str s).toList = [] := by rw [hstl'.out, hs0]
          subst hn0; clear hs0
          go_enter Tryz.func97, Tryz.ntmps97
          go_wp2
          go_ret
          exact ⟨by rw [HX.out]; rfl, (Ext.refl w).alloc _⟩
        · have hst : ¬ (str s).toList = [] := by rw [hstl'.out]; exact hs0
          subst hn0; clear hs0
          go_enter Tryz.func97, Tryz.ntmps97
          go_wp2
          go_ret
          exact ⟨by rw [HX.out]; rfl, (Ext.refl w).alloc _⟩
      · have hn' : (n == 0) = false := by simpa using hn0
        have hn'' : (n != 0) = true := by rw [bne, hn']; rfl
        clear hn0
        go_enter Tryz.func97, Tryz.ntmps97
        go_wp2
        go_ret
        exact ⟨by rw [HX.out]; rfl, (Ext.refl w).alloc _⟩
    · have f2 : (K == 2) = false := by rw [e2]; simpa using hk2
      have g2 : (K != 2) = true := by rw [bne, f2]; rfl
      clear e0 e1 e2 hk0 hk1 hk2 HK hstl ih H4 H5
      go_enter Tryz.func97, Tryz.ntmps97
      go_wp2
      go_ret
      exact ⟨by rw [HX.out]; rfl, (Ext.refl w).alloc _⟩

set_option maxRecDepth 100000 in
set_option maxHeartbeats 2000000 in
theorem rright_any (t : Tr) (w : World) (v : Value) (h : Lies w t v) (hp : partsT t ≤ 1000000) (hd : deepT t ≤ 1000000) :
    Calls Tryz.prog 55 #[v] w fun e w' => e = .returned (.bool (rightT t)) ∧ Ext w w' := by
  have HL := Lib.hid h
  have HR : Hid (rightT t = (kindsT t && decide ((deepT t : Int) ≤ 6) && decide ((partsT t : Int) ≤ 200))) := Lib.hid (by
    rw [rightT, Bool.eq_iff_iff]; simp only [Bool.and_eq_true, decide_eq_true_eq]
    exact and_congr (and_congr Iff.rfl ⟨fun h => by omega, fun h => by omega⟩) ⟨fun h => by omega, fun h => by omega⟩)
  cases h with
  | node k n s l a cap C hn hs h1 h2 h3 h4 h5 =>
  clear hn hs h1 h2 h3 h4 h5
  obtain ⟨-, -, -, -, hsz⟩ := alloc4 w (.int .u8 (k.toNat : Int)) (.int .i64 n) (.string (str s)) (.slice a l.length cap) 43
  have hm := alloc4 w (.int .u8 (k.toNat : Int)) (.int .i64 n) (.string (str s)) (.slice a l.length cap) 43
  have hE0 := (Ext.refl w).alloc (.cells #[.int .u8 (k.toNat : Int), .int .i64 n, .string (str s), .slice a l.length cap] 43)
  go_enter Tryz.func55, Tryz.ntmps55
  go_wp2_with fail
  generalize w.alloc (.cells #[.int .u8 (k.toNat : Int), .int .i64 n, .string (str s), .slice a l.length cap] 43) = W1 at *
  refine (rkinds_any _ _ _ (HL.out.ext hE0)).mono ?_
  rintro e w1 ⟨rfl, hE1⟩
  have hE2 := hE0.trans hE1
  have m0 := (hE1.cell (p := ⟨w.heap.size, 0, none⟩) hsz).trans hm.1
  have m1 := (hE1.cell (p := ⟨w.heap.size, 1, none⟩) hsz).trans hm.2.1
  have m2 := (hE1.cell (p := ⟨w.heap.size, 2, none⟩) hsz).trans hm.2.2.1
  have m3 := (hE1.cell (p := ⟨w.heap.size, 3, none⟩) hsz).trans hm.2.2.2.1
  have hsz1 := Nat.lt_of_lt_of_le hsz hE1.size
  clear hm hE0
  cases hk : kindsT (.node k n s l) with
  | false =>
    rw [hk] at HR
    clear hk hE1
    go_wp2
    go_ret
    exact ⟨by rw [HR.out]; rfl, hE2⟩
  | true =>
    rw [hk] at HR
    clear hk hE1
    go_wp2_with fail
    refine (rdeep_any _ _ _ (HL.out.ext hE2) hd).mono ?_
    rintro e w2 ⟨rfl, hE3⟩
    have hE4 := hE2.trans hE3
    have m0' := (hE3.cell (p := ⟨w.heap.size, 0, none⟩) hsz1).trans m0
    have m1' := (hE3.cell (p := ⟨w.heap.size, 1, none⟩) hsz1).trans m1
    have m2' := (hE3.cell (p := ⟨w.heap.size, 2, none⟩) hsz1).trans m2
    have m3' := (hE3.cell (p := ⟨w.heap.size, 3, none⟩) hsz1).trans m3
    generalize deepT (.node k n s l) = D at *
    clear m0 m1 m2 m3 hE3
    by_cases hD : D ≤ 6
    · go_wp2_with fail
      refine (rparts_any _ _ _ (HL.out.ext hE4) hp).mono ?_
      rintro e w3 ⟨rfl, hE5⟩
      have hE6 := hE4.trans hE5
      generalize partsT (.node k n s l) = P at *
      clear m0' m1' m2' m3' hE5
      have HR2 : Hid (rightT (.node k n s l) = decide ((P : Int) ≤ 200)) := Lib.hid (by
        have h6 : (D : Int) ≤ 6 := by omega
        rw [HR.out]; simp [h6])
      clear HR
      go_wp2
      go_ret
      exact ⟨by rw [HR2.out]; rfl, hE6⟩
    · have HR2 : Hid (rightT (.node k n s l) = false) := Lib.hid (by
        have h6 : ¬ (D : Int) ≤ 6 := by omega
        rw [HR.out]; simp [h6])
      clear HR m0' m1' m2' m3'
      go_wp2
      go_ret
      exact ⟨by rw [HR2.out]; rfl, hE4⟩
end Go.Proofs.YtdienbcjfljjnaaGreatDoor

/- Walks: the reference's Same. -/
open Go.RowKit Go.Shelf
namespace Go.Proofs.YtdienbcjfljjnaaGreatDoor
open Go Go.Proofs Fm

theorem str_beq (s t : List UInt8) : ((str s).toList == (str t).toList) = decide (s = t) := by
  rw [str_toList, str_toList, Bool.eq_iff_iff]; simp

set_option maxRecDepth 100000 in
set_option maxHeartbeats 4000000 in
theorem rsame_any (t : Tr) : ∀ (u : Tr) (w : World) (v x : Value), Lies w t v → Lies w u x →
    Calls Tryz.prog 67 #[v, x] w fun e w' => e = .returned (.bool (eqT t u)) ∧ Ext w w' := by
  induction t using Tr.ind with
  | h k n s l ih =>
  intro u w v x hv hx
  cases hx with
  | node k' n' s' l' a' cap' C' hn' hs' h1' h2' h3' h4' h5' =>
  cases hv with
  | node _ _ _ _ a cap C hn hs h1 h2 h3 h4 h5 =>
  have H4 := Lib.hid h4; have H5 := Lib.hid h5
  have H4' := Lib.hid h4'; have H5' := Lib.hid h5'
  have hll : l.length ≤ 9223372036854775807 := by unfold maxLen at h2; omega
  have hll' : l'.length ≤ 9223372036854775807 := by unfold maxLen at h2'; omega
  have ek : ((k.toNat : Int) != (k'.toNat : Int)) = !decide (k = k') := by rw [bne, u8_eq]
  have es : ((str s).toList == (str s').toList) = decide (s = s') := str_beq s s'
  clear h3 h4 h5 hn h3' h4' h5' hn' h1 h2 h1' h2'
  generalize hK : (k.toNat : Int) = K at *
  generalize hK' : (k'.toNat : Int) = K' at *
  clear hK hK'
  by_cases hk : k = k'
  · have f0 : (K != K') = false := by rw [ek]; simpa using hk
    by_cases hn : n = n'
    · have f1 : (n != n') = false := by simpa using hn
      by_cases hs : s = s'
      · have f2 : ((str s).toList == (str s').toList) = true := by rw [es]; simpa using hs
        by_cases hl : l.length = l'.length
        · have f3 : ((l.length : Int) != (l'.length : Int)) = false := by rw [hl]; simp
          have HX : Hid ((l = l' → eqT (.node k n s l) (.node k' n' s' l') = true) ∧ (l ≠ l' → eqT (.node k n s l) (.node k' n' s' l') = false)) :=
            Lib.hid ⟨fun e => eqT_iff.2 (by rw [hk, hn, hs, e]), fun e => eqT_ne fun h => e (by injection h)⟩
          have HL := Lib.hid hl
          clear ek es hk hn hs hl
          go_enter Tryz.func67, Tryz.ntmps67
          go_wp2_with fail
          obtain ⟨-, -, -, m3, hsz⟩ := alloc4 w (.int .u8 K) (.int .i64 n) (.string (str s)) (.slice a l.length cap) 43
          have hE0 := (Ext.refl w).alloc (.cells #[.int .u8 K, .int .i64 n, .string (str s), .slice a l.length cap] 43)
          have hs1 : (w.alloc (.cells #[.int .u8 K, .int .i64 n, .string (str s), .slice a l.length cap] 43)).heap.size = w.heap.size + 1 := by simp
          generalize w.alloc (.cells #[.int .u8 K, .int .i64 n, .string (str s), .slice a l.length cap] 43) = W1 at *
          obtain ⟨-, -, -, m3', hsz'⟩ := alloc4 W1 (.int .u8 K') (.int .i64 n') (.string (str s')) (.slice a' l'.length cap') 43
          have hE1 := (Ext.refl W1).alloc (.cells #[.int .u8 K', .int .i64 n', .string (str s'), .slice a' l'.length cap'] 43)
          generalize W1.alloc (.cells #[.int .u8 K', .int .i64 n', .string (str s'), .slice a' l'.length cap'] 43) = W2 at *
          have m3 := (hE1.cell (p := ⟨w.heap.size, 3, none⟩) hsz).trans m3
          have hE2 := hE0.trans hE1
          have hsz2 : w.heap.size < W2.heap.size := Nat.lt_of_lt_of_le hsz hE1.size
          rw [hs1] at m3' hsz'
          clear hE0 hE1 hsz hs1 f0 f1 f2 f3
          go_loopw [5] (fun i wr => ∃ j : Nat, j ≤ l.length ∧ i = .int .i64 j ∧ Hid (l.take j = l'.take j) ∧ Ext W2 wr) (fun i _ => l.length - (intOf i).toNat)
          case atStart => exact ⟨0, by omega, rfl, by simp [Hid], Ext.refl _⟩
          case round =>
            obtain ⟨j, hj, rfl, HA, hE'⟩ := hrel
            have hE := hE2.trans hE'
            have q3 := (hE'.cell (p := ⟨w.heap.size, 3, none⟩) hsz2).trans m3
            have q3' := (hE'.cell (p := ⟨w.heap.size + 1, 3, none⟩) hsz').trans m3'
            by_cases hlt : j < l.length
            · obtain ⟨b, off, rfl, hb, hc⟩ := H4.out (by omega)
              have hlt' : j < l'.length := by have := HL.out; omega
              obtain ⟨b', off', rfl, hb', hc'⟩ := H4'.out (by omega)
              obtain ⟨k0, n0, s0, a0, m0, c0, e0, e1, e2, e3, hx⟩ := elem4 hE hb hc H5.out j hlt
              obtain ⟨k1, n1, s1, a1, m1, c1, g0, g1, g2, g3, hx'⟩ := elem4 hE hb' hc' H5'.out j hlt'
              go_wp2_with fail
              go_still_tail 10, (by kernel_rfl)
              change wpList _ _ _ _ _ wr.drew
              have hx := hx.ext ((Ext.refl wr).drew)
              have hx' := hx'.ext ((Ext.refl wr).drew)
              have hE := hE.drew
              have hE' := hE'.drew
              generalize wr.drew = wd at *
              go_wp2_with fail
              refine (ih _ (List.getElem_mem hlt) _ _ _ _ hx hx').mono ?_
              rintro e w1 ⟨rfl, hE1⟩
              have hE3 := hE'.trans hE1
              have hE4 := hE.trans hE1
              cases hkx : eqT l[j] l'[j] with
              | true =>
                have HA2 := Lib.hid (take_same hlt hlt' HA.out (eqT_iff.1 hkx))
                clear hE1 e0 e1 e2 e3 hx hb hc HA hkx g0 g1 g2 g3 hx' hb' hc'
                go_wp2
                go_roundw
                case rel => exact ⟨j + 1, by omega, by go_num, HA2, hE3⟩
                case measure => simp [intOf]; omega
              | false =>
                have HA2 := Lib.hid (HX.out.2 (fun e => by subst e; rw [eqT_self] at hkx; cases hkx))
                clear hE1 e0 e1 e2 e3 hx hb hc HA hkx g0 g1 g2 g3 hx' hb' hc'
                go_wp2
                go_ret
                exact ⟨by rw [HA2.out]; rfl, hE4⟩
            · have hj' : j = l.length := by omega
              have HA2 := Lib.hid (HX.out.1 (by have := HA.out; rw [hj', List.take_length, HL.out, List.take_length] at this; exact this))
              clear hj'
              go_wp2
              go_ret
              exact ⟨by rw [HA2.out]; rfl, hE⟩
        · have HX := Lib.hid (eqT_ne (t := .node k n s l) (u := .node k' n' s' l') (fun e => hl (by injection e; congr 1)))
          have f3 : ((l.length : Int) != (l'.length : Int)) = true := by rw [bne, Bool.not_eq_true']; simp; omega
          clear ek es hk hn hs hl H4 H5 H4' H5' ih
          go_enter Tryz.func67, Tryz.ntmps67
          go_wp2
          go_ret
          exact ⟨by rw [HX.out]; rfl, ((Ext.refl w).alloc _).alloc _⟩
      · have HX := Lib.hid (eqT_ne (t := .node k n s l) (u := .node k' n' s' l') (fun e => hs (by injection e)))
        have f2 : ((str s).toList == (str s').toList) = false := by rw [es]; simpa using hs
        clear ek es hk hn hs H4 H5 H4' H5' ih
        go_enter Tryz.func67, Tryz.ntmps67
        go_wp2
        go_ret
        exact ⟨by rw [HX.out]; rfl, ((Ext.refl w).alloc _).alloc _⟩
    · have HX := Lib.hid (eqT_ne (t := .node k n s l) (u := .node k' n' s' l') (fun e => hn (by injection e)))
      have f1 : (n != n') = true := by simpa using hn
      clear ek es hk hn H4 H5 H4' H5' ih
      go_enter Tryz.func67, Tryz.ntmps67
      go_wp2
      go_ret
      exact ⟨by rw [HX.out]; rfl, ((Ext.refl w).alloc _).alloc _⟩
  · have HX := Lib.hid (eqT_ne (t := .node k n s l) (u := .node k' n' s' l') (fun e => hk (by injection e)))
    have f0 : (K != K') = true := by rw [ek]; simpa using hk
    clear ek es hk H4 H5 H4' H5' ih
    go_enter Tryz.func67, Tryz.ntmps67
    go_wp2
    go_ret
    exact ⟨by rw [HX.out]; rfl, ((Ext.refl w).alloc _).alloc _⟩
end Go.Proofs.YtdienbcjfljjnaaGreatDoor

/- Walks: Same by slices.EqualFunc. -/
open Go.RowKit Go.Shelf
namespace Go.Proofs.YtdienbcjfljjnaaGreatDoor
open Go Go.Proofs Fm

set_option maxRecDepth 100000 in
set_option maxHeartbeats 4000000 in
theorem equalF_any (l l' : List Tr) (ih : ∀ t, t ∈ l → ∀ (u : Tr) (w : World) (v x : Value), Lies w t v → Lies w u x → Calls Tryz.prog 65 #[v, x] w fun e w' => e = .returned (.bool (eqT t u)) ∧ Ext w w')
    (w : World) (v x : Value) (hv : LiesS w l v) (hx : LiesS w l' x) :
    Calls Tryz.prog 105 #[v, x, .func (.func 65) #[] #[]] w fun e w' => ∃ b, e = .returned (.bool b) ∧ (b = true ↔ l = l') ∧ Ext w w' := by
  obtain ⟨a, cap, rfl, h1, h2, h3, C, h4, h5⟩ := hv
  obtain ⟨a', cap', rfl, h1', h2', h3', C', h4', h5'⟩ := hx
  have H4 := Lib.hid h4; have H5 := Lib.hid h5
  have H4' := Lib.hid h4'; have H5' := Lib.hid h5'
  have hll : l.length ≤ 9223372036854775807 := by unfold maxLen at h2; omega
  have hll' : l'.length ≤ 9223372036854775807 := by unfold maxLen at h2'; omega
  clear h3 h4 h5 h3' h4' h5' h1 h2 h1' h2'
  by_cases hl : l.length = l'.length
  · have f3 : ((l.length : Int) != (l'.length : Int)) = false := by rw [hl]; simp
    have HL := Lib.hid hl
    clear hl
    go_enter Tryz.func105, Tryz.ntmps105
    go_wp2_with fail
    clear f3
    go_loopw [17] (fun i wr => ∃ j : Nat, j ≤ l.length ∧ i = .int .i64 j ∧ Hid (l.take j = l'.take j) ∧ Ext w wr) (fun i _ => l.length - (intOf i).toNat)
    case atStart => exact ⟨0, by omega, rfl, by simp [Hid], Ext.refl _⟩
    case round =>
      obtain ⟨j, hj, rfl, HA, hE⟩ := hrel
      by_cases hlt : j < l.length
      · obtain ⟨b, off, rfl, hb, hc⟩ := H4.out (by omega)
        have hlt' : j < l'.length := by have := HL.out; omega
        obtain ⟨b', off', rfl, hb', hc'⟩ := H4'.out (by omega)
        obtain ⟨k0, n0, s0, a0, m0, c0, e0, e1, e2, e3, hx⟩ := elem4 hE hb hc H5.out j hlt
        obtain ⟨k1, n1, s1, a1, m1, c1, g0, g1, g2, g3, hx'⟩ := elem4 hE hb' hc' H5'.out j hlt'
        have hz := Nat.lt_of_lt_of_le hb hE.size
        have hz' := Nat.lt_of_lt_of_le hb' hE.size
        go_wp2_with fail
        refine (ih _ (List.getElem_mem hlt) _ _ _ _ (hx.ext (((Ext.refl wr).alloc _).alloc _)) (hx'.ext (((Ext.refl wr).alloc _).alloc _))).mono ?_
        rintro e w1 ⟨rfl, hE1⟩
        have hE3 := ((hE.alloc _).alloc _).trans hE1
        cases hkx : eqT l[j] l'[j] with
        | true =>
          have HA2 := Lib.hid (take_same hlt hlt' HA.out (eqT_iff.1 hkx))
          clear hE1 e0 e1 e2 e3 hx hb hc HA hkx g0 g1 g2 g3 hx' hb' hc'
          go_wp2
          go_roundw
          case rel => exact ⟨j + 1, by omega, by go_num, HA2, hE3⟩
          case measure => simp [intOf]; omega
        | false =>
          have HA2 := Lib.hid (show ¬ l = l' from fun e => by subst e; rw [eqT_self] at hkx; cases hkx)
          clear hE1 e0 e1 e2 e3 hx hb hc HA hkx g0 g1 g2 g3 hx' hb' hc'
          go_wp2
          go_ret
          exact ⟨false, rfl, by simp [HA2.out], hE3⟩
      · have hj' : j = l.length := by omega
        have HA2 : Hid (l = l') := by have := HA.out; rw [hj', List.take_length, HL.out, List.take_length] at this; exact this
        clear hj'
        go_wp2
        go_ret
        exact ⟨true, rfl, by simp [HA2.out], hE⟩
  · have f3 : ((l.length : Int) != (l'.length : Int)) = true := by rw [bne, Bool.not_eq_true']; simp; omega
    have HX := Lib.hid (show ¬ l = l' from fun e => hl (by rw [e]))
    clear hl H4 H5 H4' H5' ih
    go_enter Tryz.func105, Tryz.ntmps105
    go_wp2
    go_ret
    exact ⟨false, rfl, by simp [HX.out], Ext.refl w⟩

set_option maxRecDepth 100000 in
set_option maxHeartbeats 4000000 in
theorem vsame_any (t : Tr) : ∀ (u : Tr) (w : World) (v x : Value), Lies w t v → Lies w u x →
    Calls Tryz.prog 65 #[v, x] w fun e w' => e = .returned (.bool (eqT t u)) ∧ Ext w w' := by
  induction t using Tr.ind with
  | h k n s l ih =>
  intro u w v x hv hx
  cases hx with
  | node k' n' s' l' a' cap' C' hn' hs' h1' h2' h3' h4' h5' =>
  cases hv with
  | node _ _ _ _ a cap C hn hs h1 h2 h3 h4 h5 =>
  have H4 := Lib.hid h4; have H5 := Lib.hid h5
  have H4' := Lib.hid h4'; have H5' := Lib.hid h5'
  have hll : l.length ≤ 9223372036854775807 := by unfold maxLen at h2; omega
  have hll' : l'.length ≤ 9223372036854775807 := by unfold maxLen at h2'; omega
  have HS : Hid (LiesS w l (.slice a l.length cap)) := Lib.hid ⟨a, cap, rfl, h1, h2, h3, C, h4, h5⟩
  have HS' : Hid (LiesS w l' (.slice a' l'.length cap')) := Lib.hid ⟨a', cap', rfl, h1', h2', h3', C', h4', h5'⟩
  have ek : ((k.toNat : Int) == (k'.toNat : Int)) = decide (k = k') := by rw [u8_eq]
  have es : ((str s).toList == (str s').toList) = decide (s = s') := str_beq s s'
  clear h3 h4 h5 hn h3' h4' h5' hn' h1 h2 h1' h2'
  generalize hK : (k.toNat : Int) = K at *
  generalize hK' : (k'.toNat : Int) = K' at *
  clear hK hK'
  by_cases hk : k = k'
  · have f0 : (K == K') = true := by rw [ek]; simpa using hk
    by_cases hn : n = n'
    · have f1 : (n == n') = true := by simpa using hn
      by_cases hs : s = s'
      · have f2 : ((str s).toList == (str s').toList) = true := by rw [es]; simpa using hs
        have HX : Hid ((l = l' → eqT (.node k n s l) (.node k' n' s' l') = true) ∧ (l ≠ l' → eqT (.node k n s l) (.node k' n' s' l') = false)) :=
            Lib.hid ⟨fun e => eqT_iff.2 (by rw [hk, hn, hs, e]), fun e => eqT_ne fun h => e (by injection h)⟩
        clear ek es hk hn hs H4 H5 H4' H5'
        go_enter Tryz.func65, Tryz.ntmps65
        go_wp2_with fail
        refine (equalF_any l l' ih _ _ _ (LiesS.ext (((Ext.refl w).alloc _).alloc _) HS.out) (LiesS.ext (((Ext.refl w).alloc _).alloc _) HS'.out)).mono ?_
        rintro e w1 ⟨b, rfl, hb, hE1⟩
        have hE2 := (((Ext.refl w).alloc _).alloc _).trans hE1
        have HX2 : Hid (eqT (.node k n s l) (.node k' n' s' l') = b) := Lib.hid (by
          cases b with
          | true => exact HX.out.1 (hb.1 rfl)
          | false => exact HX.out.2 (fun e => by have := hb.2 e; cases this))
        clear hE1 HX hb
        go_wp2
        go_ret
        exact ⟨by rw [HX2.out]; rfl, hE2⟩
      · have HX := Lib.hid (eqT_ne (t := .node k n s l) (u := .node k' n' s' l') (fun e => hs (by injection e)))
        have f2 : ((str s).toList == (str s').toList) = false := by rw [es]; simpa using hs
        clear ek es hk hn hs H4 H5 H4' H5' ih
        go_enter Tryz.func65, Tryz.ntmps65
        go_wp2
        go_ret
        exact ⟨by rw [HX.out]; rfl, ((Ext.refl w).alloc _).alloc _⟩
    · have HX := Lib.hid (eqT_ne (t := .node k n s l) (u := .node k' n' s' l') (fun e => hn (by injection e)))
      have f1 : (n == n') = false := by simpa using hn
      clear ek es hk hn H4 H5 H4' H5' ih
      go_enter Tryz.func65, Tryz.ntmps65
      go_wp2
      go_ret
      exact ⟨by rw [HX.out]; rfl, ((Ext.refl w).alloc _).alloc _⟩
  · have HX := Lib.hid (eqT_ne (t := .node k n s l) (u := .node k' n' s' l') (fun e => hk (by injection e)))
    have f0 : (K == K') = false := by rw [ek]; simpa using hk
    clear ek es hk H4 H5 H4' H5' ih
    go_enter Tryz.func65, Tryz.ntmps65
    go_wp2
    go_ret
    exact ⟨by rw [HX.out]; rfl, ((Ext.refl w).alloc _).alloc _⟩
end Go.Proofs.YtdienbcjfljjnaaGreatDoor

/- Walks: Put. -/
open Go.RowKit Go.Shelf
namespace Go.Proofs.YtdienbcjfljjnaaGreatDoor
open Go Go.Proofs Fm

theorem i64_nat (n : Nat) (h : n ≤ 9223372036854775807) : isI64 (n : Int) := by unfold isI64; omega

set_option maxRecDepth 100000 in
set_option maxHeartbeats 4000000 in
theorem put_any (t : Tr) : ∀ (w : World) (b v : Value) (xs : List UInt8), Bytes w b xs → Lies w t v → xs.length + (bytesT t).length ≤ 1000000000 →
    Calls Tryz.prog 58 #[b, v] w (RetBytes w (xs ++ bytesT t)) := by
  induction t using Tr.ind with
  | h k n s l ih =>
  intro w b v xs hb hv hsz
  obtain ⟨d, rfl, hn, hs, hl⟩ := hv.parts
  have ⟨a, cap, hd, h1, h2, h3, C, h4, h5⟩ := hl
  subst hd
  have H4 := Lib.hid h4; have H5 := Lib.hid h5
  have hll : l.length ≤ 9223372036854775807 := by unfold maxLen at h2; omega
  have hk255 := k.toNat_lt
  have e0 := u8_eq k 0
  have e1 := u8_eq k 1
  rw [show ((0 : UInt8).toNat : Int) = 0 from rfl] at e0
  rw [show ((1 : UInt8).toNat : Int) = 1 from rfl] at e1
  have HK := Lib.hid (i64_nat k.toNat (by omega))
  have HN := Lib.hid hn
  have HT := Lib.hid (bytesT_node k n s l)
  have HZ := Lib.hid hsz
  have hK0 : (0 : Int) ≤ (k.toNat : Int) := by omega
  have hK255 : (k.toNat : Int) ≤ 255 := by omega
  have hxs : xs.length ≤ 1000000000 := by omega
  clear h1 h2 h3 h4 h5 hl hn hv hsz
  have hE0 := (Ext.refl w).alloc (.cells #[.int .u8 (k.toNat : Int), .int .i64 n, .string (str s), .slice a l.length cap] 43)
  obtain ⟨m0, m1, m2, m3, hsz⟩ := alloc4 w (.int .u8 (k.toNat : Int)) (.int .i64 n) (.string (str s)) (.slice a l.length cap) 43
  generalize (k.toNat : Int) = K at *
  go_enter Tryz.func58, Tryz.ntmps58
  go_wp2_with fail
  generalize w.alloc (.cells #[.int .u8 K, .int .i64 n, .string (str s), .slice a l.length cap] 43) = W1 at *
  refine (num_any _ xs W1 (hb.ext hE0) (by omega) K HK.out).mono ?_
  rintro e w1 ⟨vo, rfl, ro⟩
  have hE1 := hE0.trans ro.2
  have o1 := ro.own.mono hE0.size
  have q0 := (ro.2.cell (p := ⟨w.heap.size, 0, none⟩) hsz).trans m0
  have q1 := (ro.2.cell (p := ⟨w.heap.size, 1, none⟩) hsz).trans m1
  have q2 := (ro.2.cell (p := ⟨w.heap.size, 2, none⟩) hsz).trans m2
  have q3 := (ro.2.cell (p := ⟨w.heap.size, 3, none⟩) hsz).trans m3
  have hz1 := Nat.lt_of_lt_of_le hsz ro.2.size
  have hnk := numB_le K
  clear ro hE0 m0 m1 m2 m3 hsz hb
  by_cases hk0 : k = 0
  · have f0 : (K == 0) = true := by rw [e0]; simpa using hk0
    have HX : Hid (bytesT (.node k n s l) = numB K ++ numB n) := Lib.hid (by rw [HT.out, if_pos hk0])
    clear e0 e1 hk0
    go_wp2_with fail
    refine (num_any _ _ w1 o1.bytes (by simp; omega) n HN.out).mono ?_
    rintro e w2 ⟨v2, rfl, r2⟩
    have hE2 := hE1.trans r2.2
    have o2 := r2.own.mono hE1.size
    have hR : RetBytes w (xs ++ bytesT (.node k n s l)) (.returned v2) w2 := ⟨v2, rfl, by rw [HX.out, ← List.append_assoc]; exact ⟨o2, hE2⟩⟩
    clear r2 o1 o2 q0 q1 q2 q3
    go_wp2
    go_ret
    exact hR
  have f0 : (K == 0) = false := by rw [e0]; simpa using hk0
  by_cases hk1 : k = 1
  · have f1 : (K == 1) = true := by rw [e1]; simpa using hk1
    have HX : Hid (bytesT (.node k n s l) = numB K ++ textB s) := Lib.hid (by rw [HT.out, if_neg hk0, if_pos hk1])
    have hsl : s.length ≤ 1000000000 := by have := HZ.out; rw [HX.out, List.length_append, textB, List.length_append] at this; omega
    clear e0 e1 hk0 hk1
    go_wp2_with fail
    refine (text_any _ _ s w1 o1.bytes (by simp; omega) (by omega)).mono ?_
    rintro e w2 ⟨v2, rfl, r2⟩
    have hE2 := hE1.trans r2.2
    have o2 := r2.own.mono hE1.size
    have hR : RetBytes w (xs ++ bytesT (.node k n s l)) (.returned v2) w2 := ⟨v2, rfl, by rw [HX.out, ← List.append_assoc]; exact ⟨o2, hE2⟩⟩
    clear r2 o1 o2 q0 q1 q2 q3
    go_wp2
    go_ret
    exact hR
  · have f1 : (K == 1) = false := by rw [e1]; simpa using hk1
    have HX : Hid (bytesT (.node k n s l) = numB K ++ (numB l.length ++ bytesL l)) := Lib.hid (by rw [HT.out, if_neg hk0, if_neg hk1])
    have hbl : xs.length + (numB K).length + (numB l.length).length + (bytesL l).length ≤ 1000000000 := by have := HZ.out; rw [HX.out, List.length_append, List.length_append] at this; omega
    have HLN := Lib.hid (i64_nat l.length hll)
    clear e0 e1 hk0 hk1
    go_wp2_with fail
    refine (num_any _ _ w1 o1.bytes (by simp; omega) (l.length : Int) HLN.out).mono ?_
    rintro e w2 ⟨v2, rfl, r2⟩
    have hE2 := hE1.trans r2.2
    have o2 := r2.own.mono hE1.size
    have q3' := (r2.2.cell (p := ⟨w.heap.size, 3, none⟩) hz1).trans q3
    clear r2 o1 q0 q1 q2 q3 hE1
    go_wp2_with fail
    go_loopw [5, 35] (fun o i wr => ∃ j : Nat, j ≤ l.length ∧ i = .int .i64 j ∧ Hid (OwnB w.heap.size wr o (xs ++ numB K ++ numB l.length ++ bytesL (l.take j))) ∧ Ext w wr) (fun _ i _ => l.length - (intOf i).toNat)
    case atStart => exact ⟨0, by omega, rfl, Lib.hid (by rw [List.take_zero, bytesL_nil, List.append_nil]; exact o2), hE2⟩
    case round =>
      obtain ⟨j, hj, rfl, HO, hE⟩ := hrel
      clear o2 q3' hE2
      by_cases hlt : j < l.length
      · obtain ⟨b', off, rfl, hb, hc⟩ := H4.out (by omega)
        obtain ⟨k0, n0, s0, a0, m0, c0, e0, e1, e2, e3, hx⟩ := elem4 hE hb hc H5.out j hlt
        have hat := bytesL_at l j hlt
        have hle := bytesL_take_le l (j + 1)
        have hlen : (bytesL (l.take (j + 1))).length = (bytesL (l.take j)).length + (bytesT l[j]).length := by rw [hat, List.length_append]
        go_wp2_with fail
        refine (ih _ (List.getElem_mem hlt) _ _ _ _ (HO.out.bytes.ext ((Ext.refl wr).alloc _)) (hx.ext ((Ext.refl wr).alloc _)) (by simp only [List.length_append]; omega)).mono ?_
        rintro e w3 ⟨v3, rfl, r3⟩
        have hE3 := (hE.alloc _).trans r3.2
        have HO2 : Hid (OwnB w.heap.size w3 v3 (xs ++ numB K ++ numB l.length ++ bytesL (l.take (j + 1)))) := Lib.hid (by
          rw [hat, ← List.append_assoc]
          exact r3.own.mono (hE.alloc _).size)
        clear r3 e0 e1 e2 e3 hx hb hc hat hle hlen HO
        go_wp2
        go_roundw
        case rel => exact ⟨j + 1, by omega, by go_num, HO2, hE3⟩
        case measure => simp [intOf]; omega
      · have hj' : j = l.length := by omega
        have hR : ∃ vr, vr = u5 ∧ RetBytes w (xs ++ bytesT (.node k n s l)) (.returned vr) wr := ⟨u5, rfl, u5, rfl, by
          have h := HO.out
          rw [hj', List.take_length] at h
          rw [HX.out, ← List.append_assoc, ← List.append_assoc]
          exact ⟨h, hE⟩⟩
        obtain ⟨vr, rfl, hR⟩ := hR
        clear HO hj'
        go_wp2
        go_ret
        exact hR
end Go.Proofs.YtdienbcjfljjnaaGreatDoor

namespace Go.Proofs
open Go.Shelf
def Tryz.lays160_ren : Go.Shelf.Ren := ⟨fun | 160 => 115 | 232 => 134 | 231 => 133 | 227 => 135 | 234 => 137 | 233 => 136 | 236 => 139 | 235 => 138 | 228 => 147 | 271 => 150 | 151 => 149 | 197 => 148 | 120 => 153 | 152 => 152 | 260 => 151 | 137 => 154 | 119 => 155 | 224 => 156 | 225 => 157 | 217 => 158 | 266 => 159 | n => n, fun | 9 => 9 | 4 => 4 | 3 => 3 | 5 => 5 | 117 => 188 | 116 => 187 | 0 => 0 | 124 => 191 | 21 => 21 | 105 => 197 | 46 => 160 | 119 => 201 | 139 => 204 | 138 => 203 | n => n, fun | 3 => 1 | 4 => 2 | n => n⟩
theorem Tryz.lays160 : Go.Proofs.Lays.n160 Tryz.prog Tryz.lays160_ren := {
  mixed := by kernel_rfl
  f119 := Tryz.func155.trans (congrArg some (by kernel_rfl))
  f120 := Tryz.func153.trans (congrArg some (by kernel_rfl))
  f137 := Tryz.func154.trans (congrArg some (by kernel_rfl))
  f151 := Tryz.func149.trans (congrArg some (by kernel_rfl))
  f152 := Tryz.func152.trans (congrArg some (by kernel_rfl))
  f160 := Tryz.func115.trans (congrArg some (by kernel_rfl))
  f197 := Tryz.func148.trans (congrArg some (by kernel_rfl))
  f217 := Tryz.func158.trans (congrArg some (by kernel_rfl))
  f224 := Tryz.func156.trans (congrArg some (by kernel_rfl))
  f225 := Tryz.func157.trans (congrArg some (by kernel_rfl))
  f227 := Tryz.func135.trans (congrArg some (by kernel_rfl))
  f228 := Tryz.func147.trans (congrArg some (by kernel_rfl))
  f231 := Tryz.func133.trans (congrArg some (by kernel_rfl))
  f232 := Tryz.func134.trans (congrArg some (by kernel_rfl))
  f233 := Tryz.func136.trans (congrArg some (by kernel_rfl))
  f234 := Tryz.func137.trans (congrArg some (by kernel_rfl))
  f235 := Tryz.func138.trans (congrArg some (by kernel_rfl))
  f236 := Tryz.func139.trans (congrArg some (by kernel_rfl))
  f260 := Tryz.func151.trans (congrArg some (by kernel_rfl))
  f266 := Tryz.func159.trans (congrArg some (by kernel_rfl))
  f271 := Tryz.func150.trans (congrArg some (by kernel_rfl))
  t0 := Tryz.underlying0
  a0 := Tryz.isAgg0
  z0 := Tryz.sizeOf0
  v0 := Tryz.zeroValue0
  t3 := Tryz.underlying3
  a3 := Tryz.isAgg3
  z3 := Tryz.sizeOf3
  v3 := Tryz.zeroValue3
  t4 := Tryz.underlying4
  a4 := Tryz.isAgg4
  z4 := Tryz.sizeOf4
  v4 := Tryz.zeroValue4
  t5 := Tryz.underlying5
  a5 := Tryz.isAgg5
  z5 := Tryz.sizeOf5
  v5 := Tryz.zeroValue5
  t9 := Tryz.underlying9
  a9 := Tryz.isAgg9
  z9 := Tryz.sizeOf9
  v9 := Tryz.zeroValue9
  t21 := Tryz.underlying21
  a21 := Tryz.isAgg21
  z21 := Tryz.sizeOf21
  v21 := Tryz.zeroValue21
  t46 := Tryz.underlying160
  a46 := Tryz.isAgg160
  z46 := Tryz.sizeOf160
  v46 := Tryz.zeroValue160
  t105 := Tryz.underlying197
  a105 := Tryz.isAgg197
  z105 := Tryz.sizeOf197
  v105 := Tryz.zeroValue197
  t116 := Tryz.underlying187
  a116 := Tryz.isAgg187
  z116 := Tryz.sizeOf187
  t117 := Tryz.underlying188
  a117 := Tryz.isAgg188
  z117 := Tryz.sizeOf188
  v117 := Tryz.zeroValue188
  t119 := Tryz.underlying201
  a119 := Tryz.isAgg201
  z119 := Tryz.sizeOf201
  t124 := Tryz.underlying191
  a124 := Tryz.isAgg191
  z124 := Tryz.sizeOf191
  v124 := Tryz.zeroValue191
  t138 := Tryz.underlying203
  a138 := Tryz.isAgg203
  z138 := Tryz.sizeOf203
  v138 := Tryz.zeroValue203
  t139 := Tryz.underlying204
  a139 := Tryz.isAgg204
  z139 := Tryz.sizeOf204
  v139 := Tryz.zeroValue204
  g3 := by kernel_rfl
  g4 := by kernel_rfl }
open Go.RowKit Go.Lib in
theorem Tryz.strings_Trim_any (s cutset : ByteArray) (w : World) (hs : s.size ≤ 9223372036854775807) (hcs : cutset.size < 4294967281) (hascii : ∀ (j : Nat) b, cutset.data.toList[j]? = some b → b.toNat < 128) :
    Calls Tryz.prog 115 #[.string s, .string cutset] w fun e w' => e = .returned (.string ⟨(Lib.trimS s.data.toList cutset.data.toList).toArray⟩) ∧ Below w.heap.size w w' := Any.strings_Trim_laid Tryz.lays160 (by kernel_rfl) s cutset w hs hcs hascii
end Go.Proofs
