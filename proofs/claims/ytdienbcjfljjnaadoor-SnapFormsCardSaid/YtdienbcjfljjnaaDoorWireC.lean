/- The contracts of package wire, third part: Num, Text, TakeText; and Same. -/
import Derived.Test.YtdienbcjfljjnaaDoorWireB
import Derived.Deep.RegionHeld3
open Go.RowKit Go.Shelf
namespace Go.Proofs.YtdienbcjfljjnaaDoor
open Go Go.Proofs Fm

theorem elem_u8 : ElemOf Tryd.prog 27 5 (.int .u8 0) 1 1 := ⟨Tryd.underlying27, info_u8, rfl, by decide⟩

/-- v is a slice of the call's own, from block 'base' on, that holds these bytes. -/
def OwnB (base : Nat) (w : World) (v : Value) (xs : List UInt8) : Prop := w.ownsRow base 5 1 v xs.length (xs.map bv)
theorem OwnBytes.own {w w' : World} {v : Value} {xs : List UInt8} (h : OwnBytes w w' v xs) : OwnB w.heap.size w' v xs := h.1
theorem OwnB.bytes {base : Nat} {w : World} {v : Value} {xs : List UInt8} (h : OwnB base w v xs) : Bytes w v xs := Bytes.of_own h
theorem OwnB.ext {base : Nat} {w w' : World} {v : Value} {xs : List UInt8} (h : OwnB base w v xs) (hE : Ext w w') : OwnB base w' v xs := hE.own h
theorem OwnB.mono {base base' : Nat} {w : World} {v : Value} {xs : List UInt8} (h : OwnB base w v xs) (hb : base' ≤ base) : OwnB base' w v xs := by
  refine ⟨h.1, ?_⟩
  rcases h.2 with hn | ⟨g, cap, cur, hv, hg, rest⟩
  · exact .inl hn
  · exact .inr ⟨g, cap, cur, hv, Nat.le_trans hb hg, rest⟩
theorem OwnB.nil (base : Nat) (w : World) : OwnB base w (.slice none 0 0) [] := World.ownsRow_nil w base 5 1
/-- 'append(s, x...)', s of one's own, x any slice of bytes. -/
theorem appB {w : World} {ops : Array Oper} {rest : List Oper} {o : Oper} {a : Act} {Q : Exit → Act → World → Prop}
    (hg : Region.wanted o (yielded ops a.tmps) = true) (s x : Operand) (hop : o.op = Op.call { callee := Callee.builtin Builtin.append, args := #[s, x], argTypes := #[27, 27] }) {base : Nat}
    {v : Value} {xs : List UInt8} (hs : a.eval s = v) (hown : OwnB base w v xs) {X : Value} {ys : List UInt8} (hx : a.eval x = X) (hsrc : Bytes w X ys)
    (b1 : xs.length + ys.length ≤ 70368744177664) (b3 : base ≤ w.heap.size)
    (hK : ∀ v' w', OwnB base w' v' (xs ++ ys) → w.grownBy w' v.ownBlock → Below base w w' → wpList Tryd.prog ops Q rest (a.put o.dst v') w') :
    wpList Tryd.prog ops Q (o :: rest) a w := by
  refine wpList_appG w elem_u8 hg s x 27 hop base v _ _ hs hown X _ _ hx (Src.bytes Tryd.underlying27 hsrc) (by unfold maxLen; omega) (by omega) b3 (fun v' w' h1 h2 _ => hK v' w' ?_ h2 ?_)
  · unfold OwnB; rw [List.length_append, List.map_append]; exact h1
  · exact (Below.refl base w).grown h2 b3 (Fm.own_lt hown)
/-- .. x a text. -/
theorem appS {w : World} {ops : Array Oper} {rest : List Oper} {o : Oper} {a : Act} {Q : Exit → Act → World → Prop}
    (hg : Region.wanted o (yielded ops a.tmps) = true) (s x : Operand) (hop : o.op = Op.call { callee := Callee.builtin Builtin.append, args := #[s, x], argTypes := #[27, 9] }) {base : Nat}
    {v : Value} {xs : List UInt8} (hs : a.eval s = v) (hown : OwnB base w v xs) {ys : List UInt8} (hx : a.eval x = .string (str ys))
    (b1 : xs.length + ys.length ≤ 70368744177664) (b3 : base ≤ w.heap.size)
    (hK : ∀ v' w', OwnB base w' v' (xs ++ ys) → w.grownBy w' v.ownBlock → Below base w w' → wpList Tryd.prog ops Q rest (a.put o.dst v') w') :
    wpList Tryd.prog ops Q (o :: rest) a w := by
  have hsrc := Src.string (P := Tryd.prog) Tryd.underlying9 w (str ys)
  rw [str_list] at hsrc
  refine wpList_appG w elem_u8 hg s x 9 hop base v _ _ hs hown _ _ _ hx hsrc (by unfold maxLen; omega) (by omega) b3 (fun v' w' h1 h2 _ => hK v' w' ?_ h2 ?_)
  · unfold OwnB; rw [List.length_append, List.map_append]; exact h1
  · exact (Below.refl base w).grown h2 b3 (Fm.own_lt hown)

theorem same_any (a b : Value) (xs ys : List UInt8) (w : World) (ha : Bytes w a xs) (hb : Bytes w b ys) :
    Calls Tryd.prog 17 #[a, b] w fun e w' => e = .returned (.bool (decide (xs = ys))) ∧ w = w' := by
  have h1 := conv_bytes (P := Tryd.prog) (src := 27) (dst := 9) (e := 5) Tryd.underlying27 Tryd.underlying5 Tryd.underlying9 ha
  have h2 := conv_bytes (P := Tryd.prog) (src := 27) (dst := 9) (e := 5) Tryd.underlying27 Tryd.underlying5 Tryd.underlying9 hb
  go_enter Tryd.func17, Tryd.ntmps17
  go_wp2
  go_ret
  exact ⟨ret_val (congrArg Value.bool (by rw [str_toList, str_toList, Bool.eq_iff_iff]; simp)), rfl⟩

theorem num_any (v : Value) (xs : List UInt8) (w : World) (h : Bytes w v xs) (hs : xs.length ≤ 1099511627776) (m : Int) (hm : isI64 m) :
    Calls Tryd.prog 31 #[v, .int .i64 m] w (RetBytes w (xs ++ numB m)) := by
  go_enter Tryd.func31, Tryd.ntmps31
  go_wp2_with fail
  refine (clone_any v xs w h hs).mono ?_
  rintro e w1 ⟨v1, rfl, hr1, hE1⟩
  go_wp2_with fail
  refine (groups_any m _).mono ?_
  rintro e w2 ⟨rfl, rfl⟩
  go_wp2_with fail
  refine (appendSeq_any w.heap.size w1.heap.size m hm v1 xs (by omega) _ (by have := hE1.size; simp; omega) (by simp) (cell_new_l _ _ _).1 (hr1.alloc _)).mono ?_
  rintro e w3 ⟨v3, rfl, hr3, hE3⟩
  go_wp2
  go_ret
  exact ⟨v3, rfl, by simpa using hr3, (hE1.alloc _).then hE3⟩

theorem str_len (s : List UInt8) : ((str s).size : Int) = (s.length : Int) := by rw [str_size]

theorem text_any (v : Value) (xs s : List UInt8) (w : World) (h : Bytes w v xs) (hs : xs.length ≤ 1099511627776) (hss : s.length ≤ 1099511627776) :
    Calls Tryd.prog 52 #[v, .string (str s)] w (RetBytes w (xs ++ textB s)) := by
  have hm : isI64 (s.length : Int) := by unfold isI64; omega
  have hl := str_size s
  go_enter Tryd.func52, Tryd.ntmps52
  go_wp2_with fail
  refine (num_any v xs w h hs _ hm).mono ?_
  rintro e w1 ⟨v1, rfl, hr1, hE1⟩
  have hn := numB_le (s.length : Int)
  have hsz := hE1.size
  have HR := Lib.hid hr1; clear hr1
  go_wp2_with (at_builtin; refine wpList_app _ elem_u8 rfl _ _ 9 rfl w.heap.size _ _ _ rfl HR.out _ s.length (s.map bv) rfl ?src ?c1 ?c2 ?c3 ?_)
  case src => have := Src.string (P := Tryd.prog) Tryd.underlying9 w1 (str s); rwa [str_list] at this
  case c1 => unfold maxLen; simp; omega
  case c2 => simp; omega
  case c3 => exact hsz
  intro v' w2 hown hgrow _
  have hE2 := hE1.grown hgrow (own_lt HR.out)
  clear hgrow hsz
  go_wp2
  go_ret
  exact ⟨v', rfl, by simpa [textB, Nat.add_assoc] using hown, hE2⟩

/-- What TakeText comes to. -/
def TakeTextPost (v : Value) (xs : List UInt8) (top : Int) (w : World) (e : Ending) (w' : World) : Prop :=
  match takeT xs top with
  | some (k, n) => ∃ nq, e = .returned (.tuple #[.string (str ((xs.drop k).take n)), dropV (dropV v k) n, .int .i64 0]) ∧ w' = w.drewN nq
  | none => ∃ nq, e = .returned (.tuple #[.string (str []), .slice none 0 0, .int .i64 30]) ∧ w' = w.drewN nq
theorem takeText_none_of {xs : List UInt8} {top : Int} (h : takeT xs top = none) {v : Value} {w : World} (nq : Nat) :
    TakeTextPost v xs top w (.returned (.tuple #[.string (str []), .slice none 0 0, .int .i64 30])) (w.drewN nq) := by
  unfold TakeTextPost; rw [h]; exact ⟨nq, rfl, rfl⟩
theorem takeText_some_of {xs : List UInt8} {top : Int} {k n : Nat} (h : takeT xs top = some (k, n)) {v : Value} {w : World} (nq : Nat) :
    TakeTextPost v xs top w (.returned (.tuple #[.string (str ((xs.drop k).take n)), dropV (dropV v k) n, .int .i64 0])) (w.drewN nq) := by
  unfold TakeTextPost; rw [h]; exact ⟨nq, rfl, rfl⟩

set_option maxHeartbeats 1000000 in
theorem takeText_any (v : Value) (xs : List UInt8) (top : Int) (ht : isI64 top) (w : World) (h : Bytes w v xs) :
    Calls Tryd.prog 84 #[v, .int .i64 top] w (TakeTextPost v xs top w) := by
  obtain ⟨ht1, ht2⟩ := ht
  go_enter Tryd.func84, Tryd.ntmps84
  go_wp2_with fail
  refine (takeNum_any v xs w h).mono ?_
  intro e w1 hp
  unfold TakeNumPost at hp
  cases hn : takeN xs with
  | none =>
    rw [hn] at hp
    obtain ⟨rfl, rfl⟩ := hp
    have HF := Lib.hid (takeT_none hn top); clear hn
    go_wp2
    go_ret3
    exact takeText_none_of HF.out 0
  | some p =>
    obtain ⟨n, k⟩ := p
    rw [hn] at hp
    obtain ⟨nq, rfl, rfl⟩ := hp
    obtain ⟨hn64, hk0, hk10, hkl, _, _⟩ := takeN_inv hn
    obtain ⟨hn1, hn2⟩ := hn64
    have hd := h.drop hkl
    have HN := Lib.hid hn; clear hn
    have hlen := hd.length_le
    obtain ⟨v2, hv2⟩ : ∃ v2, v2 = dropV v k := ⟨_, rfl⟩
    obtain ⟨m, hm⟩ : ∃ m, m = (xs.drop k).length := ⟨_, rfl⟩
    have hm' : m = xs.length - k := by rw [hm]; simp
    rw [← hv2] at hd ⊢
    obtain ⟨a2, c2, hv, hc1, hc2, _, _⟩ := id hd
    rw [← hm] at hv hc1 hlen
    unfold maxLen at hc2
    have hfin : ∀ (q : ¬ (n < 0 ∨ top < n ∨ (m : Int) < n)) (nq' : Nat), TakeTextPost v xs top w (.returned (.tuple #[.string (str ((xs.drop k).take n.toNat)), dropV v2 n.toNat, .int .i64 0])) (w.drewN nq') := fun q nq' => by
      rw [hv2]; exact takeText_some_of (takeT_some HN.out (by rw [← hm']; exact q)) nq'
    have hbad : ∀ (q : n < 0 ∨ top < n ∨ (m : Int) < n) (nq' : Nat), TakeTextPost v xs top w (.returned (.tuple #[.string (str []), .slice none 0 0, .int .i64 30])) (w.drewN nq') := fun q nq' =>
      takeText_none_of (takeT_bad HN.out (by rw [← hm']; exact q)) nq'
    have HFIN := Lib.hid hfin; clear hfin
    have HBAD := Lib.hid hbad; clear hbad
    by_cases hneg : n < 0
    · subst hv
      have q := HBAD.out (.inl hneg)
      have HQ := Lib.hid q; clear q hm hm' hv2
      go_wp2
      go_ret3
      exact HQ.out _
    · by_cases htn : top < n
      · subst hv
        have HQ := Lib.hid (HBAD.out (.inr (.inl htn))); clear hm hm' hv2
        by_cases hmt : top ≤ m
        all_goals
          go_wp2
          go_ret3
          exact HQ.out _
      · by_cases hmn : (m : Int) < n
        · subst hv
          have HQ := Lib.hid (HBAD.out (.inr (.inr hmn))); clear hm hm' hv2
          have hmt : ¬ top ≤ m := by omega
          go_wp2
          go_ret3
          exact HQ.out _
        · have HQ := Lib.hid (HFIN.out (by omega))
          have hcv := fun w' hw' => conv_bytes (P := Tryd.prog) (src := 27) (dst := 9) (e := 5) Tryd.underlying27 Tryd.underlying5 Tryd.underlying9 (w := w') ((hd.take (k := n.toNat) (by rw [← hm]; omega)).ext hw')
          have hcv' := fun q : Nat => hcv (w.drewN q) ((Ext.refl w).drewN q)
          have hs1 := slice_upto a2 m c2 n (by omega) (by omega)
          have hs2 := slice_from a2 m c2 n (by omega) (by omega)
          rw [← hv] at hs1 hs2
          have hlv : ∀ w', (Builtin.len_ #[27] 3 #[v2]).run Tryd.prog w' = .ok (.int .i64 (m : Nat)) w' := by subst hv; intro w'; kernel_rfl
          clear hcv hm hm' hv2 hv hd
          by_cases hmt : top ≤ m
          all_goals
            go_wp2
            go_quiet (fail)
            go_wp2
            go_ret3
            rw [World.drewN_drewN]
            exact HQ.out _
/-- The length of a slice of bytes. -/
theorem len_bytes {w : World} {v : Value} {xs : List UInt8} (h : Bytes w v xs) (w' : World) : (Builtin.len_ #[27] 3 #[v]).run Tryd.prog w' = .ok (.int .i64 (xs.length : Nat)) w' := by
  obtain ⟨a, cap, rfl, _⟩ := h; kernel_rfl

theorem same_true {a b : Value} {xs ys : List UInt8} {w : World} (ha : Bytes w a xs) (hb : Bytes w b ys) (h : xs = ys) :
    Calls Tryd.prog 17 #[a, b] w fun e w' => e = .returned (.bool true) ∧ w = w' := by
  refine (same_any a b xs ys w ha hb).mono ?_
  rintro e w' ⟨rfl, rfl⟩
  exact ⟨by rw [decide_eq_true h], rfl⟩
theorem same_false {a b : Value} {xs ys : List UInt8} {w : World} (ha : Bytes w a xs) (hb : Bytes w b ys) (h : xs ≠ ys) :
    Calls Tryd.prog 17 #[a, b] w fun e w' => e = .returned (.bool false) ∧ w = w' := by
  refine (same_any a b xs ys w ha hb).mono ?_
  rintro e w' ⟨rfl, rfl⟩
  exact ⟨by rw [decide_eq_false h], rfl⟩

/-- A literal of bytes. -/
theorem bytes_new (W : World) (c : Array Value) (e n B : Nat) (xs : List UInt8) (hB : B = W.heap.size) (hn : n = xs.length) (hc : c = (xs.map bv).toArray) (hl : xs.length ≤ maxLen) :
    Bytes (W.alloc (.cells c e)) (.slice (some ⟨B, 0, none⟩) n n) xs := by
  subst hB hc
  rw [hn]
  refine Bytes.mk rfl (Nat.le_refl _) hl (by simp) (fun j hj => ?_)
  rw [Nat.zero_add, cell_of_row _ _ j _ e (0, 0) (heap_alloc_new W _)]
  simp [hj]
end Go.Proofs.YtdienbcjfljjnaaDoor
