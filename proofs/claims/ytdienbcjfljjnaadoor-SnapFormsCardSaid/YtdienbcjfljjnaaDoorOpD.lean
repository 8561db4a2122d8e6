/- Walks: op.read, Parse. -/
import Derived.Test.YtdienbcjfljjnaaDoorOpP
import Derived.Test.YtdienbcjfljjnaaDoorFrgR
import Derived.Test.YtdienbcjfljjnaaDoorVaM
open Go.RowKit Go.Shelf
namespace Go.Proofs.YtdienbcjfljjnaaDoor
open Go Go.Proofs Fm

theorem tnum_from (v : Value) (xs : List UInt8) (w0 w : World) (hE : Ext w0 w) (h : Bytes w0 v xs) :
    Calls Tryd.prog 80 #[v] w fun e w' => Ext w w' ∧ ((hdN xs = none ∧ e = .returned (.tuple #[.int .i64 0, .slice none 0 0, .int .i64 30])) ∨
      ∃ (n : Int) (r : List UInt8) (rv : Value), hdN xs = some (n, r) ∧ isI64 n ∧ Bytes w0 rv r ∧ e = .returned (.tuple #[.int .i64 n, rv, .int .i64 0])) := by
  refine (takeNum_any v xs w (h.ext hE)).mono ?_
  intro e w' hp
  unfold TakeNumPost at hp
  cases hT : takeN xs with
  | none =>
    rw [hT] at hp
    obtain ⟨rfl, rfl⟩ := hp
    exact ⟨Ext.refl _, .inl ⟨hdN_none hT, rfl⟩⟩
  | some p =>
    obtain ⟨n, k⟩ := p
    rw [hT] at hp
    obtain ⟨nq, rfl, rfl⟩ := hp
    obtain ⟨h1, -, -, h4, -⟩ := takeN_inv hT
    exact ⟨(Ext.refl _).drewN nq, .inr ⟨n, _, _, hdN_some hT, h1, h.drop h4, rfl⟩⟩
theorem ttext_from (v : Value) (xs : List UInt8) (w0 w : World) (hE : Ext w0 w) (h : Bytes w0 v xs) :
    Calls Tryd.prog 84 #[v, .int .i64 400] w fun e w' => Ext w w' ∧ ((hdX 400 xs = none ∧ e = .returned (.tuple #[.string (str []), .slice none 0 0, .int .i64 30])) ∨
      ∃ (s : List UInt8) (r : List UInt8) (rv : Value), hdX 400 xs = some (s, r) ∧ s.length ≤ 9223372036854775807 ∧ Bytes w0 rv r ∧ e = .returned (.tuple #[.string (str s), rv, .int .i64 0])) := by
  refine (takeText_any v xs 400 (by unfold isI64; omega) w (h.ext hE)).mono ?_
  intro e w' hp
  unfold TakeTextPost at hp
  cases hT : takeT xs 400 with
  | none =>
    rw [hT] at hp
    obtain ⟨nq, rfl, rfl⟩ := hp
    exact ⟨(Ext.refl _).drewN nq, .inl ⟨hdX_none hT, rfl⟩⟩
  | some p =>
    obtain ⟨k, n⟩ := p
    rw [hT] at hp
    obtain ⟨nq, rfl, rfl⟩ := hp
    obtain ⟨-, h2, h3⟩ := takeT_inv hT
    refine ⟨(Ext.refl _).drewN nq, .inr ⟨_, _, _, hdX_some hT, ?_, (h.drop (by omega)).drop (by rw [List.length_drop]; omega), rfl⟩⟩
    rw [List.length_take]
    omega
theorem tval_from (v : Value) (xs : List UInt8) (w0 w : World) (hE : Ext w0 w) (h : Bytes w0 v xs) :
    Calls Tryd.prog 82 #[v] w fun e w' => Ext w w' ∧ ((takeV' xs = none ∧ e = .returned (.tuple #[.agg #[.int .u8 0, .int .i64 0, .string (str []), .slice none 0 0], .slice none 0 0, .int .i64 30])) ∨
      ∃ (t : Tr) (r : List UInt8) (rv : Value) (k n : Int) (s : ByteArray) (a : Option Addr) (m c : Nat), takeV' xs = some (t, r) ∧ Bytes w0 rv r ∧ OwnT 45 w' w.heap.size t (.agg #[.int .u8 k, .int .i64 n, .string s, .slice a m c]) ∧ e = .returned (.tuple #[.agg #[.int .u8 k, .int .i64 n, .string s, .slice a m c], rv, .int .i64 0])) := by
  refine (vtake_from v xs w0 w hE h).mono ?_
  intro e w' hp
  unfold TakePost0 at hp
  cases hT : takeV' xs with
  | none =>
    rw [hT] at hp
    obtain ⟨rfl, hE1⟩ := hp
    exact ⟨hE1, .inl ⟨rfl, rfl⟩⟩
  | some p =>
    obtain ⟨t, r⟩ := p
    rw [hT] at hp
    obtain ⟨v1, vr, rfl, hE1, hO, hb⟩ := hp
    obtain ⟨k, n, s, a, m, c, rfl⟩ := ownT_four hO
    exact ⟨hE1, .inr ⟨t, r, vr, k, n, s, a, m, c, rfl, hb, hO, rfl⟩⟩
theorem tfrag_from (v : Value) (xs : List UInt8) (w0 w : World) (hE : Ext w0 w) (h : Bytes w0 v xs) :
    Calls Tryd.prog 85 #[v] w fun e w' => Ext w w' ∧ ((takeF xs = none ∧ ∃ (a : Option Addr) (m c : Nat) (ar : Option Addr) (cr : Nat), e = .returned (.tuple #[.slice a m c, .slice ar 0 cr, .int .i64 30])) ∨
      ∃ (l : List It) (r : List UInt8) (rv : Value) (a : Option Addr) (m c : Nat), takeF xs = some (l, r) ∧ Bytes w0 rv r ∧ OwnFF w.heap.size w' (.slice a m c) l ∧ e = .returned (.tuple #[.slice a m c, rv, .int .i64 0])) := by
  refine (ftake_from v xs w0 w hE h).mono ?_
  rintro e w' ⟨a, m, c, ar, mr, cr, f, l, rfl, hE1, hO, hno, hyes⟩
  cases hT : takeF xs with
  | none =>
    obtain ⟨rfl, rfl, rfl⟩ := hno hT
    exact ⟨hE1, .inl ⟨rfl, a, m, c, ar, cr, rfl⟩⟩
  | some p =>
    obtain ⟨l', r⟩ := p
    obtain ⟨e1, rfl, hb⟩ := hyes l' r hT
    exact ⟨hE1, .inr ⟨l', r, _, a, m, c, rfl, hb, by rw [← e1]; exact hO, rfl⟩⟩

/-- The cells of an operation; one in memory of its own. -/
def opCells (o : Opn) (k n s d f : Value) : List Value := [.int .u8 (o.what.toNat : Int), .string (str o.id), .int .i64 o.tok, k, n, s, d, f, .int .i64 o.quo]
def OpOwn (base : Nat) (w : World) (o : Opn) (cs : List Value) : Prop :=
  ∃ (k n s d f : Value), cs = opCells o k n s d f ∧ OwnT 45 w base o.val (.agg #[k, n, s, d]) ∧ OwnFF base w f o.frg ∧ o.id.length ≤ 9223372036854775807 ∧ isI64 o.tok ∧ isI64 o.quo
/-- What read comes to. -/
def OReadP (xs : List UInt8) (w : World) (e : Ending) (w' : World) : Prop :=
  ∃ (k : Int) (ids : ByteArray) (t vk vn : Int) (vs : ByteArray) (va : Option Addr) (vm vc : Nat) (fa : Option Addr) (fm fc : Nat) (q : Int) (rest : Value) (n : Int), e = .returned (.tuple #[.agg #[.int .u8 k, .string ids, .int .i64 t, .int .u8 vk, .int .i64 vn, .string vs, .slice va vm vc, .slice fa fm fc, .int .i64 q], rest, .int .i64 n]) ∧ Ext w w' ∧
    ((n = 30 ∧ readP xs = none) ∨ (n = 0 ∧ ∃ o r, readP xs = some (o, r) ∧ Bytes w rest r ∧ OpOwn w.heap.size w' o [.int .u8 k, .string ids, .int .i64 t, .int .u8 vk, .int .i64 vn, .string vs, .slice va vm vc, .slice fa fm fc, .int .i64 q]))
theorem oread_bad {xs : List UInt8} {w W : World} {us : List Value} (h : OSt w W us) (hn : readP xs = none) {k : Int} {ids : ByteArray} {t vk vn : Int} {vs : ByteArray} {va : Option Addr} {vm vc : Nat} {fa : Option Addr} {fm fc : Nat} {q : Int} {rest : Value} :
    OReadP xs w (.returned (.tuple #[.agg #[.int .u8 k, .string ids, .int .i64 t, .int .u8 vk, .int .i64 vn, .string vs, .slice va vm vc, .slice fa fm fc, .int .i64 q], rest, .int .i64 30])) (set9W W w.heap.size (.int .u8 k) (.string ids) (.int .i64 t) (.int .u8 vk) (.int .i64 vn) (.string vs) (.slice va vm vc) (.slice fa fm fc) (.int .i64 q)) :=
  ⟨k, ids, t, vk, vn, vs, va, vm, vc, fa, fm, fc, q, rest, 30, rfl, h.e.grown (set9_grown _ _ _ _ _ _ _ _ _ _ _) (fun k hk => by injection hk with hk; omega), .inl ⟨rfl, hn⟩⟩
theorem oread_ok {xs : List UInt8} {w W : World} {us : List Value} (h : OSt w W us) {o : Opn} {r : List UInt8} (hn : readP xs = some (o, r)) {rest : Value} (hb : Bytes w rest r) {k : Int} {ids : ByteArray} {t vk vn : Int} {vs : ByteArray} {va : Option Addr} {vm vc : Nat} {fa : Option Addr} {fm fc : Nat} {q : Int}
    (hc : [.int .u8 k, .string ids, .int .i64 t, .int .u8 vk, .int .i64 vn, .string vs, .slice va vm vc, .slice fa fm fc, .int .i64 q] = opCells o (.int .u8 vk) (.int .i64 vn) (.string vs) (.slice va vm vc) (.slice fa fm fc)) (hV : OwnT 45 W (w.heap.size + 1) o.val (.agg #[.int .u8 vk, .int .i64 vn, .string vs, .slice va vm vc])) (hF : OwnFF (w.heap.size + 1) W (.slice fa fm fc) o.frg) (h1 : o.id.length ≤ 9223372036854775807) (h2 : isI64 o.tok) (h3 : isI64 o.quo) :
    OReadP xs w (.returned (.tuple #[.agg #[.int .u8 k, .string ids, .int .i64 t, .int .u8 vk, .int .i64 vn, .string vs, .slice va vm vc, .slice fa fm fc, .int .i64 q], rest, .int .i64 0])) (set9W W w.heap.size (.int .u8 k) (.string ids) (.int .i64 t) (.int .u8 vk) (.int .i64 vn) (.string vs) (.slice va vm vc) (.slice fa fm fc) (.int .i64 q)) :=
  ⟨k, ids, t, vk, vn, vs, va, vm, vc, fa, fm, fc, q, rest, 0, rfl, h.e.grown (set9_grown _ _ _ _ _ _ _ _ _ _ _) (fun k hk => by injection hk with hk; omega), .inr ⟨rfl, o, r, hn, hb, _, _, _, _, _, hc,
    (hV.grown (set9_grown _ _ _ _ _ _ _ _ _ _ _) (fun b hb => by injection hb with hb; omega)).mono (by omega), (hF.kept (set9_grown _ _ _ _ _ _ _ _ _ _ _) (fun b hb => by injection hb with hb; omega)).mono (by omega), h1, h2, h3⟩⟩
theorem readP_of {xs r : List UInt8} {k : UInt8} {n : Int} {z : Option (Opn × List UInt8)} (h : hdB 5 xs = some (n, r)) (h2 : readP2 k r = z) (hk : UInt8.ofNat n.toNat = k := by rfl) : readP xs = z := by
  unfold readP; rw [h, Option.bind_some]; simp only; rw [hk]; exact h2

set_option maxRecDepth 100000 in
set_option maxHeartbeats 16000000 in
theorem opRead_none (v : Value) (xs : List UInt8) (w : World) (h : Bytes w v xs) (hh : hdB 5 xs = none) :
    Calls Tryd.prog 56 #[v] w (OReadP xs w) := by
  have HB := Lib.hid h
  have HF : Hid (readP xs = none) := Lib.hid (by unfold readP; rw [hh]; rfl)
  have HHH := Lib.hid hh
  clear h hh
  have hE0 := (Ext.refl w).alloc (.cells #[.int .u8 0, .string { data := #[] }, .int .i64 0, .int .u8 0, .int .i64 0, .string { data := #[] }, .slice none 0 0, .slice none 0 0, .int .i64 0] 52)
  have hB0 := BoxL.new w [.int .u8 0, .string { data := #[] }, .int .i64 0, .int .u8 0, .int .i64 0, .string { data := #[] }, .slice none 0 0, .slice none 0 0, .int .i64 0] 52
  go_enter Tryd.func56, Tryd.ntmps56
  go_wp2_with fail
  generalize w.alloc (.cells #[.int .u8 0, .string { data := #[] }, .int .i64 0, .int .u8 0, .int .i64 0, .string { data := #[] }, .slice none 0 0, .slice none 0 0, .int .i64 0] 52) = W1 at *
  have S0 : Hid (OSt w W1 [.int .u8 0, .string { data := #[] }, .int .i64 0, .int .u8 0, .int .i64 0, .string { data := #[] }, .slice none 0 0, .slice none 0 0, .int .i64 0]) := Lib.hid ⟨hE0, hB0⟩
  clear hE0 hB0
  refine (tnum_from v xs w W1 S0.out.e HB.out).mono ?_
  rintro e W2 ⟨hE, hq⟩
  have S1 := Lib.hid (S0.out.ext hE)
  clear hE S0
  rcases hq with ⟨hno, rfl⟩ | ⟨n, r, rv0, hy, hni, hb, rfl⟩
  · have ⟨p0, p1, p2, p3, p4, p5, p6, p7, p8⟩ := S1.out.b.nine
    have f0 := S1.out.b.free 0
    have f1 := S1.out.b.free 1
    have f2 := S1.out.b.free 2
    have f3 := S1.out.b.free 3
    have f4 := S1.out.b.free 4
    have f5 := S1.out.b.free 5
    have f6 := S1.out.b.free 6
    have f7 := S1.out.b.free 7
    have f8 := S1.out.b.free 8
    go_wp2
    have y1 := S1.out.b.set9 (.int .u8 0) (.string { data := #[] }) (.int .i64 0) (.int .u8 0) (.int .i64 0) (.string { data := #[] }) (.slice none 0 0) (.slice none 0 0) (.int .i64 0)
    have y2 : OReadP xs w (.returned (.tuple #[.agg #[.int .u8 0, .string { data := #[] }, .int .i64 0, .int .u8 0, .int .i64 0, .string { data := #[] }, .slice none 0 0, .slice none 0 0, .int .i64 0], .slice none 0 0, .int .i64 30])) (set9W W2 w.heap.size (.int .u8 0) (.string { data := #[] }) (.int .i64 0) (.int .u8 0) (.int .i64 0) (.string { data := #[] }) (.slice none 0 0) (.slice none 0 0) (.int .i64 0)) := oread_bad S1.out HF.out
    change bodyPost _ _ _ _ _ (set9W W2 w.heap.size (.int .u8 0) (.string { data := #[] }) (.int .i64 0) (.int .u8 0) (.int .i64 0) (.string { data := #[] }) (.slice none 0 0) (.slice none 0 0) (.int .i64 0))
    generalize set9W W2 w.heap.size (.int .u8 0) (.string { data := #[] }) (.int .i64 0) (.int .u8 0) (.int .i64 0) (.string { data := #[] }) (.slice none 0 0) (.slice none 0 0) (.int .i64 0) = Wn at *
    obtain ⟨g0, g1, g2, g3, g4, g5, g6, g7, g8⟩ := y1.nine
    refine bodyPost_ret (v := .tuple #[.agg #[.int .u8 0, .string { data := #[] }, .int .i64 0, .int .u8 0, .int .i64 0, .string { data := #[] }, .slice none 0 0, .slice none 0 0, .int .i64 0], .slice none 0 0, .int .i64 30]) (by simp [results, Tryd.results56, go_sem, g0, g1, g2, g3, g4, g5, g6, g7, g8]) rfl ?_
    exact y2
  by_cases c1 : n < 0
  · have ⟨p0, p1, p2, p3, p4, p5, p6, p7, p8⟩ := S1.out.b.nine
    have f0 := S1.out.b.free 0
    have f1 := S1.out.b.free 1
    have f2 := S1.out.b.free 2
    have f3 := S1.out.b.free 3
    have f4 := S1.out.b.free 4
    have f5 := S1.out.b.free 5
    have f6 := S1.out.b.free 6
    have f7 := S1.out.b.free 7
    have f8 := S1.out.b.free 8
    go_wp2
    have y1 := S1.out.b.set9 (.int .u8 0) (.string { data := #[] }) (.int .i64 0) (.int .u8 0) (.int .i64 0) (.string { data := #[] }) (.slice none 0 0) (.slice none 0 0) (.int .i64 0)
    have y2 : OReadP xs w (.returned (.tuple #[.agg #[.int .u8 0, .string { data := #[] }, .int .i64 0, .int .u8 0, .int .i64 0, .string { data := #[] }, .slice none 0 0, .slice none 0 0, .int .i64 0], .slice none 0 0, .int .i64 30])) (set9W W2 w.heap.size (.int .u8 0) (.string { data := #[] }) (.int .i64 0) (.int .u8 0) (.int .i64 0) (.string { data := #[] }) (.slice none 0 0) (.slice none 0 0) (.int .i64 0)) := oread_bad S1.out HF.out
    change bodyPost _ _ _ _ _ (set9W W2 w.heap.size (.int .u8 0) (.string { data := #[] }) (.int .i64 0) (.int .u8 0) (.int .i64 0) (.string { data := #[] }) (.slice none 0 0) (.slice none 0 0) (.int .i64 0))
    generalize set9W W2 w.heap.size (.int .u8 0) (.string { data := #[] }) (.int .i64 0) (.int .u8 0) (.int .i64 0) (.string { data := #[] }) (.slice none 0 0) (.slice none 0 0) (.int .i64 0) = Wn at *
    obtain ⟨g0, g1, g2, g3, g4, g5, g6, g7, g8⟩ := y1.nine
    refine bodyPost_ret (v := .tuple #[.agg #[.int .u8 0, .string { data := #[] }, .int .i64 0, .int .u8 0, .int .i64 0, .string { data := #[] }, .slice none 0 0, .slice none 0 0, .int .i64 0], .slice none 0 0, .int .i64 30]) (by simp [results, Tryd.results56, go_sem, g0, g1, g2, g3, g4, g5, g6, g7, g8]) rfl ?_
    exact y2
  by_cases c2 : 5 < n
  · have ⟨p0, p1, p2, p3, p4, p5, p6, p7, p8⟩ := S1.out.b.nine
    have f0 := S1.out.b.free 0
    have f1 := S1.out.b.free 1
    have f2 := S1.out.b.free 2
    have f3 := S1.out.b.free 3
    have f4 := S1.out.b.free 4
    have f5 := S1.out.b.free 5
    have f6 := S1.out.b.free 6
    have f7 := S1.out.b.free 7
    have f8 := S1.out.b.free 8
    go_wp2
    have y1 := S1.out.b.set9 (.int .u8 0) (.string { data := #[] }) (.int .i64 0) (.int .u8 0) (.int .i64 0) (.string { data := #[] }) (.slice none 0 0) (.slice none 0 0) (.int .i64 0)
    have y2 : OReadP xs w (.returned (.tuple #[.agg #[.int .u8 0, .string { data := #[] }, .int .i64 0, .int .u8 0, .int .i64 0, .string { data := #[] }, .slice none 0 0, .slice none 0 0, .int .i64 0], .slice none 0 0, .int .i64 30])) (set9W W2 w.heap.size (.int .u8 0) (.string { data := #[] }) (.int .i64 0) (.int .u8 0) (.int .i64 0) (.string { data := #[] }) (.slice none 0 0) (.slice none 0 0) (.int .i64 0)) := oread_bad S1.out HF.out
    change bodyPost _ _ _ _ _ (set9W W2 w.heap.size (.int .u8 0) (.string { data := #[] }) (.int .i64 0) (.int .u8 0) (.int .i64 0) (.string { data := #[] }) (.slice none 0 0) (.slice none 0 0) (.int .i64 0))
    generalize set9W W2 w.heap.size (.int .u8 0) (.string { data := #[] }) (.int .i64 0) (.int .u8 0) (.int .i64 0) (.string { data := #[] }) (.slice none 0 0) (.slice none 0 0) (.int .i64 0) = Wn at *
    obtain ⟨g0, g1, g2, g3, g4, g5, g6, g7, g8⟩ := y1.nine
    refine bodyPost_ret (v := .tuple #[.agg #[.int .u8 0, .string { data := #[] }, .int .i64 0, .int .u8 0, .int .i64 0, .string { data := #[] }, .slice none 0 0, .slice none 0 0, .int .i64 0], .slice none 0 0, .int .i64 30]) (by simp [results, Tryd.results56, go_sem, g0, g1, g2, g3, g4, g5, g6, g7, g8]) rfl ?_
    exact y2
  · exfalso
    have := HHH.out
    unfold hdB at this
    rw [hy, Option.bind_some, if_neg (by simp only; omega)] at this
    cases this

set_option maxRecDepth 100000 in
set_option maxHeartbeats 16000000 in
theorem opRead_0 (v : Value) (xs : List UInt8) (w : World) (h : Bytes w v xs) (hT : KTab w) (r0 : List UInt8) (hh : hdN xs = some (0, r0)) :
    Calls Tryd.prog 56 #[v] w (OReadP xs w) := by
  have HB := Lib.hid h
  have HT := Lib.hid hT
  have HB0 : Hid (hdB 5 xs = some ((0 : Int), r0)) := Lib.hid (by unfold hdB; rw [hh]; rfl)
  have HHH := Lib.hid hh
  clear h hT hh
  have hE0 := (Ext.refl w).alloc (.cells #[.int .u8 0, .string { data := #[] }, .int .i64 0, .int .u8 0, .int .i64 0, .string { data := #[] }, .slice none 0 0, .slice none 0 0, .int .i64 0] 52)
  have hB0 := BoxL.new w [.int .u8 0, .string { data := #[] }, .int .i64 0, .int .u8 0, .int .i64 0, .string { data := #[] }, .slice none 0 0, .slice none 0 0, .int .i64 0] 52
  go_enter Tryd.func56, Tryd.ntmps56
  go_wp2_with fail
  generalize w.alloc (.cells #[.int .u8 0, .string { data := #[] }, .int .i64 0, .int .u8 0, .int .i64 0, .string { data := #[] }, .slice none 0 0, .slice none 0 0, .int .i64 0] 52) = W1 at *
  have S0 : Hid (OSt w W1 [.int .u8 0, .string { data := #[] }, .int .i64 0, .int .u8 0, .int .i64 0, .string { data := #[] }, .slice none 0 0, .slice none 0 0, .int .i64 0]) := Lib.hid ⟨hE0, hB0⟩
  clear hE0 hB0
  refine (tnum_from v xs w W1 S0.out.e HB.out).mono ?_
  rintro e W2 ⟨hE, hq⟩
  have S1 := Lib.hid (S0.out.ext hE)
  clear hE S0
  rcases hq with ⟨hno, rfl⟩ | ⟨n, r, rv0, hy, hni, hb, rfl⟩
  · exfalso
    rw [HHH.out] at hno
    cases hno
  rw [HHH.out] at hy
  injection hy with hy
  injection hy with hy1 hy2
  subst hy1 hy2
  have HR0 := Lib.hid hb
  clear hb hni
  obtain ⟨H, hH⟩ : ∃ H : Int, H = oN 0 := ⟨_, rfl⟩
  have t1 : (bits BinOp.and IntKind.u8 H 1 != 0) = false := by rw [hH]; exact bitsF 0
  have t2 : (bits BinOp.and IntKind.u8 H 2 != 0) = false := by rw [hH]; exact bitsQ 0
  have t4 : (bits BinOp.and IntKind.u8 H 4 != 0) = false := by rw [hH]; exact bitsI 0
  have t8 : (bits BinOp.and IntKind.u8 H 8 != 0) = false := by rw [hH]; exact bitsT 0
  have t16 : (bits BinOp.and IntKind.u8 H 16 != 0) = false := by rw [hH]; exact bitsV 0
  have HOF : Hid (∀ w, KTab w → Calls Tryd.prog 51 #[.int .u8 0] w fun e w' => e = .returned (.int .u8 H) ∧ w = w') := Lib.hid (fun w h => by rw [hH]; exact of_any 0 w h)
  clear hH
  have ⟨p0, p1, p2, p3, p4, p5, p6, p7, p8⟩ := S1.out.b.nine
  have f0 := S1.out.b.free 0
  have f1 := S1.out.b.free 1
  have f2 := S1.out.b.free 2
  have f3 := S1.out.b.free 3
  have f4 := S1.out.b.free 4
  have f5 := S1.out.b.free 5
  have f6 := S1.out.b.free 6
  have f7 := S1.out.b.free 7
  have f8 := S1.out.b.free 8
  have S2 : Hid (OSt w (W2.setCell ⟨w.heap.size, 0, none⟩ (.int .u8 0)) [.int .u8 0, .string { data := #[] }, .int .i64 0, .int .u8 0, .int .i64 0, .string { data := #[] }, .slice none 0 0, .slice none 0 0, .int .i64 0]) := Lib.hid (S1.out.set 0 (by simp) _)
  go_wp2_with fail
  generalize (W2.setCell ⟨w.heap.size, 0, none⟩ (.int .u8 0)) = W3 at *
  clear S1
  clear p0 p1 p2 p3 p4 p5 p6 p7 p8 f0 f1 f2 f3 f4 f5 f6 f7 f8
  refine (HOF.out W3 (HT.out.ext S2.out.e)).mono ?_
  rintro e wq ⟨rfl, rfl⟩
  have HVo : Hid (OwnT 45 W3 (w.heap.size + 1) zT (.agg #[.int .u8 0, .int .i64 0, .string { data := #[] }, .slice none 0 0])) := Lib.hid (OwnT.mk (k := 0) (s := []) (by unfold isI64; omega) (by simp) (OwnL.nil _ _ _))
  have HFo : Hid (OwnFF (w.heap.size + 1) W3 (.slice none 0 0) []) := Lib.hid (OwnF.nil _ _ _ _)
  have HF : Hid (readP xs = some (⟨0, [], 0, zT, [], 0⟩, r0)) := Lib.hid (readP_of (k := 0) HB0.out (by simp [readP2, optA, oI, oT, oV, oF, oQ]))
  have ⟨p0, p1, p2, p3, p4, p5, p6, p7, p8⟩ := S2.out.b.nine
  have f0 := S2.out.b.free 0
  have f1 := S2.out.b.free 1
  have f2 := S2.out.b.free 2
  have f3 := S2.out.b.free 3
  have f4 := S2.out.b.free 4
  have f5 := S2.out.b.free 5
  have f6 := S2.out.b.free 6
  have f7 := S2.out.b.free 7
  have f8 := S2.out.b.free 8
  go_wp2
  have y1 := S2.out.b.set9 (.int .u8 0) (.string { data := #[] }) (.int .i64 0) (.int .u8 0) (.int .i64 0) (.string { data := #[] }) (.slice none 0 0) (.slice none 0 0) (.int .i64 0)
  have y2 : OReadP xs w (.returned (.tuple #[.agg #[.int .u8 0, .string { data := #[] }, .int .i64 0, .int .u8 0, .int .i64 0, .string { data := #[] }, .slice none 0 0, .slice none 0 0, .int .i64 0], rv0, .int .i64 0])) (set9W W3 w.heap.size (.int .u8 0) (.string { data := #[] }) (.int .i64 0) (.int .u8 0) (.int .i64 0) (.string { data := #[] }) (.slice none 0 0) (.slice none 0 0) (.int .i64 0)) := oread_ok S2.out HF.out HR0.out rfl HVo.out HFo.out (by simp) (by show isI64 0; unfold isI64; omega) (by show isI64 0; unfold isI64; omega)
  change bodyPost _ _ _ _ _ (set9W W3 w.heap.size (.int .u8 0) (.string { data := #[] }) (.int .i64 0) (.int .u8 0) (.int .i64 0) (.string { data := #[] }) (.slice none 0 0) (.slice none 0 0) (.int .i64 0))
  generalize set9W W3 w.heap.size (.int .u8 0) (.string { data := #[] }) (.int .i64 0) (.int .u8 0) (.int .i64 0) (.string { data := #[] }) (.slice none 0 0) (.slice none 0 0) (.int .i64 0) = Wn at *
  obtain ⟨g0, g1, g2, g3, g4, g5, g6, g7, g8⟩ := y1.nine
  refine bodyPost_ret (v := .tuple #[.agg #[.int .u8 0, .string { data := #[] }, .int .i64 0, .int .u8 0, .int .i64 0, .string { data := #[] }, .slice none 0 0, .slice none 0 0, .int .i64 0], rv0, .int .i64 0]) (by simp [results, Tryd.results56, go_sem, g0, g1, g2, g3, g4, g5, g6, g7, g8]) rfl ?_
  exact y2

set_option maxRecDepth 100000 in
set_option maxHeartbeats 16000000 in
theorem opRead_1 (v : Value) (xs : List UInt8) (w : World) (h : Bytes w v xs) (hT : KTab w) (r0 : List UInt8) (hh : hdN xs = some (1, r0)) :
    Calls Tryd.prog 56 #[v] w (OReadP xs w) := by
  have HB := Lib.hid h
  have HT := Lib.hid hT
  have HB0 : Hid (hdB 5 xs = some ((1 : Int), r0)) := Lib.hid (by unfold hdB; rw [hh]; rfl)
  have HHH := Lib.hid hh
  clear h hT hh
  have hE0 := (Ext.refl w).alloc (.cells #[.int .u8 0, .string { data := #[] }, .int .i64 0, .int .u8 0, .int .i64 0, .string { data := #[] }, .slice none 0 0, .slice none 0 0, .int .i64 0] 52)
  have hB0 := BoxL.new w [.int .u8 0, .string { data := #[] }, .int .i64 0, .int .u8 0, .int .i64 0, .string { data := #[] }, .slice none 0 0, .slice none 0 0, .int .i64 0] 52
  go_enter Tryd.func56, Tryd.ntmps56
  go_wp2_with fail
  generalize w.alloc (.cells #[.int .u8 0, .string { data := #[] }, .int .i64 0, .int .u8 0, .int .i64 0, .string { data := #[] }, .slice none 0 0, .slice none 0 0, .int .i64 0] 52) = W1 at *
  have S0 : Hid (OSt w W1 [.int .u8 0, .string { data := #[] }, .int .i64 0, .int .u8 0, .int .i64 0, .string { data := #[] }, .slice none 0 0, .slice none 0 0, .int .i64 0]) := Lib.hid ⟨hE0, hB0⟩
  clear hE0 hB0
  refine (tnum_from v xs w W1 S0.out.e HB.out).mono ?_
  rintro e W2 ⟨hE, hq⟩
  have S1 := Lib.hid (S0.out.ext hE)
  clear hE S0
  rcases hq with ⟨hno, rfl⟩ | ⟨n, r, rv0, hy, hni, hb, rfl⟩
  · exfalso
    rw [HHH.out] at hno
    cases hno
  rw [HHH.out] at hy
  injection hy with hy
  injection hy with hy1 hy2
  subst hy1 hy2
  have HR0 := Lib.hid hb
  clear hb hni
  obtain ⟨H, hH⟩ : ∃ H : Int, H = oN 1 := ⟨_, rfl⟩
  have t1 : (bits BinOp.and IntKind.u8 H 1 != 0) = true := by rw [hH]; exact bitsF 1
  have t2 : (bits BinOp.and IntKind.u8 H 2 != 0) = true := by rw [hH]; exact bitsQ 1
  have t4 : (bits BinOp.and IntKind.u8 H 4 != 0) = false := by rw [hH]; exact bitsI 1
  have t8 : (bits BinOp.and IntKind.u8 H 8 != 0) = false := by rw [hH]; exact bitsT 1
  have t16 : (bits BinOp.and IntKind.u8 H 16 != 0) = false := by rw [hH]; exact bitsV 1
  have HOF : Hid (∀ w, KTab w → Calls Tryd.prog 51 #[.int .u8 1] w fun e w' => e = .returned (.int .u8 H) ∧ w = w') := Lib.hid (fun w h => by rw [hH]; exact of_any 1 w h)
  clear hH
  have ⟨p0, p1, p2, p3, p4, p5, p6, p7, p8⟩ := S1.out.b.nine
  have f0 := S1.out.b.free 0
  have f1 := S1.out.b.free 1
  have f2 := S1.out.b.free 2
  have f3 := S1.out.b.free 3
  have f4 := S1.out.b.free 4
  have f5 := S1.out.b.free 5
  have f6 := S1.out.b.free 6
  have f7 := S1.out.b.free 7
  have f8 := S1.out.b.free 8
  have S2 : Hid (OSt w (W2.setCell ⟨w.heap.size, 0, none⟩ (.int .u8 1)) [.int .u8 1, .string { data := #[] }, .int .i64 0, .int .u8 0, .int .i64 0, .string { data := #[] }, .slice none 0 0, .slice none 0 0, .int .i64 0]) := Lib.hid (S1.out.set 0 (by simp) _)
  go_wp2_with fail
  generalize (W2.setCell ⟨w.heap.size, 0, none⟩ (.int .u8 1)) = W3 at *
  clear S1
  clear p0 p1 p2 p3 p4 p5 p6 p7 p8 f0 f1 f2 f3 f4 f5 f6 f7 f8
  refine (HOF.out W3 (HT.out.ext S2.out.e)).mono ?_
  rintro e wq ⟨rfl, rfl⟩
  have HVo : Hid (OwnT 45 W3 (w.heap.size + 1) zT (.agg #[.int .u8 0, .int .i64 0, .string { data := #[] }, .slice none 0 0])) := Lib.hid (OwnT.mk (k := 0) (s := []) (by unfold isI64; omega) (by simp) (OwnL.nil _ _ _))
  have HFo : Hid (OwnFF (w.heap.size + 1) W3 (.slice none 0 0) []) := Lib.hid (OwnF.nil _ _ _ _)
  go_wp2_with fail
  refine (tfrag_from _ _ w W3 S2.out.e HR0.out).mono ?_
  rintro e V4 ⟨hE, hq⟩
  have A4 := Lib.hid (S2.out.ext hE)
  have HVa := Lib.hid (HVo.out.ext hE)
  have HFa := Lib.hid (HFo.out.ext hE)
  have hlt := S2.out.b.lt
  clear hE HVo HFo
  rcases hq with ⟨hno, xa, xm, xc, ya, yc, rfl⟩ | ⟨fl, rF, rvF, fa, fm, fc, hyF, hbF, hoF, rfl⟩
  · have HF : Hid (readP xs = none) := Lib.hid (readP_of (k := 1) HB0.out (by simp [readP2, optA, oI, oT, oV, oF, oQ, hno]))
    clear hno
    have ⟨p0, p1, p2, p3, p4, p5, p6, p7, p8⟩ := A4.out.b.nine
    have f0 := A4.out.b.free 0
    have f1 := A4.out.b.free 1
    have f2 := A4.out.b.free 2
    have f3 := A4.out.b.free 3
    have f4 := A4.out.b.free 4
    have f5 := A4.out.b.free 5
    have f6 := A4.out.b.free 6
    have f7 := A4.out.b.free 7
    have f8 := A4.out.b.free 8
    have B4 : Hid (OSt w (V4.setCell ⟨w.heap.size, 7, none⟩ (.slice xa xm xc)) [.int .u8 1, .string { data := #[] }, .int .i64 0, .int .u8 0, .int .i64 0, .string { data := #[] }, .slice none 0 0, .slice xa xm xc, .int .i64 0]) := Lib.hid (A4.out.set 7 (by simp) _)
    go_wp2
    have y1 := B4.out.b.set9 (.int .u8 1) (.string { data := #[] }) (.int .i64 0) (.int .u8 0) (.int .i64 0) (.string { data := #[] }) (.slice none 0 0) (.slice xa xm xc) (.int .i64 0)
    have y2 : OReadP xs w (.returned (.tuple #[.agg #[.int .u8 1, .string { data := #[] }, .int .i64 0, .int .u8 0, .int .i64 0, .string { data := #[] }, .slice none 0 0, .slice xa xm xc, .int .i64 0], .slice ya 0 yc, .int .i64 30])) (set9W (V4.setCell ⟨w.heap.size, 7, none⟩ (.slice xa xm xc)) w.heap.size (.int .u8 1) (.string { data := #[] }) (.int .i64 0) (.int .u8 0) (.int .i64 0) (.string { data := #[] }) (.slice none 0 0) (.slice xa xm xc) (.int .i64 0)) := oread_bad B4.out HF.out
    change bodyPost _ _ _ _ _ (set9W (V4.setCell ⟨w.heap.size, 7, none⟩ (.slice xa xm xc)) w.heap.size (.int .u8 1) (.string { data := #[] }) (.int .i64 0) (.int .u8 0) (.int .i64 0) (.string { data := #[] }) (.slice none 0 0) (.slice xa xm xc) (.int .i64 0))
    generalize set9W (V4.setCell ⟨w.heap.size, 7, none⟩ (.slice xa xm xc)) w.heap.size (.int .u8 1) (.string { data := #[] }) (.int .i64 0) (.int .u8 0) (.int .i64 0) (.string { data := #[] }) (.slice none 0 0) (.slice xa xm xc) (.int .i64 0) = Wn at *
    obtain ⟨g0, g1, g2, g3, g4, g5, g6, g7, g8⟩ := y1.nine
    refine bodyPost_ret (v := .tuple #[.agg #[.int .u8 1, .string { data := #[] }, .int .i64 0, .int .u8 0, .int .i64 0, .string { data := #[] }, .slice none 0 0, .slice xa xm xc, .int .i64 0], .slice ya 0 yc, .int .i64 30]) (by simp [results, Tryd.results56, go_sem, g0, g1, g2, g3, g4, g5, g6, g7, g8]) rfl ?_
    exact y2
  have HYF := Lib.hid hyF
  have HRF := Lib.hid hbF
  have HFn := Lib.hid (hoF.mono (show w.heap.size + 1 ≤ _ by omega))
  clear hyF hbF hoF
  have ⟨p0, p1, p2, p3, p4, p5, p6, p7, p8⟩ := A4.out.b.nine
  have f0 := A4.out.b.free 0
  have f1 := A4.out.b.free 1
  have f2 := A4.out.b.free 2
  have f3 := A4.out.b.free 3
  have f4 := A4.out.b.free 4
  have f5 := A4.out.b.free 5
  have f6 := A4.out.b.free 6
  have f7 := A4.out.b.free 7
  have f8 := A4.out.b.free 8
  have S4 : Hid (OSt w (V4.setCell ⟨w.heap.size, 7, none⟩ (.slice fa fm fc)) [.int .u8 1, .string { data := #[] }, .int .i64 0, .int .u8 0, .int .i64 0, .string { data := #[] }, .slice none 0 0, .slice fa fm fc, .int .i64 0]) := Lib.hid (A4.out.set 7 (by simp) _)
  have HVo := Lib.hid (HVa.out.grown (setOne_grown _ w.heap.size 7 (.slice fa fm fc)) (fun b hb => by injection hb with hb; omega))
  have HFo := Lib.hid (HFn.out.kept (setOne_grown _ w.heap.size 7 (.slice fa fm fc)) (fun b hb => by injection hb with hb; omega))
  clear HVa HFa A4
  go_wp2_with fail
  generalize (V4.setCell ⟨w.heap.size, 7, none⟩ (.slice fa fm fc)) = W4 at *
  clear p0 p1 p2 p3 p4 p5 p6 p7 p8 f0 f1 f2 f3 f4 f5 f6 f7 f8
  refine (tnum_from _ _ w W4 S4.out.e HRF.out).mono ?_
  rintro e V5 ⟨hE, hq⟩
  have A5 := Lib.hid (S4.out.ext hE)
  have HVa := Lib.hid (HVo.out.ext hE)
  have HFa := Lib.hid (HFo.out.ext hE)
  have hlt := S4.out.b.lt
  clear hE HVo HFo
  rcases hq with ⟨hno, rfl⟩ | ⟨qn, rQ, rvQ, hyQ, hqi, hbQ, rfl⟩
  · have HF : Hid (readP xs = none) := Lib.hid (readP_of (k := 1) HB0.out (by simp [readP2, optA, oI, oT, oV, oF, oQ, HYF.out, hno]))
    clear hno
    have ⟨p0, p1, p2, p3, p4, p5, p6, p7, p8⟩ := A5.out.b.nine
    have f0 := A5.out.b.free 0
    have f1 := A5.out.b.free 1
    have f2 := A5.out.b.free 2
    have f3 := A5.out.b.free 3
    have f4 := A5.out.b.free 4
    have f5 := A5.out.b.free 5
    have f6 := A5.out.b.free 6
    have f7 := A5.out.b.free 7
    have f8 := A5.out.b.free 8
    have B5 : Hid (OSt w (V5.setCell ⟨w.heap.size, 8, none⟩ (.int .i64 0)) [.int .u8 1, .string { data := #[] }, .int .i64 0, .int .u8 0, .int .i64 0, .string { data := #[] }, .slice none 0 0, .slice fa fm fc, .int .i64 0]) := Lib.hid (A5.out.set 8 (by simp) _)
    go_wp2
    have y1 := B5.out.b.set9 (.int .u8 1) (.string { data := #[] }) (.int .i64 0) (.int .u8 0) (.int .i64 0) (.string { data := #[] }) (.slice none 0 0) (.slice fa fm fc) (.int .i64 0)
    have y2 : OReadP xs w (.returned (.tuple #[.agg #[.int .u8 1, .string { data := #[] }, .int .i64 0, .int .u8 0, .int .i64 0, .string { data := #[] }, .slice none 0 0, .slice fa fm fc, .int .i64 0], .slice none 0 0, .int .i64 30])) (set9W (V5.setCell ⟨w.heap.size, 8, none⟩ (.int .i64 0)) w.heap.size (.int .u8 1) (.string { data := #[] }) (.int .i64 0) (.int .u8 0) (.int .i64 0) (.string { data := #[] }) (.slice none 0 0) (.slice fa fm fc) (.int .i64 0)) := oread_bad B5.out HF.out
    change bodyPost _ _ _ _ _ (set9W (V5.setCell ⟨w.heap.size, 8, none⟩ (.int .i64 0)) w.heap.size (.int .u8 1) (.string { data := #[] }) (.int .i64 0) (.int .u8 0) (.int .i64 0) (.string { data := #[] }) (.slice none 0 0) (.slice fa fm fc) (.int .i64 0))
    generalize set9W (V5.setCell ⟨w.heap.size, 8, none⟩ (.int .i64 0)) w.heap.size (.int .u8 1) (.string { data := #[] }) (.int .i64 0) (.int .u8 0) (.int .i64 0) (.string { data := #[] }) (.slice none 0 0) (.slice fa fm fc) (.int .i64 0) = Wn at *
    obtain ⟨g0, g1, g2, g3, g4, g5, g6, g7, g8⟩ := y1.nine
    refine bodyPost_ret (v := .tuple #[.agg #[.int .u8 1, .string { data := #[] }, .int .i64 0, .int .u8 0, .int .i64 0, .string { data := #[] }, .slice none 0 0, .slice fa fm fc, .int .i64 0], .slice none 0 0, .int .i64 30]) (by simp [results, Tryd.results56, go_sem, g0, g1, g2, g3, g4, g5, g6, g7, g8]) rfl ?_
    exact y2
  have HYQ := Lib.hid hyQ
  have HRQ := Lib.hid hbQ
  have HQI := Lib.hid hqi
  obtain ⟨hq1, hq2⟩ := hqi
  clear hyQ hbQ
  have ⟨p0, p1, p2, p3, p4, p5, p6, p7, p8⟩ := A5.out.b.nine
  have f0 := A5.out.b.free 0
  have f1 := A5.out.b.free 1
  have f2 := A5.out.b.free 2
  have f3 := A5.out.b.free 3
  have f4 := A5.out.b.free 4
  have f5 := A5.out.b.free 5
  have f6 := A5.out.b.free 6
  have f7 := A5.out.b.free 7
  have f8 := A5.out.b.free 8
  have S5 : Hid (OSt w (V5.setCell ⟨w.heap.size, 8, none⟩ (.int .i64 qn)) [.int .u8 1, .string { data := #[] }, .int .i64 0, .int .u8 0, .int .i64 0, .string { data := #[] }, .slice none 0 0, .slice fa fm fc, .int .i64 qn]) := Lib.hid (A5.out.set 8 (by simp) _)
  have HVo := Lib.hid (HVa.out.grown (setOne_grown _ w.heap.size 8 (.int .i64 qn)) (fun b hb => by injection hb with hb; omega))
  have HFo := Lib.hid (HFa.out.kept (setOne_grown _ w.heap.size 8 (.int .i64 qn)) (fun b hb => by injection hb with hb; omega))
  clear HVa HFa A5
  have HF : Hid (readP xs = some (⟨1, [], 0, zT, fl, qn⟩, rQ)) := Lib.hid (readP_of (k := 1) HB0.out (by simp [readP2, optA, oI, oT, oV, oF, oQ, HYF.out, HYQ.out]))
  go_wp2
  have y1 := S5.out.b.set9 (.int .u8 1) (.string { data := #[] }) (.int .i64 0) (.int .u8 0) (.int .i64 0) (.string { data := #[] }) (.slice none 0 0) (.slice fa fm fc) (.int .i64 qn)
  have y2 : OReadP xs w (.returned (.tuple #[.agg #[.int .u8 1, .string { data := #[] }, .int .i64 0, .int .u8 0, .int .i64 0, .string { data := #[] }, .slice none 0 0, .slice fa fm fc, .int .i64 qn], rvQ, .int .i64 0])) (set9W (V5.setCell ⟨w.heap.size, 8, none⟩ (.int .i64 qn)) w.heap.size (.int .u8 1) (.string { data := #[] }) (.int .i64 0) (.int .u8 0) (.int .i64 0) (.string { data := #[] }) (.slice none 0 0) (.slice fa fm fc) (.int .i64 qn)) := oread_ok S5.out HF.out HRQ.out rfl HVo.out HFo.out (by simp) (by show isI64 0; unfold isI64; omega) HQI.out
  change bodyPost _ _ _ _ _ (set9W (V5.setCell ⟨w.heap.size, 8, none⟩ (.int .i64 qn)) w.heap.size (.int .u8 1) (.string { data := #[] }) (.int .i64 0) (.int .u8 0) (.int .i64 0) (.string { data := #[] }) (.slice none 0 0) (.slice fa fm fc) (.int .i64 qn))
  generalize set9W (V5.setCell ⟨w.heap.size, 8, none⟩ (.int .i64 qn)) w.heap.size (.int .u8 1) (.string { data := #[] }) (.int .i64 0) (.int .u8 0) (.int .i64 0) (.string { data := #[] }) (.slice none 0 0) (.slice fa fm fc) (.int .i64 qn) = Wn at *
  obtain ⟨g0, g1, g2, g3, g4, g5, g6, g7, g8⟩ := y1.nine
  refine bodyPost_ret (v := .tuple #[.agg #[.int .u8 1, .string { data := #[] }, .int .i64 0, .int .u8 0, .int .i64 0, .string { data := #[] }, .slice none 0 0, .slice fa fm fc, .int .i64 qn], rvQ, .int .i64 0]) (by simp [results, Tryd.results56, go_sem, g0, g1, g2, g3, g4, g5, g6, g7, g8]) rfl ?_
  exact y2

set_option maxRecDepth 100000 in
set_option maxHeartbeats 16000000 in
theorem opRead_2 (v : Value) (xs : List UInt8) (w : World) (h : Bytes w v xs) (hT : KTab w) (r0 : List UInt8) (hh : hdN xs = some (2, r0)) :
    Calls Tryd.prog 56 #[v] w (OReadP xs w) := by
  have HB := Lib.hid h
  have HT := Lib.hid hT
  have HB0 : Hid (hdB 5 xs = some ((2 : Int), r0)) := Lib.hid (by unfold hdB; rw [hh]; rfl)
  have HHH := Lib.hid hh
  clear h hT hh
  have hE0 := (Ext.refl w).alloc (.cells #[.int .u8 0, .string { data := #[] }, .int .i64 0, .int .u8 0, .int .i64 0, .string { data := #[] }, .slice none 0 0, .slice none 0 0, .int .i64 0] 52)
  have hB0 := BoxL.new w [.int .u8 0, .string { data := #[] }, .int .i64 0, .int .u8 0, .int .i64 0, .string { data := #[] }, .slice none 0 0, .slice none 0 0, .int .i64 0] 52
  go_enter Tryd.func56, Tryd.ntmps56
  go_wp2_with fail
  generalize w.alloc (.cells #[.int .u8 0, .string { data := #[] }, .int .i64 0, .int .u8 0, .int .i64 0, .string { data := #[] }, .slice none 0 0, .slice none 0 0, .int .i64 0] 52) = W1 at *
  have S0 : Hid (OSt w W1 [.int .u8 0, .string { data := #[] }, .int .i64 0, .int .u8 0, .int .i64 0, .string { data := #[] }, .slice none 0 0, .slice none 0 0, .int .i64 0]) := Lib.hid ⟨hE0, hB0⟩
  clear hE0 hB0
  refine (tnum_from v xs w W1 S0.out.e HB.out).mono ?_
  rintro e W2 ⟨hE, hq⟩
  have S1 := Lib.hid (S0.out.ext hE)
  clear hE S0
  rcases hq with ⟨hno, rfl⟩ | ⟨n, r, rv0, hy, hni, hb, rfl⟩
  · exfalso
    rw [HHH.out] at hno
    cases hno
  rw [HHH.out] at hy
  injection hy with hy
  injection hy with hy1 hy2
  subst hy1 hy2
  have HR0 := Lib.hid hb
  clear hb hni
  obtain ⟨H, hH⟩ : ∃ H : Int, H = oN 2 := ⟨_, rfl⟩
  have t1 : (bits BinOp.and IntKind.u8 H 1 != 0) = false := by rw [hH]; exact bitsF 2
  have t2 : (bits BinOp.and IntKind.u8 H 2 != 0) = false := by rw [hH]; exact bitsQ 2
  have t4 : (bits BinOp.and IntKind.u8 H 4 != 0) = true := by rw [hH]; exact bitsI 2
  have t8 : (bits BinOp.and IntKind.u8 H 8 != 0) = false := by rw [hH]; exact bitsT 2
  have t16 : (bits BinOp.and IntKind.u8 H 16 != 0) = false := by rw [hH]; exact bitsV 2
  have HOF : Hid (∀ w, KTab w → Calls Tryd.prog 51 #[.int .u8 2] w fun e w' => e = .returned (.int .u8 H) ∧ w = w') := Lib.hid (fun w h => by rw [hH]; exact of_any 2 w h)
  clear hH
  have ⟨p0, p1, p2, p3, p4, p5, p6, p7, p8⟩ := S1.out.b.nine
  have f0 := S1.out.b.free 0
  have f1 := S1.out.b.free 1
  have f2 := S1.out.b.free 2
  have f3 := S1.out.b.free 3
  have f4 := S1.out.b.free 4
  have f5 := S1.out.b.free 5
  have f6 := S1.out.b.free 6
  have f7 := S1.out.b.free 7
  have f8 := S1.out.b.free 8
  have S2 : Hid (OSt w (W2.setCell ⟨w.heap.size, 0, none⟩ (.int .u8 2)) [.int .u8 2, .string { data := #[] }, .int .i64 0, .int .u8 0, .int .i64 0, .string { data := #[] }, .slice none 0 0, .slice none 0 0, .int .i64 0]) := Lib.hid (S1.out.set 0 (by simp) _)
  go_wp2_with fail
  generalize (W2.setCell ⟨w.heap.size, 0, none⟩ (.int .u8 2)) = W3 at *
  clear S1
  clear p0 p1 p2 p3 p4 p5 p6 p7 p8 f0 f1 f2 f3 f4 f5 f6 f7 f8
  refine (HOF.out W3 (HT.out.ext S2.out.e)).mono ?_
  rintro e wq ⟨rfl, rfl⟩
  have HVo : Hid (OwnT 45 W3 (w.heap.size + 1) zT (.agg #[.int .u8 0, .int .i64 0, .string { data := #[] }, .slice none 0 0])) := Lib.hid (OwnT.mk (k := 0) (s := []) (by unfold isI64; omega) (by simp) (OwnL.nil _ _ _))
  have HFo : Hid (OwnFF (w.heap.size + 1) W3 (.slice none 0 0) []) := Lib.hid (OwnF.nil _ _ _ _)
  go_wp2_with fail
  refine (ttext_from _ _ w W3 S2.out.e HR0.out).mono ?_
  rintro e V4 ⟨hE, hq⟩
  have A4 := Lib.hid (S2.out.ext hE)
  have HVa := Lib.hid (HVo.out.ext hE)
  have HFa := Lib.hid (HFo.out.ext hE)
  have hlt := S2.out.b.lt
  clear hE HVo HFo
  rcases hq with ⟨hno, rfl⟩ | ⟨idv, rI, rvI, hyI, hil, hbI, rfl⟩
  · have HF : Hid (readP xs = none) := Lib.hid (readP_of (k := 2) HB0.out (by simp [readP2, optA, oI, oT, oV, oF, oQ, hno]))
    clear hno
    have ⟨p0, p1, p2, p3, p4, p5, p6, p7, p8⟩ := A4.out.b.nine
    have f0 := A4.out.b.free 0
    have f1 := A4.out.b.free 1
    have f2 := A4.out.b.free 2
    have f3 := A4.out.b.free 3
    have f4 := A4.out.b.free 4
    have f5 := A4.out.b.free 5
    have f6 := A4.out.b.free 6
    have f7 := A4.out.b.free 7
    have f8 := A4.out.b.free 8
    have B4 : Hid (OSt w (V4.setCell ⟨w.heap.size, 1, none⟩ (.string (str []))) [.int .u8 2, .string (str []), .int .i64 0, .int .u8 0, .int .i64 0, .string { data := #[] }, .slice none 0 0, .slice none 0 0, .int .i64 0]) := Lib.hid (A4.out.set 1 (by simp) _)
    go_wp2
    have y1 := B4.out.b.set9 (.int .u8 2) (.string (str [])) (.int .i64 0) (.int .u8 0) (.int .i64 0) (.string { data := #[] }) (.slice none 0 0) (.slice none 0 0) (.int .i64 0)
    have y2 : OReadP xs w (.returned (.tuple #[.agg #[.int .u8 2, .string (str []), .int .i64 0, .int .u8 0, .int .i64 0, .string { data := #[] }, .slice none 0 0, .slice none 0 0, .int .i64 0], .slice none 0 0, .int .i64 30])) (set9W (V4.setCell ⟨w.heap.size, 1, none⟩ (.string (str []))) w.heap.size (.int .u8 2) (.string (str [])) (.int .i64 0) (.int .u8 0) (.int .i64 0) (.string { data := #[] }) (.slice none 0 0) (.slice none 0 0) (.int .i64 0)) := oread_bad B4.out HF.out
    change bodyPost _ _ _ _ _ (set9W (V4.setCell ⟨w.heap.size, 1, none⟩ (.string (str []))) w.heap.size (.int .u8 2) (.string (str [])) (.int .i64 0) (.int .u8 0) (.int .i64 0) (.string { data := #[] }) (.slice none 0 0) (.slice none 0 0) (.int .i64 0))
    generalize set9W (V4.setCell ⟨w.heap.size, 1, none⟩ (.string (str []))) w.heap.size (.int .u8 2) (.string (str [])) (.int .i64 0) (.int .u8 0) (.int .i64 0) (.string { data := #[] }) (.slice none 0 0) (.slice none 0 0) (.int .i64 0) = Wn at *
    obtain ⟨g0, g1, g2, g3, g4, g5, g6, g7, g8⟩ := y1.nine
    refine bodyPost_ret (v := .tuple #[.agg #[.int .u8 2, .string (str []), .int .i64 0, .int .u8 0, .int .i64 0, .string { data := #[] }, .slice none 0 0, .slice none 0 0, .int .i64 0], .slice none 0 0, .int .i64 30]) (by simp [results, Tryd.results56, go_sem, g0, g1, g2, g3, g4, g5, g6, g7, g8]) rfl ?_
    exact y2
  have HYI := Lib.hid hyI
  have HRI := Lib.hid hbI
  have HIL := Lib.hid hil
  clear hyI hbI hil
  have ⟨p0, p1, p2, p3, p4, p5, p6, p7, p8⟩ := A4.out.b.nine
  have f0 := A4.out.b.free 0
  have f1 := A4.out.b.free 1
  have f2 := A4.out.b.free 2
  have f3 := A4.out.b.free 3
  have f4 := A4.out.b.free 4
  have f5 := A4.out.b.free 5
  have f6 := A4.out.b.free 6
  have f7 := A4.out.b.free 7
  have f8 := A4.out.b.free 8
  have S4 : Hid (OSt w (V4.setCell ⟨w.heap.size, 1, none⟩ (.string (str idv))) [.int .u8 2, .string (str idv), .int .i64 0, .int .u8 0, .int .i64 0, .string { data := #[] }, .slice none 0 0, .slice none 0 0, .int .i64 0]) := Lib.hid (A4.out.set 1 (by simp) _)
  have HVo := Lib.hid (HVa.out.grown (setOne_grown _ w.heap.size 1 (.string (str idv))) (fun b hb => by injection hb with hb; omega))
  have HFo := Lib.hid (HFa.out.kept (setOne_grown _ w.heap.size 1 (.string (str idv))) (fun b hb => by injection hb with hb; omega))
  clear HVa HFa A4
  have HF : Hid (readP xs = some (⟨2, idv, 0, zT, [], 0⟩, rI)) := Lib.hid (readP_of (k := 2) HB0.out (by simp [readP2, optA, oI, oT, oV, oF, oQ, HYI.out]))
  go_wp2
  have y1 := S4.out.b.set9 (.int .u8 2) (.string (str idv)) (.int .i64 0) (.int .u8 0) (.int .i64 0) (.string { data := #[] }) (.slice none 0 0) (.slice none 0 0) (.int .i64 0)
  have y2 : OReadP xs w (.returned (.tuple #[.agg #[.int .u8 2, .string (str idv), .int .i64 0, .int .u8 0, .int .i64 0, .string { data := #[] }, .slice none 0 0, .slice none 0 0, .int .i64 0], rvI, .int .i64 0])) (set9W (V4.setCell ⟨w.heap.size, 1, none⟩ (.string (str idv))) w.heap.size (.int .u8 2) (.string (str idv)) (.int .i64 0) (.int .u8 0) (.int .i64 0) (.string { data := #[] }) (.slice none 0 0) (.slice none 0 0) (.int .i64 0)) := oread_ok S4.out HF.out HRI.out rfl HVo.out HFo.out HIL.out (by show isI64 0; unfold isI64; omega) (by show isI64 0; unfold isI64; omega)
  change bodyPost _ _ _ _ _ (set9W (V4.setCell ⟨w.heap.size, 1, none⟩ (.string (str idv))) w.heap.size (.int .u8 2) (.string (str idv)) (.int .i64 0) (.int .u8 0) (.int .i64 0) (.string { data := #[] }) (.slice none 0 0) (.slice none 0 0) (.int .i64 0))
  generalize set9W (V4.setCell ⟨w.heap.size, 1, none⟩ (.string (str idv))) w.heap.size (.int .u8 2) (.string (str idv)) (.int .i64 0) (.int .u8 0) (.int .i64 0) (.string { data := #[] }) (.slice none 0 0) (.slice none 0 0) (.int .i64 0) = Wn at *
  obtain ⟨g0, g1, g2, g3, g4, g5, g6, g7, g8⟩ := y1.nine
  refine bodyPost_ret (v := .tuple #[.agg #[.int .u8 2, .string (str idv), .int .i64 0, .int .u8 0, .int .i64 0, .string { data := #[] }, .slice none 0 0, .slice none 0 0, .int .i64 0], rvI, .int .i64 0]) (by simp [results, Tryd.results56, go_sem, g0, g1, g2, g3, g4, g5, g6, g7, g8]) rfl ?_
  exact y2

set_option maxRecDepth 100000 in
set_option maxHeartbeats 16000000 in
theorem opRead_3 (v : Value) (xs : List UInt8) (w : World) (h : Bytes w v xs) (hT : KTab w) (r0 : List UInt8) (hh : hdN xs = some (3, r0)) :
    Calls Tryd.prog 56 #[v] w (OReadP xs w) := by
  have HB := Lib.hid h
  have HT := Lib.hid hT
  have HB0 : Hid (hdB 5 xs = some ((3 : Int), r0)) := Lib.hid (by unfold hdB; rw [hh]; rfl)
  have HHH := Lib.hid hh
  clear h hT hh
  have hE0 := (Ext.refl w).alloc (.cells #[.int .u8 0, .string { data := #[] }, .int .i64 0, .int .u8 0, .int .i64 0, .string { data := #[] }, .slice none 0 0, .slice none 0 0, .int .i64 0] 52)
  have hB0 := BoxL.new w [.int .u8 0, .string { data := #[] }, .int .i64 0, .int .u8 0, .int .i64 0, .string { data := #[] }, .slice none 0 0, .slice none 0 0, .int .i64 0] 52
  go_enter Tryd.func56, Tryd.ntmps56
  go_wp2_with fail
  generalize w.alloc (.cells #[.int .u8 0, .string { data := #[] }, .int .i64 0, .int .u8 0, .int .i64 0, .string { data := #[] }, .slice none 0 0, .slice none 0 0, .int .i64 0] 52) = W1 at *
  have S0 : Hid (OSt w W1 [.int .u8 0, .string { data := #[] }, .int .i64 0, .int .u8 0, .int .i64 0, .string { data := #[] }, .slice none 0 0, .slice none 0 0, .int .i64 0]) := Lib.hid ⟨hE0, hB0⟩
  clear hE0 hB0
  refine (tnum_from v xs w W1 S0.out.e HB.out).mono ?_
  rintro e W2 ⟨hE, hq⟩
  have S1 := Lib.hid (S0.out.ext hE)
  clear hE S0
  rcases hq with ⟨hno, rfl⟩ | ⟨n, r, rv0, hy, hni, hb, rfl⟩
  · exfalso
    rw [HHH.out] at hno
    cases hno
  rw [HHH.out] at hy
  injection hy with hy
  injection hy with hy1 hy2
  subst hy1 hy2
  have HR0 := Lib.hid hb
  clear hb hni
  obtain ⟨H, hH⟩ : ∃ H : Int, H = oN 3 := ⟨_, rfl⟩
  have t1 : (bits BinOp.and IntKind.u8 H 1 != 0) = true := by rw [hH]; exact bitsF 3
  have t2 : (bits BinOp.and IntKind.u8 H 2 != 0) = false := by rw [hH]; exact bitsQ 3
  have t4 : (bits BinOp.and IntKind.u8 H 4 != 0) = true := by rw [hH]; exact bitsI 3
  have t8 : (bits BinOp.and IntKind.u8 H 8 != 0) = true := by rw [hH]; exact bitsT 3
  have t16 : (bits BinOp.and IntKind.u8 H 16 != 0) = true := by rw [hH]; exact bitsV 3
  have HOF : Hid (∀ w, KTab w → Calls Tryd.prog 51 #[.int .u8 3] w fun e w' => e = .returned (.int .u8 H) ∧ w = w') := Lib.hid (fun w h => by rw [hH]; exact of_any 3 w h)
  clear hH
  have ⟨p0, p1, p2, p3, p4, p5, p6, p7, p8⟩ := S1.out.b.nine
  have f0 := S1.out.b.free 0
  have f1 := S1.out.b.free 1
  have f2 := S1.out.b.free 2
  have f3 := S1.out.b.free 3
  have f4 := S1.out.b.free 4
  have f5 := S1.out.b.free 5
  have f6 := S1.out.b.free 6
  have f7 := S1.out.b.free 7
  have f8 := S1.out.b.free 8
  have S2 : Hid (OSt w (W2.setCell ⟨w.heap.size, 0, none⟩ (.int .u8 3)) [.int .u8 3, .string { data := #[] }, .int .i64 0, .int .u8 0, .int .i64 0, .string { data := #[] }, .slice none 0 0, .slice none 0 0, .int .i64 0]) := Lib.hid (S1.out.set 0 (by simp) _)
  go_wp2_with fail
  generalize (W2.setCell ⟨w.heap.size, 0, none⟩ (.int .u8 3)) = W3 at *
  clear S1
  clear p0 p1 p2 p3 p4 p5 p6 p7 p8 f0 f1 f2 f3 f4 f5 f6 f7 f8
  refine (HOF.out W3 (HT.out.ext S2.out.e)).mono ?_
  rintro e wq ⟨rfl, rfl⟩
  have HVo : Hid (OwnT 45 W3 (w.heap.size + 1) zT (.agg #[.int .u8 0, .int .i64 0, .string { data := #[] }, .slice none 0 0])) := Lib.hid (OwnT.mk (k := 0) (s := []) (by unfold isI64; omega) (by simp) (OwnL.nil _ _ _))
  have HFo : Hid (OwnFF (w.heap.size + 1) W3 (.slice none 0 0) []) := Lib.hid (OwnF.nil _ _ _ _)
  go_wp2_with fail
  refine (ttext_from _ _ w W3 S2.out.e HR0.out).mono ?_
  rintro e V4 ⟨hE, hq⟩
  have A4 := Lib.hid (S2.out.ext hE)
  have HVa := Lib.hid (HVo.out.ext hE)
  have HFa := Lib.hid (HFo.out.ext hE)
  have hlt := S2.out.b.lt
  clear hE HVo HFo
  rcases hq with ⟨hno, rfl⟩ | ⟨idv, rI, rvI, hyI, hil, hbI, rfl⟩
  · have HF : Hid (readP xs = none) := Lib.hid (readP_of (k := 3) HB0.out (by simp [readP2, optA, oI, oT, oV, oF, oQ, hno]))
    clear hno
    have ⟨p0, p1, p2, p3, p4, p5, p6, p7, p8⟩ := A4.out.b.nine
    have f0 := A4.out.b.free 0
    have f1 := A4.out.b.free 1
    have f2 := A4.out.b.free 2
    have f3 := A4.out.b.free 3
    have f4 := A4.out.b.free 4
    have f5 := A4.out.b.free 5
    have f6 := A4.out.b.free 6
    have f7 := A4.out.b.free 7
    have f8 := A4.out.b.free 8
    have B4 : Hid (OSt w (V4.setCell ⟨w.heap.size, 1, none⟩ (.string (str []))) [.int .u8 3, .string (str []), .int .i64 0, .int .u8 0, .int .i64 0, .string { data := #[] }, .slice none 0 0, .slice none 0 0, .int .i64 0]) := Lib.hid (A4.out.set 1 (by simp) _)
    go_wp2
    have y1 := B4.out.b.set9 (.int .u8 3) (.string (str [])) (.int .i64 0) (.int .u8 0) (.int .i64 0) (.string { data := #[] }) (.slice none 0 0) (.slice none 0 0) (.int .i64 0)
    have y2 : OReadP xs w (.returned (.tuple #[.agg #[.int .u8 3, .string (str []), .int .i64 0, .int .u8 0, .int .i64 0, .string { data := #[] }, .slice none 0 0, .slice none 0 0, .int .i64 0], .slice none 0 0, .int .i64 30])) (set9W (V4.setCell ⟨w.heap.size, 1, none⟩ (.string (str []))) w.heap.size (.int .u8 3) (.string (str [])) (.int .i64 0) (.int .u8 0) (.int .i64 0) (.string { data := #[] }) (.slice none 0 0) (.slice none 0 0) (.int .i64 0)) := oread_bad B4.out HF.out
    change bodyPost _ _ _ _ _ (set9W (V4.setCell ⟨w.heap.size, 1, none⟩ (.string (str []))) w.heap.size (.int .u8 3) (.string (str [])) (.int .i64 0) (.int .u8 0) (.int .i64 0) (.string { data := #[] }) (.slice none 0 0) (.slice none 0 0) (.int .i64 0))
    generalize set9W (V4.setCell ⟨w.heap.size, 1, none⟩ (.string (str []))) w.heap.size (.int .u8 3) (.string (str [])) (.int .i64 0) (.int .u8 0) (.int .i64 0) (.string { data := #[] }) (.slice none 0 0) (.slice none 0 0) (.int .i64 0) = Wn at *
    obtain ⟨g0, g1, g2, g3, g4, g5, g6, g7, g8⟩ := y1.nine
    refine bodyPost_ret (v := .tuple #[.agg #[.int .u8 3, .string (str []), .int .i64 0, .int .u8 0, .int .i64 0, .string { data := #[] }, .slice none 0 0, .slice none 0 0, .int .i64 0], .slice none 0 0, .int .i64 30]) (by simp [results, Tryd.results56, go_sem, g0, g1, g2, g3, g4, g5, g6, g7, g8]) rfl ?_
    exact y2
  have HYI := Lib.hid hyI
  have HRI := Lib.hid hbI
  have HIL := Lib.hid hil
  clear hyI hbI hil
  have ⟨p0, p1, p2, p3, p4, p5, p6, p7, p8⟩ := A4.out.b.nine
  have f0 := A4.out.b.free 0
  have f1 := A4.out.b.free 1
  have f2 := A4.out.b.free 2
  have f3 := A4.out.b.free 3
  have f4 := A4.out.b.free 4
  have f5 := A4.out.b.free 5
  have f6 := A4.out.b.free 6
  have f7 := A4.out.b.free 7
  have f8 := A4.out.b.free 8
  have S4 : Hid (OSt w (V4.setCell ⟨w.heap.size, 1, none⟩ (.string (str idv))) [.int .u8 3, .string (str idv), .int .i64 0, .int .u8 0, .int .i64 0, .string { data := #[] }, .slice none 0 0, .slice none 0 0, .int .i64 0]) := Lib.hid (A4.out.set 1 (by simp) _)
  have HVo := Lib.hid (HVa.out.grown (setOne_grown _ w.heap.size 1 (.string (str idv))) (fun b hb => by injection hb with hb; omega))
  have HFo := Lib.hid (HFa.out.kept (setOne_grown _ w.heap.size 1 (.string (str idv))) (fun b hb => by injection hb with hb; omega))
  clear HVa HFa A4
  go_wp2_with fail
  generalize (V4.setCell ⟨w.heap.size, 1, none⟩ (.string (str idv))) = W4 at *
  clear p0 p1 p2 p3 p4 p5 p6 p7 p8 f0 f1 f2 f3 f4 f5 f6 f7 f8
  refine (tnum_from _ _ w W4 S4.out.e HRI.out).mono ?_
  rintro e V5 ⟨hE, hq⟩
  have A5 := Lib.hid (S4.out.ext hE)
  have HVa := Lib.hid (HVo.out.ext hE)
  have HFa := Lib.hid (HFo.out.ext hE)
  have hlt := S4.out.b.lt
  clear hE HVo HFo
  rcases hq with ⟨hno, rfl⟩ | ⟨tk, rT, rvT, hyT, hti, hbT, rfl⟩
  · have HF : Hid (readP xs = none) := Lib.hid (readP_of (k := 3) HB0.out (by simp [readP2, optA, oI, oT, oV, oF, oQ, HYI.out, hno]))
    clear hno
    have ⟨p0, p1, p2, p3, p4, p5, p6, p7, p8⟩ := A5.out.b.nine
    have f0 := A5.out.b.free 0
    have f1 := A5.out.b.free 1
    have f2 := A5.out.b.free 2
    have f3 := A5.out.b.free 3
    have f4 := A5.out.b.free 4
    have f5 := A5.out.b.free 5
    have f6 := A5.out.b.free 6
    have f7 := A5.out.b.free 7
    have f8 := A5.out.b.free 8
    have B5 : Hid (OSt w (V5.setCell ⟨w.heap.size, 2, none⟩ (.int .i64 0)) [.int .u8 3, .string (str idv), .int .i64 0, .int .u8 0, .int .i64 0, .string { data := #[] }, .slice none 0 0, .slice none 0 0, .int .i64 0]) := Lib.hid (A5.out.set 2 (by simp) _)
    go_wp2
    have y1 := B5.out.b.set9 (.int .u8 3) (.string (str idv)) (.int .i64 0) (.int .u8 0) (.int .i64 0) (.string { data := #[] }) (.slice none 0 0) (.slice none 0 0) (.int .i64 0)
    have y2 : OReadP xs w (.returned (.tuple #[.agg #[.int .u8 3, .string (str idv), .int .i64 0, .int .u8 0, .int .i64 0, .string { data := #[] }, .slice none 0 0, .slice none 0 0, .int .i64 0], .slice none 0 0, .int .i64 30])) (set9W (V5.setCell ⟨w.heap.size, 2, none⟩ (.int .i64 0)) w.heap.size (.int .u8 3) (.string (str idv)) (.int .i64 0) (.int .u8 0) (.int .i64 0) (.string { data := #[] }) (.slice none 0 0) (.slice none 0 0) (.int .i64 0)) := oread_bad B5.out HF.out
    change bodyPost _ _ _ _ _ (set9W (V5.setCell ⟨w.heap.size, 2, none⟩ (.int .i64 0)) w.heap.size (.int .u8 3) (.string (str idv)) (.int .i64 0) (.int .u8 0) (.int .i64 0) (.string { data := #[] }) (.slice none 0 0) (.slice none 0 0) (.int .i64 0))
    generalize set9W (V5.setCell ⟨w.heap.size, 2, none⟩ (.int .i64 0)) w.heap.size (.int .u8 3) (.string (str idv)) (.int .i64 0) (.int .u8 0) (.int .i64 0) (.string { data := #[] }) (.slice none 0 0) (.slice none 0 0) (.int .i64 0) = Wn at *
    obtain ⟨g0, g1, g2, g3, g4, g5, g6, g7, g8⟩ := y1.nine
    refine bodyPost_ret (v := .tuple #[.agg #[.int .u8 3, .string (str idv), .int .i64 0, .int .u8 0, .int .i64 0, .string { data := #[] }, .slice none 0 0, .slice none 0 0, .int .i64 0], .slice none 0 0, .int .i64 30]) (by simp [results, Tryd.results56, go_sem, g0, g1, g2, g3, g4, g5, g6, g7, g8]) rfl ?_
    exact y2
  have HYT := Lib.hid hyT
  have HRT := Lib.hid hbT
  have HTI := Lib.hid hti
  clear hyT hbT hti
  have ⟨p0, p1, p2, p3, p4, p5, p6, p7, p8⟩ := A5.out.b.nine
  have f0 := A5.out.b.free 0
  have f1 := A5.out.b.free 1
  have f2 := A5.out.b.free 2
  have f3 := A5.out.b.free 3
  have f4 := A5.out.b.free 4
  have f5 := A5.out.b.free 5
  have f6 := A5.out.b.free 6
  have f7 := A5.out.b.free 7
  have f8 := A5.out.b.free 8
  have S5 : Hid (OSt w (V5.setCell ⟨w.heap.size, 2, none⟩ (.int .i64 tk)) [.int .u8 3, .string (str idv), .int .i64 tk, .int .u8 0, .int .i64 0, .string { data := #[] }, .slice none 0 0, .slice none 0 0, .int .i64 0]) := Lib.hid (A5.out.set 2 (by simp) _)
  have HVo := Lib.hid (HVa.out.grown (setOne_grown _ w.heap.size 2 (.int .i64 tk)) (fun b hb => by injection hb with hb; omega))
  have HFo := Lib.hid (HFa.out.kept (setOne_grown _ w.heap.size 2 (.int .i64 tk)) (fun b hb => by injection hb with hb; omega))
  clear HVa HFa A5
  go_wp2_with fail
  generalize (V5.setCell ⟨w.heap.size, 2, none⟩ (.int .i64 tk)) = W5 at *
  clear p0 p1 p2 p3 p4 p5 p6 p7 p8 f0 f1 f2 f3 f4 f5 f6 f7 f8
  refine (tval_from _ _ w W5 S5.out.e HRT.out).mono ?_
  rintro e V6 ⟨hE, hq⟩
  have A6 := Lib.hid (S5.out.ext hE)
  have HVa := Lib.hid (HVo.out.ext hE)
  have HFa := Lib.hid (HFo.out.ext hE)
  have hlt := S5.out.b.lt
  clear hE HVo HFo
  rcases hq with ⟨hno, rfl⟩ | ⟨tv, rV, rvV, vk, vn, vs, va, vm, vc, hyV, hbV, hoV, rfl⟩
  · have HF : Hid (readP xs = none) := Lib.hid (readP_of (k := 3) HB0.out (by simp [readP2, optA, oI, oT, oV, oF, oQ, HYI.out, HYT.out, hno]))
    clear hno
    have ⟨p0, p1, p2, p3, p4, p5, p6, p7, p8⟩ := A6.out.b.nine
    have f0 := A6.out.b.free 0
    have f1 := A6.out.b.free 1
    have f2 := A6.out.b.free 2
    have f3 := A6.out.b.free 3
    have f4 := A6.out.b.free 4
    have f5 := A6.out.b.free 5
    have f6 := A6.out.b.free 6
    have f7 := A6.out.b.free 7
    have f8 := A6.out.b.free 8
    have B6 : Hid (OSt w ((((V6.setCell ⟨w.heap.size, 3, none⟩ (.int .u8 0)).setCell ⟨w.heap.size, 4, none⟩ (.int .i64 0)).setCell ⟨w.heap.size, 5, none⟩ (.string (str []))).setCell ⟨w.heap.size, 6, none⟩ (.slice none 0 0)) [.int .u8 3, .string (str idv), .int .i64 tk, .int .u8 0, .int .i64 0, .string (str []), .slice none 0 0, .slice none 0 0, .int .i64 0]) := Lib.hid ((((A6.out.set 3 (by simp) _).set 4 (by simp) _).set 5 (by simp) _).set 6 (by simp) _)
    go_wp2
    have y1 := B6.out.b.set9 (.int .u8 3) (.string (str idv)) (.int .i64 tk) (.int .u8 0) (.int .i64 0) (.string (str [])) (.slice none 0 0) (.slice none 0 0) (.int .i64 0)
    have y2 : OReadP xs w (.returned (.tuple #[.agg #[.int .u8 3, .string (str idv), .int .i64 tk, .int .u8 0, .int .i64 0, .string (str []), .slice none 0 0, .slice none 0 0, .int .i64 0], .slice none 0 0, .int .i64 30])) (set9W ((((V6.setCell ⟨w.heap.size, 3, none⟩ (.int .u8 0)).setCell ⟨w.heap.size, 4, none⟩ (.int .i64 0)).setCell ⟨w.heap.size, 5, none⟩ (.string (str []))).setCell ⟨w.heap.size, 6, none⟩ (.slice none 0 0)) w.heap.size (.int .u8 3) (.string (str idv)) (.int .i64 tk) (.int .u8 0) (.int .i64 0) (.string (str [])) (.slice none 0 0) (.slice none 0 0) (.int .i64 0)) := oread_bad B6.out HF.out
    change bodyPost _ _ _ _ _ (set9W ((((V6.setCell ⟨w.heap.size, 3, none⟩ (.int .u8 0)).setCell ⟨w.heap.size, 4, none⟩ (.int .i64 0)).setCell ⟨w.heap.size, 5, none⟩ (.string (str []))).setCell ⟨w.heap.size, 6, none⟩ (.slice none 0 0)) w.heap.size (.int .u8 3) (.string (str idv)) (.int .i64 tk) (.int .u8 0) (.int .i64 0) (.string (str [])) (.slice none 0 0) (.slice none 0 0) (.int .i64 0))
    generalize set9W ((((V6.setCell ⟨w.heap.size, 3, none⟩ (.int .u8 0)).setCell ⟨w.heap.size, 4, none⟩ (.int .i64 0)).setCell ⟨w.heap.size, 5, none⟩ (.string (str []))).setCell ⟨w.heap.size, 6, none⟩ (.slice none 0 0)) w.heap.size (.int .u8 3) (.string (str idv)) (.int .i64 tk) (.int .u8 0) (.int .i64 0) (.string (str [])) (.slice none 0 0) (.slice none 0 0) (.int .i64 0) = Wn at *
    obtain ⟨g0, g1, g2, g3, g4, g5, g6, g7, g8⟩ := y1.nine
    refine bodyPost_ret (v := .tuple #[.agg #[.int .u8 3, .string (str idv), .int .i64 tk, .int .u8 0, .int .i64 0, .string (str []), .slice none 0 0, .slice none 0 0, .int .i64 0], .slice none 0 0, .int .i64 30]) (by simp [results, Tryd.results56, go_sem, g0, g1, g2, g3, g4, g5, g6, g7, g8]) rfl ?_
    exact y2
  have HYV := Lib.hid hyV
  have HRV := Lib.hid hbV
  have HVn := Lib.hid (hoV.mono (show w.heap.size + 1 ≤ _ by omega))
  clear hyV hbV hoV
  have ⟨p0, p1, p2, p3, p4, p5, p6, p7, p8⟩ := A6.out.b.nine
  have f0 := A6.out.b.free 0
  have f1 := A6.out.b.free 1
  have f2 := A6.out.b.free 2
  have f3 := A6.out.b.free 3
  have f4 := A6.out.b.free 4
  have f5 := A6.out.b.free 5
  have f6 := A6.out.b.free 6
  have f7 := A6.out.b.free 7
  have f8 := A6.out.b.free 8
  have S6 : Hid (OSt w ((((V6.setCell ⟨w.heap.size, 3, none⟩ (.int .u8 vk)).setCell ⟨w.heap.size, 4, none⟩ (.int .i64 vn)).setCell ⟨w.heap.size, 5, none⟩ (.string vs)).setCell ⟨w.heap.size, 6, none⟩ (.slice va vm vc)) [.int .u8 3, .string (str idv), .int .i64 tk, .int .u8 vk, .int .i64 vn, .string vs, .slice va vm vc, .slice none 0 0, .int .i64 0]) := Lib.hid ((((A6.out.set 3 (by simp) _).set 4 (by simp) _).set 5 (by simp) _).set 6 (by simp) _)
  have HVo := Lib.hid ((((HVn.out.grown (setOne_grown _ w.heap.size 3 (.int .u8 vk)) (fun b hb => by injection hb with hb; omega)).grown (setOne_grown _ w.heap.size 4 (.int .i64 vn)) (fun b hb => by injection hb with hb; omega)).grown (setOne_grown _ w.heap.size 5 (.string vs)) (fun b hb => by injection hb with hb; omega)).grown (setOne_grown _ w.heap.size 6 (.slice va vm vc)) (fun b hb => by injection hb with hb; omega))
  have HFo := Lib.hid ((((HFa.out.kept (setOne_grown _ w.heap.size 3 (.int .u8 vk)) (fun b hb => by injection hb with hb; omega)).kept (setOne_grown _ w.heap.size 4 (.int .i64 vn)) (fun b hb => by injection hb with hb; omega)).kept (setOne_grown _ w.heap.size 5 (.string vs)) (fun b hb => by injection hb with hb; omega)).kept (setOne_grown _ w.heap.size 6 (.slice va vm vc)) (fun b hb => by injection hb with hb; omega))
  clear HVa HFa A6
  go_wp2_with fail
  generalize ((((V6.setCell ⟨w.heap.size, 3, none⟩ (.int .u8 vk)).setCell ⟨w.heap.size, 4, none⟩ (.int .i64 vn)).setCell ⟨w.heap.size, 5, none⟩ (.string vs)).setCell ⟨w.heap.size, 6, none⟩ (.slice va vm vc)) = W6 at *
  clear p0 p1 p2 p3 p4 p5 p6 p7 p8 f0 f1 f2 f3 f4 f5 f6 f7 f8
  refine (tfrag_from _ _ w W6 S6.out.e HRV.out).mono ?_
  rintro e V7 ⟨hE, hq⟩
  have A7 := Lib.hid (S6.out.ext hE)
  have HVa := Lib.hid (HVo.out.ext hE)
  have HFa := Lib.hid (HFo.out.ext hE)
  have hlt := S6.out.b.lt
  clear hE HVo HFo
  rcases hq with ⟨hno, xa, xm, xc, ya, yc, rfl⟩ | ⟨fl, rF, rvF, fa, fm, fc, hyF, hbF, hoF, rfl⟩
  · have HF : Hid (readP xs = none) := Lib.hid (readP_of (k := 3) HB0.out (by simp [readP2, optA, oI, oT, oV, oF, oQ, HYI.out, HYT.out, HYV.out, hno]))
    clear hno
    have ⟨p0, p1, p2, p3, p4, p5, p6, p7, p8⟩ := A7.out.b.nine
    have f0 := A7.out.b.free 0
    have f1 := A7.out.b.free 1
    have f2 := A7.out.b.free 2
    have f3 := A7.out.b.free 3
    have f4 := A7.out.b.free 4
    have f5 := A7.out.b.free 5
    have f6 := A7.out.b.free 6
    have f7 := A7.out.b.free 7
    have f8 := A7.out.b.free 8
    have B7 : Hid (OSt w (V7.setCell ⟨w.heap.size, 7, none⟩ (.slice xa xm xc)) [.int .u8 3, .string (str idv), .int .i64 tk, .int .u8 vk, .int .i64 vn, .string vs, .slice va vm vc, .slice xa xm xc, .int .i64 0]) := Lib.hid (A7.out.set 7 (by simp) _)
    go_wp2
    have y1 := B7.out.b.set9 (.int .u8 3) (.string (str idv)) (.int .i64 tk) (.int .u8 vk) (.int .i64 vn) (.string vs) (.slice va vm vc) (.slice xa xm xc) (.int .i64 0)
    have y2 : OReadP xs w (.returned (.tuple #[.agg #[.int .u8 3, .string (str idv), .int .i64 tk, .int .u8 vk, .int .i64 vn, .string vs, .slice va vm vc, .slice xa xm xc, .int .i64 0], .slice ya 0 yc, .int .i64 30])) (set9W (V7.setCell ⟨w.heap.size, 7, none⟩ (.slice xa xm xc)) w.heap.size (.int .u8 3) (.string (str idv)) (.int .i64 tk) (.int .u8 vk) (.int .i64 vn) (.string vs) (.slice va vm vc) (.slice xa xm xc) (.int .i64 0)) := oread_bad B7.out HF.out
    change bodyPost _ _ _ _ _ (set9W (V7.setCell ⟨w.heap.size, 7, none⟩ (.slice xa xm xc)) w.heap.size (.int .u8 3) (.string (str idv)) (.int .i64 tk) (.int .u8 vk) (.int .i64 vn) (.string vs) (.slice va vm vc) (.slice xa xm xc) (.int .i64 0))
    generalize set9W (V7.setCell ⟨w.heap.size, 7, none⟩ (.slice xa xm xc)) w.heap.size (.int .u8 3) (.string (str idv)) (.int .i64 tk) (.int .u8 vk) (.int .i64 vn) (.string vs) (.slice va vm vc) (.slice xa xm xc) (.int .i64 0) = Wn at *
    obtain ⟨g0, g1, g2, g3, g4, g5, g6, g7, g8⟩ := y1.nine
    refine bodyPost_ret (v := .tuple #[.agg #[.int .u8 3, .string (str idv), .int .i64 tk, .int .u8 vk, .int .i64 vn, .string vs, .slice va vm vc, .slice xa xm xc, .int .i64 0], .slice ya 0 yc, .int .i64 30]) (by simp [results, Tryd.results56, go_sem, g0, g1, g2, g3, g4, g5, g6, g7, g8]) rfl ?_
    exact y2
  have HYF := Lib.hid hyF
  have HRF := Lib.hid hbF
  have HFn := Lib.hid (hoF.mono (show w.heap.size + 1 ≤ _ by omega))
  clear hyF hbF hoF
  have ⟨p0, p1, p2, p3, p4, p5, p6, p7, p8⟩ := A7.out.b.nine
  have f0 := A7.out.b.free 0
  have f1 := A7.out.b.free 1
  have f2 := A7.out.b.free 2
  have f3 := A7.out.b.free 3
  have f4 := A7.out.b.free 4
  have f5 := A7.out.b.free 5
  have f6 := A7.out.b.free 6
  have f7 := A7.out.b.free 7
  have f8 := A7.out.b.free 8
  have S7 : Hid (OSt w (V7.setCell ⟨w.heap.size, 7, none⟩ (.slice fa fm fc)) [.int .u8 3, .string (str idv), .int .i64 tk, .int .u8 vk, .int .i64 vn, .string vs, .slice va vm vc, .slice fa fm fc, .int .i64 0]) := Lib.hid (A7.out.set 7 (by simp) _)
  have HVo := Lib.hid (HVa.out.grown (setOne_grown _ w.heap.size 7 (.slice fa fm fc)) (fun b hb => by injection hb with hb; omega))
  have HFo := Lib.hid (HFn.out.kept (setOne_grown _ w.heap.size 7 (.slice fa fm fc)) (fun b hb => by injection hb with hb; omega))
  clear HVa HFa A7
  have HF : Hid (readP xs = some (⟨3, idv, tk, tv, fl, 0⟩, rF)) := Lib.hid (readP_of (k := 3) HB0.out (by simp [readP2, optA, oI, oT, oV, oF, oQ, HYI.out, HYT.out, HYV.out, HYF.out]))
  go_wp2
  have y1 := S7.out.b.set9 (.int .u8 3) (.string (str idv)) (.int .i64 tk) (.int .u8 vk) (.int .i64 vn) (.string vs) (.slice va vm vc) (.slice fa fm fc) (.int .i64 0)
  have y2 : OReadP xs w (.returned (.tuple #[.agg #[.int .u8 3, .string (str idv), .int .i64 tk, .int .u8 vk, .int .i64 vn, .string vs, .slice va vm vc, .slice fa fm fc, .int .i64 0], rvF, .int .i64 0])) (set9W (V7.setCell ⟨w.heap.size, 7, none⟩ (.slice fa fm fc)) w.heap.size (.int .u8 3) (.string (str idv)) (.int .i64 tk) (.int .u8 vk) (.int .i64 vn) (.string vs) (.slice va vm vc) (.slice fa fm fc) (.int .i64 0)) := oread_ok S7.out HF.out HRF.out rfl HVo.out HFo.out HIL.out HTI.out (by show isI64 0; unfold isI64; omega)
  change bodyPost _ _ _ _ _ (set9W (V7.setCell ⟨w.heap.size, 7, none⟩ (.slice fa fm fc)) w.heap.size (.int .u8 3) (.string (str idv)) (.int .i64 tk) (.int .u8 vk) (.int .i64 vn) (.string vs) (.slice va vm vc) (.slice fa fm fc) (.int .i64 0))
  generalize set9W (V7.setCell ⟨w.heap.size, 7, none⟩ (.slice fa fm fc)) w.heap.size (.int .u8 3) (.string (str idv)) (.int .i64 tk) (.int .u8 vk) (.int .i64 vn) (.string vs) (.slice va vm vc) (.slice fa fm fc) (.int .i64 0) = Wn at *
  obtain ⟨g0, g1, g2, g3, g4, g5, g6, g7, g8⟩ := y1.nine
  refine bodyPost_ret (v := .tuple #[.agg #[.int .u8 3, .string (str idv), .int .i64 tk, .int .u8 vk, .int .i64 vn, .string vs, .slice va vm vc, .slice fa fm fc, .int .i64 0], rvF, .int .i64 0]) (by simp [results, Tryd.results56, go_sem, g0, g1, g2, g3, g4, g5, g6, g7, g8]) rfl ?_
  exact y2

set_option maxRecDepth 100000 in
set_option maxHeartbeats 16000000 in
theorem opRead_4 (v : Value) (xs : List UInt8) (w : World) (h : Bytes w v xs) (hT : KTab w) (r0 : List UInt8) (hh : hdN xs = some (4, r0)) :
    Calls Tryd.prog 56 #[v] w (OReadP xs w) := by
  have HB := Lib.hid h
  have HT := Lib.hid hT
  have HB0 : Hid (hdB 5 xs = some ((4 : Int), r0)) := Lib.hid (by unfold hdB; rw [hh]; rfl)
  have HHH := Lib.hid hh
  clear h hT hh
  have hE0 := (Ext.refl w).alloc (.cells #[.int .u8 0, .string { data := #[] }, .int .i64 0, .int .u8 0, .int .i64 0, .string { data := #[] }, .slice none 0 0, .slice none 0 0, .int .i64 0] 52)
  have hB0 := BoxL.new w [.int .u8 0, .string { data := #[] }, .int .i64 0, .int .u8 0, .int .i64 0, .string { data := #[] }, .slice none 0 0, .slice none 0 0, .int .i64 0] 52
  go_enter Tryd.func56, Tryd.ntmps56
  go_wp2_with fail
  generalize w.alloc (.cells #[.int .u8 0, .string { data := #[] }, .int .i64 0, .int .u8 0, .int .i64 0, .string { data := #[] }, .slice none 0 0, .slice none 0 0, .int .i64 0] 52) = W1 at *
  have S0 : Hid (OSt w W1 [.int .u8 0, .string { data := #[] }, .int .i64 0, .int .u8 0, .int .i64 0, .string { data := #[] }, .slice none 0 0, .slice none 0 0, .int .i64 0]) := Lib.hid ⟨hE0, hB0⟩
  clear hE0 hB0
  refine (tnum_from v xs w W1 S0.out.e HB.out).mono ?_
  rintro e W2 ⟨hE, hq⟩
  have S1 := Lib.hid (S0.out.ext hE)
  clear hE S0
  rcases hq with ⟨hno, rfl⟩ | ⟨n, r, rv0, hy, hni, hb, rfl⟩
  · exfalso
    rw [HHH.out] at hno
    cases hno
  rw [HHH.out] at hy
  injection hy with hy
  injection hy with hy1 hy2
  subst hy1 hy2
  have HR0 := Lib.hid hb
  clear hb hni
  obtain ⟨H, hH⟩ : ∃ H : Int, H = oN 4 := ⟨_, rfl⟩
  have t1 : (bits BinOp.and IntKind.u8 H 1 != 0) = false := by rw [hH]; exact bitsF 4
  have t2 : (bits BinOp.and IntKind.u8 H 2 != 0) = false := by rw [hH]; exact bitsQ 4
  have t4 : (bits BinOp.and IntKind.u8 H 4 != 0) = true := by rw [hH]; exact bitsI 4
  have t8 : (bits BinOp.and IntKind.u8 H 8 != 0) = true := by rw [hH]; exact bitsT 4
  have t16 : (bits BinOp.and IntKind.u8 H 16 != 0) = false := by rw [hH]; exact bitsV 4
  have HOF : Hid (∀ w, KTab w → Calls Tryd.prog 51 #[.int .u8 4] w fun e w' => e = .returned (.int .u8 H) ∧ w = w') := Lib.hid (fun w h => by rw [hH]; exact of_any 4 w h)
  clear hH
  have ⟨p0, p1, p2, p3, p4, p5, p6, p7, p8⟩ := S1.out.b.nine
  have f0 := S1.out.b.free 0
  have f1 := S1.out.b.free 1
  have f2 := S1.out.b.free 2
  have f3 := S1.out.b.free 3
  have f4 := S1.out.b.free 4
  have f5 := S1.out.b.free 5
  have f6 := S1.out.b.free 6
  have f7 := S1.out.b.free 7
  have f8 := S1.out.b.free 8
  have S2 : Hid (OSt w (W2.setCell ⟨w.heap.size, 0, none⟩ (.int .u8 4)) [.int .u8 4, .string { data := #[] }, .int .i64 0, .int .u8 0, .int .i64 0, .string { data := #[] }, .slice none 0 0, .slice none 0 0, .int .i64 0]) := Lib.hid (S1.out.set 0 (by simp) _)
  go_wp2_with fail
  generalize (W2.setCell ⟨w.heap.size, 0, none⟩ (.int .u8 4)) = W3 at *
  clear S1
  clear p0 p1 p2 p3 p4 p5 p6 p7 p8 f0 f1 f2 f3 f4 f5 f6 f7 f8
  refine (HOF.out W3 (HT.out.ext S2.out.e)).mono ?_
  rintro e wq ⟨rfl, rfl⟩
  have HVo : Hid (OwnT 45 W3 (w.heap.size + 1) zT (.agg #[.int .u8 0, .int .i64 0, .string { data := #[] }, .slice none 0 0])) := Lib.hid (OwnT.mk (k := 0) (s := []) (by unfold isI64; omega) (by simp) (OwnL.nil _ _ _))
  have HFo : Hid (OwnFF (w.heap.size + 1) W3 (.slice none 0 0) []) := Lib.hid (OwnF.nil _ _ _ _)
  go_wp2_with fail
  refine (ttext_from _ _ w W3 S2.out.e HR0.out).mono ?_
  rintro e V4 ⟨hE, hq⟩
  have A4 := Lib.hid (S2.out.ext hE)
  have HVa := Lib.hid (HVo.out.ext hE)
  have HFa := Lib.hid (HFo.out.ext hE)
  have hlt := S2.out.b.lt
  clear hE HVo HFo
  rcases hq with ⟨hno, rfl⟩ | ⟨idv, rI, rvI, hyI, hil, hbI, rfl⟩
  · have HF : Hid (readP xs = none) := Lib.hid (readP_of (k := 4) HB0.out (by simp [readP2, optA, oI, oT, oV, oF, oQ, hno]))
    clear hno
    have ⟨p0, p1, p2, p3, p4, p5, p6, p7, p8⟩ := A4.out.b.nine
    have f0 := A4.out.b.free 0
    have f1 := A4.out.b.free 1
    have f2 := A4.out.b.free 2
    have f3 := A4.out.b.free 3
    have f4 := A4.out.b.free 4
    have f5 := A4.out.b.free 5
    have f6 := A4.out.b.free 6
    have f7 := A4.out.b.free 7
    have f8 := A4.out.b.free 8
    have B4 : Hid (OSt w (V4.setCell ⟨w.heap.size, 1, none⟩ (.string (str []))) [.int .u8 4, .string (str []), .int .i64 0, .int .u8 0, .int .i64 0, .string { data := #[] }, .slice none 0 0, .slice none 0 0, .int .i64 0]) := Lib.hid (A4.out.set 1 (by simp) _)
    go_wp2
    have y1 := B4.out.b.set9 (.int .u8 4) (.string (str [])) (.int .i64 0) (.int .u8 0) (.int .i64 0) (.string { data := #[] }) (.slice none 0 0) (.slice none 0 0) (.int .i64 0)
    have y2 : OReadP xs w (.returned (.tuple #[.agg #[.int .u8 4, .string (str []), .int .i64 0, .int .u8 0, .int .i64 0, .string { data := #[] }, .slice none 0 0, .slice none 0 0, .int .i64 0], .slice none 0 0, .int .i64 30])) (set9W (V4.setCell ⟨w.heap.size, 1, none⟩ (.string (str []))) w.heap.size (.int .u8 4) (.string (str [])) (.int .i64 0) (.int .u8 0) (.int .i64 0) (.string { data := #[] }) (.slice none 0 0) (.slice none 0 0) (.int .i64 0)) := oread_bad B4.out HF.out
    change bodyPost _ _ _ _ _ (set9W (V4.setCell ⟨w.heap.size, 1, none⟩ (.string (str []))) w.heap.size (.int .u8 4) (.string (str [])) (.int .i64 0) (.int .u8 0) (.int .i64 0) (.string { data := #[] }) (.slice none 0 0) (.slice none 0 0) (.int .i64 0))
    generalize set9W (V4.setCell ⟨w.heap.size, 1, none⟩ (.string (str []))) w.heap.size (.int .u8 4) (.string (str [])) (.int .i64 0) (.int .u8 0) (.int .i64 0) (.string { data := #[] }) (.slice none 0 0) (.slice none 0 0) (.int .i64 0) = Wn at *
    obtain ⟨g0, g1, g2, g3, g4, g5, g6, g7, g8⟩ := y1.nine
    refine bodyPost_ret (v := .tuple #[.agg #[.int .u8 4, .string (str []), .int .i64 0, .int .u8 0, .int .i64 0, .string { data := #[] }, .slice none 0 0, .slice none 0 0, .int .i64 0], .slice none 0 0, .int .i64 30]) (by simp [results, Tryd.results56, go_sem, g0, g1, g2, g3, g4, g5, g6, g7, g8]) rfl ?_
    exact y2
  have HYI := Lib.hid hyI
  have HRI := Lib.hid hbI
  have HIL := Lib.hid hil
  clear hyI hbI hil
  have ⟨p0, p1, p2, p3, p4, p5, p6, p7, p8⟩ := A4.out.b.nine
  have f0 := A4.out.b.free 0
  have f1 := A4.out.b.free 1
  have f2 := A4.out.b.free 2
  have f3 := A4.out.b.free 3
  have f4 := A4.out.b.free 4
  have f5 := A4.out.b.free 5
  have f6 := A4.out.b.free 6
  have f7 := A4.out.b.free 7
  have f8 := A4.out.b.free 8
  have S4 : Hid (OSt w (V4.setCell ⟨w.heap.size, 1, none⟩ (.string (str idv))) [.int .u8 4, .string (str idv), .int .i64 0, .int .u8 0, .int .i64 0, .string { data := #[] }, .slice none 0 0, .slice none 0 0, .int .i64 0]) := Lib.hid (A4.out.set 1 (by simp) _)
  have HVo := Lib.hid (HVa.out.grown (setOne_grown _ w.heap.size 1 (.string (str idv))) (fun b hb => by injection hb with hb; omega))
  have HFo := Lib.hid (HFa.out.kept (setOne_grown _ w.heap.size 1 (.string (str idv))) (fun b hb => by injection hb with hb; omega))
  clear HVa HFa A4
  go_wp2_with fail
  generalize (V4.setCell ⟨w.heap.size, 1, none⟩ (.string (str idv))) = W4 at *
  clear p0 p1 p2 p3 p4 p5 p6 p7 p8 f0 f1 f2 f3 f4 f5 f6 f7 f8
  refine (tnum_from _ _ w W4 S4.out.e HRI.out).mono ?_
  rintro e V5 ⟨hE, hq⟩
  have A5 := Lib.hid (S4.out.ext hE)
  have HVa := Lib.hid (HVo.out.ext hE)
  have HFa := Lib.hid (HFo.out.ext hE)
  have hlt := S4.out.b.lt
  clear hE HVo HFo
  rcases hq with ⟨hno, rfl⟩ | ⟨tk, rT, rvT, hyT, hti, hbT, rfl⟩
  · have HF : Hid (readP xs = none) := Lib.hid (readP_of (k := 4) HB0.out (by simp [readP2, optA, oI, oT, oV, oF, oQ, HYI.out, hno]))
    clear hno
    have ⟨p0, p1, p2, p3, p4, p5, p6, p7, p8⟩ := A5.out.b.nine
    have f0 := A5.out.b.free 0
    have f1 := A5.out.b.free 1
    have f2 := A5.out.b.free 2
    have f3 := A5.out.b.free 3
    have f4 := A5.out.b.free 4
    have f5 := A5.out.b.free 5
    have f6 := A5.out.b.free 6
    have f7 := A5.out.b.free 7
    have f8 := A5.out.b.free 8
    have B5 : Hid (OSt w (V5.setCell ⟨w.heap.size, 2, none⟩ (.int .i64 0)) [.int .u8 4, .string (str idv), .int .i64 0, .int .u8 0, .int .i64 0, .string { data := #[] }, .slice none 0 0, .slice none 0 0, .int .i64 0]) := Lib.hid (A5.out.set 2 (by simp) _)
    go_wp2
    have y1 := B5.out.b.set9 (.int .u8 4) (.string (str idv)) (.int .i64 0) (.int .u8 0) (.int .i64 0) (.string { data := #[] }) (.slice none 0 0) (.slice none 0 0) (.int .i64 0)
    have y2 : OReadP xs w (.returned (.tuple #[.agg #[.int .u8 4, .string (str idv), .int .i64 0, .int .u8 0, .int .i64 0, .string { data := #[] }, .slice none 0 0, .slice none 0 0, .int .i64 0], .slice none 0 0, .int .i64 30])) (set9W (V5.setCell ⟨w.heap.size, 2, none⟩ (.int .i64 0)) w.heap.size (.int .u8 4) (.string (str idv)) (.int .i64 0) (.int .u8 0) (.int .i64 0) (.string { data := #[] }) (.slice none 0 0) (.slice none 0 0) (.int .i64 0)) := oread_bad B5.out HF.out
    change bodyPost _ _ _ _ _ (set9W (V5.setCell ⟨w.heap.size, 2, none⟩ (.int .i64 0)) w.heap.size (.int .u8 4) (.string (str idv)) (.int .i64 0) (.int .u8 0) (.int .i64 0) (.string { data := #[] }) (.slice none 0 0) (.slice none 0 0) (.int .i64 0))
    generalize set9W (V5.setCell ⟨w.heap.size, 2, none⟩ (.int .i64 0)) w.heap.size (.int .u8 4) (.string (str idv)) (.int .i64 0) (.int .u8 0) (.int .i64 0) (.string { data := #[] }) (.slice none 0 0) (.slice none 0 0) (.int .i64 0) = Wn at *
    obtain ⟨g0, g1, g2, g3, g4, g5, g6, g7, g8⟩ := y1.nine
    refine bodyPost_ret (v := .tuple #[.agg #[.int .u8 4, .string (str idv), .int .i64 0, .int .u8 0, .int .i64 0, .string { data := #[] }, .slice none 0 0, .slice none 0 0, .int .i64 0], .slice none 0 0, .int .i64 30]) (by simp [results, Tryd.results56, go_sem, g0, g1, g2, g3, g4, g5, g6, g7, g8]) rfl ?_
    exact y2
  have HYT := Lib.hid hyT
  have HRT := Lib.hid hbT
  have HTI := Lib.hid hti
  clear hyT hbT hti
  have ⟨p0, p1, p2, p3, p4, p5, p6, p7, p8⟩ := A5.out.b.nine
  have f0 := A5.out.b.free 0
  have f1 := A5.out.b.free 1
  have f2 := A5.out.b.free 2
  have f3 := A5.out.b.free 3
  have f4 := A5.out.b.free 4
  have f5 := A5.out.b.free 5
  have f6 := A5.out.b.free 6
  have f7 := A5.out.b.free 7
  have f8 := A5.out.b.free 8
  have S5 : Hid (OSt w (V5.setCell ⟨w.heap.size, 2, none⟩ (.int .i64 tk)) [.int .u8 4, .string (str idv), .int .i64 tk, .int .u8 0, .int .i64 0, .string { data := #[] }, .slice none 0 0, .slice none 0 0, .int .i64 0]) := Lib.hid (A5.out.set 2 (by simp) _)
  have HVo := Lib.hid (HVa.out.grown (setOne_grown _ w.heap.size 2 (.int .i64 tk)) (fun b hb => by injection hb with hb; omega))
  have HFo := Lib.hid (HFa.out.kept (setOne_grown _ w.heap.size 2 (.int .i64 tk)) (fun b hb => by injection hb with hb; omega))
  clear HVa HFa A5
  have HF : Hid (readP xs = some (⟨4, idv, tk, zT, [], 0⟩, rT)) := Lib.hid (readP_of (k := 4) HB0.out (by simp [readP2, optA, oI, oT, oV, oF, oQ, HYI.out, HYT.out]))
  go_wp2
  have y1 := S5.out.b.set9 (.int .u8 4) (.string (str idv)) (.int .i64 tk) (.int .u8 0) (.int .i64 0) (.string { data := #[] }) (.slice none 0 0) (.slice none 0 0) (.int .i64 0)
  have y2 : OReadP xs w (.returned (.tuple #[.agg #[.int .u8 4, .string (str idv), .int .i64 tk, .int .u8 0, .int .i64 0, .string { data := #[] }, .slice none 0 0, .slice none 0 0, .int .i64 0], rvT, .int .i64 0])) (set9W (V5.setCell ⟨w.heap.size, 2, none⟩ (.int .i64 tk)) w.heap.size (.int .u8 4) (.string (str idv)) (.int .i64 tk) (.int .u8 0) (.int .i64 0) (.string { data := #[] }) (.slice none 0 0) (.slice none 0 0) (.int .i64 0)) := oread_ok S5.out HF.out HRT.out rfl HVo.out HFo.out HIL.out HTI.out (by show isI64 0; unfold isI64; omega)
  change bodyPost _ _ _ _ _ (set9W (V5.setCell ⟨w.heap.size, 2, none⟩ (.int .i64 tk)) w.heap.size (.int .u8 4) (.string (str idv)) (.int .i64 tk) (.int .u8 0) (.int .i64 0) (.string { data := #[] }) (.slice none 0 0) (.slice none 0 0) (.int .i64 0))
  generalize set9W (V5.setCell ⟨w.heap.size, 2, none⟩ (.int .i64 tk)) w.heap.size (.int .u8 4) (.string (str idv)) (.int .i64 tk) (.int .u8 0) (.int .i64 0) (.string { data := #[] }) (.slice none 0 0) (.slice none 0 0) (.int .i64 0) = Wn at *
  obtain ⟨g0, g1, g2, g3, g4, g5, g6, g7, g8⟩ := y1.nine
  refine bodyPost_ret (v := .tuple #[.agg #[.int .u8 4, .string (str idv), .int .i64 tk, .int .u8 0, .int .i64 0, .string { data := #[] }, .slice none 0 0, .slice none 0 0, .int .i64 0], rvT, .int .i64 0]) (by simp [results, Tryd.results56, go_sem, g0, g1, g2, g3, g4, g5, g6, g7, g8]) rfl ?_
  exact y2

set_option maxRecDepth 100000 in
set_option maxHeartbeats 16000000 in
theorem opRead_5 (v : Value) (xs : List UInt8) (w : World) (h : Bytes w v xs) (hT : KTab w) (r0 : List UInt8) (hh : hdN xs = some (5, r0)) :
    Calls Tryd.prog 56 #[v] w (OReadP xs w) := by
  have HB := Lib.hid h
  have HT := Lib.hid hT
  have HB0 : Hid (hdB 5 xs = some ((5 : Int), r0)) := Lib.hid (by unfold hdB; rw [hh]; rfl)
  have HHH := Lib.hid hh
  clear h hT hh
  have hE0 := (Ext.refl w).alloc (.cells #[.int .u8 0, .string { data := #[] }, .int .i64 0, .int .u8 0, .int .i64 0, .string { data := #[] }, .slice none 0 0, .slice none 0 0, .int .i64 0] 52)
  have hB0 := BoxL.new w [.int .u8 0, .string { data := #[] }, .int .i64 0, .int .u8 0, .int .i64 0, .string { data := #[] }, .slice none 0 0, .slice none 0 0, .int .i64 0] 52
  go_enter Tryd.func56, Tryd.ntmps56
  go_wp2_with fail
  generalize w.alloc (.cells #[.int .u8 0, .string { data := #[] }, .int .i64 0, .int .u8 0, .int .i64 0, .string { data := #[] }, .slice none 0 0, .slice none 0 0, .int .i64 0] 52) = W1 at *
  have S0 : Hid (OSt w W1 [.int .u8 0, .string { data := #[] }, .int .i64 0, .int .u8 0, .int .i64 0, .string { data := #[] }, .slice none 0 0, .slice none 0 0, .int .i64 0]) := Lib.hid ⟨hE0, hB0⟩
  clear hE0 hB0
  refine (tnum_from v xs w W1 S0.out.e HB.out).mono ?_
  rintro e W2 ⟨hE, hq⟩
  have S1 := Lib.hid (S0.out.ext hE)
  clear hE S0
  rcases hq with ⟨hno, rfl⟩ | ⟨n, r, rv0, hy, hni, hb, rfl⟩
  · exfalso
    rw [HHH.out] at hno
    cases hno
  rw [HHH.out] at hy
  injection hy with hy
  injection hy with hy1 hy2
  subst hy1 hy2
  have HR0 := Lib.hid hb
  clear hb hni
  obtain ⟨H, hH⟩ : ∃ H : Int, H = oN 5 := ⟨_, rfl⟩
  have t1 : (bits BinOp.and IntKind.u8 H 1 != 0) = false := by rw [hH]; exact bitsF 5
  have t2 : (bits BinOp.and IntKind.u8 H 2 != 0) = false := by rw [hH]; exact bitsQ 5
  have t4 : (bits BinOp.and IntKind.u8 H 4 != 0) = true := by rw [hH]; exact bitsI 5
  have t8 : (bits BinOp.and IntKind.u8 H 8 != 0) = false := by rw [hH]; exact bitsT 5
  have t16 : (bits BinOp.and IntKind.u8 H 16 != 0) = false := by rw [hH]; exact bitsV 5
  have HOF : Hid (∀ w, KTab w → Calls Tryd.prog 51 #[.int .u8 5] w fun e w' => e = .returned (.int .u8 H) ∧ w = w') := Lib.hid (fun w h => by rw [hH]; exact of_any 5 w h)
  clear hH
  have ⟨p0, p1, p2, p3, p4, p5, p6, p7, p8⟩ := S1.out.b.nine
  have f0 := S1.out.b.free 0
  have f1 := S1.out.b.free 1
  have f2 := S1.out.b.free 2
  have f3 := S1.out.b.free 3
  have f4 := S1.out.b.free 4
  have f5 := S1.out.b.free 5
  have f6 := S1.out.b.free 6
  have f7 := S1.out.b.free 7
  have f8 := S1.out.b.free 8
  have S2 : Hid (OSt w (W2.setCell ⟨w.heap.size, 0, none⟩ (.int .u8 5)) [.int .u8 5, .string { data := #[] }, .int .i64 0, .int .u8 0, .int .i64 0, .string { data := #[] }, .slice none 0 0, .slice none 0 0, .int .i64 0]) := Lib.hid (S1.out.set 0 (by simp) _)
  go_wp2_with fail
  generalize (W2.setCell ⟨w.heap.size, 0, none⟩ (.int .u8 5)) = W3 at *
  clear S1
  clear p0 p1 p2 p3 p4 p5 p6 p7 p8 f0 f1 f2 f3 f4 f5 f6 f7 f8
  refine (HOF.out W3 (HT.out.ext S2.out.e)).mono ?_
  rintro e wq ⟨rfl, rfl⟩
  have HVo : Hid (OwnT 45 W3 (w.heap.size + 1) zT (.agg #[.int .u8 0, .int .i64 0, .string { data := #[] }, .slice none 0 0])) := Lib.hid (OwnT.mk (k := 0) (s := []) (by unfold isI64; omega) (by simp) (OwnL.nil _ _ _))
  have HFo : Hid (OwnFF (w.heap.size + 1) W3 (.slice none 0 0) []) := Lib.hid (OwnF.nil _ _ _ _)
  go_wp2_with fail
  refine (ttext_from _ _ w W3 S2.out.e HR0.out).mono ?_
  rintro e V4 ⟨hE, hq⟩
  have A4 := Lib.hid (S2.out.ext hE)
  have HVa := Lib.hid (HVo.out.ext hE)
  have HFa := Lib.hid (HFo.out.ext hE)
  have hlt := S2.out.b.lt
  clear hE HVo HFo
  rcases hq with ⟨hno, rfl⟩ | ⟨idv, rI, rvI, hyI, hil, hbI, rfl⟩
  · have HF : Hid (readP xs = none) := Lib.hid (readP_of (k := 5) HB0.out (by simp [readP2, optA, oI, oT, oV, oF, oQ, hno]))
    clear hno
    have ⟨p0, p1, p2, p3, p4, p5, p6, p7, p8⟩ := A4.out.b.nine
    have f0 := A4.out.b.free 0
    have f1 := A4.out.b.free 1
    have f2 := A4.out.b.free 2
    have f3 := A4.out.b.free 3
    have f4 := A4.out.b.free 4
    have f5 := A4.out.b.free 5
    have f6 := A4.out.b.free 6
    have f7 := A4.out.b.free 7
    have f8 := A4.out.b.free 8
    have B4 : Hid (OSt w (V4.setCell ⟨w.heap.size, 1, none⟩ (.string (str []))) [.int .u8 5, .string (str []), .int .i64 0, .int .u8 0, .int .i64 0, .string { data := #[] }, .slice none 0 0, .slice none 0 0, .int .i64 0]) := Lib.hid (A4.out.set 1 (by simp) _)
    go_wp2
    have y1 := B4.out.b.set9 (.int .u8 5) (.string (str [])) (.int .i64 0) (.int .u8 0) (.int .i64 0) (.string { data := #[] }) (.slice none 0 0) (.slice none 0 0) (.int .i64 0)
    have y2 : OReadP xs w (.returned (.tuple #[.agg #[.int .u8 5, .string (str []), .int .i64 0, .int .u8 0, .int .i64 0, .string { data := #[] }, .slice none 0 0, .slice none 0 0, .int .i64 0], .slice none 0 0, .int .i64 30])) (set9W (V4.setCell ⟨w.heap.size, 1, none⟩ (.string (str []))) w.heap.size (.int .u8 5) (.string (str [])) (.int .i64 0) (.int .u8 0) (.int .i64 0) (.string { data := #[] }) (.slice none 0 0) (.slice none 0 0) (.int .i64 0)) := oread_bad B4.out HF.out
    change bodyPost _ _ _ _ _ (set9W (V4.setCell ⟨w.heap.size, 1, none⟩ (.string (str []))) w.heap.size (.int .u8 5) (.string (str [])) (.int .i64 0) (.int .u8 0) (.int .i64 0) (.string { data := #[] }) (.slice none 0 0) (.slice none 0 0) (.int .i64 0))
    generalize set9W (V4.setCell ⟨w.heap.size, 1, none⟩ (.string (str []))) w.heap.size (.int .u8 5) (.string (str [])) (.int .i64 0) (.int .u8 0) (.int .i64 0) (.string { data := #[] }) (.slice none 0 0) (.slice none 0 0) (.int .i64 0) = Wn at *
    obtain ⟨g0, g1, g2, g3, g4, g5, g6, g7, g8⟩ := y1.nine
    refine bodyPost_ret (v := .tuple #[.agg #[.int .u8 5, .string (str []), .int .i64 0, .int .u8 0, .int .i64 0, .string { data := #[] }, .slice none 0 0, .slice none 0 0, .int .i64 0], .slice none 0 0, .int .i64 30]) (by simp [results, Tryd.results56, go_sem, g0, g1, g2, g3, g4, g5, g6, g7, g8]) rfl ?_
    exact y2
  have HYI := Lib.hid hyI
  have HRI := Lib.hid hbI
  have HIL := Lib.hid hil
  clear hyI hbI hil
  have ⟨p0, p1, p2, p3, p4, p5, p6, p7, p8⟩ := A4.out.b.nine
  have f0 := A4.out.b.free 0
  have f1 := A4.out.b.free 1
  have f2 := A4.out.b.free 2
  have f3 := A4.out.b.free 3
  have f4 := A4.out.b.free 4
  have f5 := A4.out.b.free 5
  have f6 := A4.out.b.free 6
  have f7 := A4.out.b.free 7
  have f8 := A4.out.b.free 8
  have S4 : Hid (OSt w (V4.setCell ⟨w.heap.size, 1, none⟩ (.string (str idv))) [.int .u8 5, .string (str idv), .int .i64 0, .int .u8 0, .int .i64 0, .string { data := #[] }, .slice none 0 0, .slice none 0 0, .int .i64 0]) := Lib.hid (A4.out.set 1 (by simp) _)
  have HVo := Lib.hid (HVa.out.grown (setOne_grown _ w.heap.size 1 (.string (str idv))) (fun b hb => by injection hb with hb; omega))
  have HFo := Lib.hid (HFa.out.kept (setOne_grown _ w.heap.size 1 (.string (str idv))) (fun b hb => by injection hb with hb; omega))
  clear HVa HFa A4
  have HF : Hid (readP xs = some (⟨5, idv, 0, zT, [], 0⟩, rI)) := Lib.hid (readP_of (k := 5) HB0.out (by simp [readP2, optA, oI, oT, oV, oF, oQ, HYI.out]))
  go_wp2
  have y1 := S4.out.b.set9 (.int .u8 5) (.string (str idv)) (.int .i64 0) (.int .u8 0) (.int .i64 0) (.string { data := #[] }) (.slice none 0 0) (.slice none 0 0) (.int .i64 0)
  have y2 : OReadP xs w (.returned (.tuple #[.agg #[.int .u8 5, .string (str idv), .int .i64 0, .int .u8 0, .int .i64 0, .string { data := #[] }, .slice none 0 0, .slice none 0 0, .int .i64 0], rvI, .int .i64 0])) (set9W (V4.setCell ⟨w.heap.size, 1, none⟩ (.string (str idv))) w.heap.size (.int .u8 5) (.string (str idv)) (.int .i64 0) (.int .u8 0) (.int .i64 0) (.string { data := #[] }) (.slice none 0 0) (.slice none 0 0) (.int .i64 0)) := oread_ok S4.out HF.out HRI.out rfl HVo.out HFo.out HIL.out (by show isI64 0; unfold isI64; omega) (by show isI64 0; unfold isI64; omega)
  change bodyPost _ _ _ _ _ (set9W (V4.setCell ⟨w.heap.size, 1, none⟩ (.string (str idv))) w.heap.size (.int .u8 5) (.string (str idv)) (.int .i64 0) (.int .u8 0) (.int .i64 0) (.string { data := #[] }) (.slice none 0 0) (.slice none 0 0) (.int .i64 0))
  generalize set9W (V4.setCell ⟨w.heap.size, 1, none⟩ (.string (str idv))) w.heap.size (.int .u8 5) (.string (str idv)) (.int .i64 0) (.int .u8 0) (.int .i64 0) (.string { data := #[] }) (.slice none 0 0) (.slice none 0 0) (.int .i64 0) = Wn at *
  obtain ⟨g0, g1, g2, g3, g4, g5, g6, g7, g8⟩ := y1.nine
  refine bodyPost_ret (v := .tuple #[.agg #[.int .u8 5, .string (str idv), .int .i64 0, .int .u8 0, .int .i64 0, .string { data := #[] }, .slice none 0 0, .slice none 0 0, .int .i64 0], rvI, .int .i64 0]) (by simp [results, Tryd.results56, go_sem, g0, g1, g2, g3, g4, g5, g6, g7, g8]) rfl ?_
  exact y2

end Go.Proofs.YtdienbcjfljjnaaDoor
