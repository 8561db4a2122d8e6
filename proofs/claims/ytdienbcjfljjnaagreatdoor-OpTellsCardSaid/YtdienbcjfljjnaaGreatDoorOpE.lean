/- Walks: op.Parse. -/
import Derived.Test.YtdienbcjfljjnaaGreatDoorOpB
import Derived.Test.YtdienbcjfljjnaaGreatDoorOpD
open Go.RowKit Go.Shelf
namespace Go.Proofs.YtdienbcjfljjnaaGreatDoor
open Go Go.Proofs Fm

theorem opRead_any (v : Value) (xs : List UInt8) (w : World) (h : Bytes w v xs) (hT : KTab w) :
    Calls Tryz.prog 71 #[v] w (OReadP xs w) := by
  cases hb : hdB 5 xs with
  | none => exact opRead_none v xs w h hb
  | some p =>
    obtain ⟨n, r⟩ := p
    obtain ⟨h0, h1, -, -⟩ := hdB_inv hb
    have hh : hdN xs = some (n, r) := by
      unfold hdB at hb
      obtain ⟨p, hp, hq⟩ := Option.bind_eq_some_iff.1 hb
      split at hq
      · cases hq
      · cases hq; exact hp
    rcases (by omega : n = 0 ∨ n = 1 ∨ n = 2 ∨ n = 3 ∨ n = 4 ∨ n = 5) with rfl | rfl | rfl | rfl | rfl | rfl
    · exact opRead_0 v xs w h hT r hh
    · exact opRead_1 v xs w h hT r hh
    · exact opRead_2 v xs w h hT r hh
    · exact opRead_3 v xs w h hT r hh
    · exact opRead_4 v xs w h hT r hh
    · exact opRead_5 v xs w h hT r hh

def zO : Opn := ⟨0, [], 0, zT, [], 0⟩
/-- What Parse comes to. -/
def OParse (xs : List UInt8) (w : World) (e : Ending) (w' : World) : Prop :=
  ∃ (k : Int) (ids : ByteArray) (t vk vn : Int) (vs : ByteArray) (va : Option Addr) (vm vc : Nat) (fa : Option Addr) (fm fc : Nat) (q : Int) (n : Int) (o : Opn), e = .returned (.tuple #[.agg #[.int .u8 k, .string ids, .int .i64 t, .int .u8 vk, .int .i64 vn, .string vs, .slice va vm vc, .slice fa fm fc, .int .i64 q], .int .i64 n]) ∧ Ext w w' ∧ OpOwn w.heap.size w' o [.int .u8 k, .string ids, .int .i64 t, .int .u8 vk, .int .i64 vn, .string vs, .slice va vm vc, .slice fa fm fc, .int .i64 q] ∧
    (parseO xs = none → n = 30 ∧ o = zO) ∧ (∀ o', parseO xs = some o' → n = 0 ∧ o = o')
theorem OpOwn.ext {base : Nat} {w w' : World} {o : Opn} {cs : List Value} (h : OpOwn base w o cs) (hE : Ext w w') : OpOwn base w' o cs := by
  obtain ⟨k, n, s, d, f, h1, h2, h3, h4⟩ := h
  exact ⟨k, n, s, d, f, h1, h2.ext hE, h3.ext hE, h4⟩
theorem OpOwn.kept {base : Nat} {w w' : World} {o : Opn} {cs : List Value} {row : Option Nat} (h : OpOwn base w o cs) (hg : w.grownBy w' row) (hr : ∀ b, row = some b → b < base) : OpOwn base w' o cs := by
  obtain ⟨k, n, s, d, f, h1, h2, h3, h4⟩ := h
  exact ⟨k, n, s, d, f, h1, h2.grown hg hr, h3.kept hg hr, h4⟩
theorem OpOwn.mono {base base' : Nat} {w : World} {o : Opn} {cs : List Value} (h : OpOwn base w o cs) (hb : base' ≤ base) : OpOwn base' w o cs := by
  obtain ⟨k, n, s, d, f, h1, h2, h3, h4⟩ := h
  exact ⟨k, n, s, d, f, h1, h2.mono hb, h3.mono hb, h4⟩
theorem OpOwn.v {base : Nat} {w : World} {o : Opn} {c0 c1 c2 c3 c4 c5 c6 c7 c8 : Value} (h : OpOwn base w o [c0, c1, c2, c3, c4, c5, c6, c7, c8]) : OpV w o (.agg #[c0, c1, c2, c3, c4, c5, c6, c7, c8]) := by
  obtain ⟨k, n, s, d, f, h1, h2, h3, h4⟩ := h
  obtain ⟨a, c, rfl⟩ := ownF_slice h3
  unfold opCells at h1
  injection h1 with e0 h1
  injection h1 with e1 h1
  injection h1 with e2 h1
  injection h1 with e3 h1
  injection h1 with e4 h1
  injection h1 with e5 h1
  injection h1 with e6 h1
  injection h1 with e7 h1
  injection h1 with e8 h1
  subst e0 e1 e2 e3 e4 e5 e6 e7 e8
  exact ⟨_, _, _, _, a, _, c, rfl, h2.lies, h3.row, h4⟩
theorem zO_own (base : Nat) (w : World) : OpOwn base w zO [.int .u8 0, .string { data := #[] }, .int .i64 0, .int .u8 0, .int .i64 0, .string { data := #[] }, .slice none 0 0, .slice none 0 0, .int .i64 0] := ⟨_, _, _, _, _, rfl, OwnT.mk (k := 0) (s := []) (by unfold isI64; omega) (by simp) (OwnL.nil _ _ _), OwnF.nil _ _ _ _, by simp [zO], by show isI64 0; unfold isI64; omega, by show isI64 0; unfold isI64; omega⟩
theorem oparse_bad {xs : List UInt8} {w W : World} {us : List Value} (h : OSt w W us) (hn : parseO xs = none) :
    OParse xs w (.returned (.tuple #[.agg #[.int .u8 0, .string { data := #[] }, .int .i64 0, .int .u8 0, .int .i64 0, .string { data := #[] }, .slice none 0 0, .slice none 0 0, .int .i64 0], .int .i64 30])) (set9W W w.heap.size (.int .u8 0) (.string { data := #[] }) (.int .i64 0) (.int .u8 0) (.int .i64 0) (.string { data := #[] }) (.slice none 0 0) (.slice none 0 0) (.int .i64 0)) :=
  ⟨_, _, _, _, _, _, _, _, _, _, _, _, _, 30, zO, rfl, h.e.grown (set9_grown _ _ _ _ _ _ _ _ _ _ _) (fun k hk => by injection hk with hk; omega), zO_own _ _, fun _ => ⟨rfl, rfl⟩, fun o' ho => by rw [hn] at ho; cases ho⟩
theorem oparse_ok {xs : List UInt8} {w W : World} {us : List Value} (h : OSt w W us) {o : Opn} (hn : parseO xs = some o) {k : Int} {ids : ByteArray} {t vk vn : Int} {vs : ByteArray} {va : Option Addr} {vm vc : Nat} {fa : Option Addr} {fm fc : Nat} {q : Int} (hO : OpOwn (w.heap.size + 1) W o [.int .u8 k, .string ids, .int .i64 t, .int .u8 vk, .int .i64 vn, .string vs, .slice va vm vc, .slice fa fm fc, .int .i64 q]) :
    OParse xs w (.returned (.tuple #[.agg #[.int .u8 k, .string ids, .int .i64 t, .int .u8 vk, .int .i64 vn, .string vs, .slice va vm vc, .slice fa fm fc, .int .i64 q], .int .i64 0])) (set9W W w.heap.size (.int .u8 k) (.string ids) (.int .i64 t) (.int .u8 vk) (.int .i64 vn) (.string vs) (.slice va vm vc) (.slice fa fm fc) (.int .i64 q)) :=
  ⟨k, ids, t, vk, vn, vs, va, vm, vc, fa, fm, fc, q, 0, o, rfl, h.e.grown (set9_grown _ _ _ _ _ _ _ _ _ _ _) (fun k hk => by injection hk with hk; omega), (hO.kept (set9_grown _ _ _ _ _ _ _ _ _ _ _) (fun b hb => by injection hb with hb; omega)).mono (by omega), fun h => (by rw [hn] at h; cases h), fun o' ho => by rw [hn] at ho; cases ho; exact ⟨rfl, rfl⟩⟩

set_option maxRecDepth 100000 in
set_option maxHeartbeats 16000000 in
theorem opParse_any (v : Value) (xs : List UInt8) (w : World) (h : Bytes w v xs) (hT : KTab w) :
    Calls Tryz.prog 26 #[v] w (OParse xs w) := by
  have HB := Lib.hid h
  have HT := Lib.hid hT
  clear h hT
  have hE0 := (Ext.refl w).alloc (.cells #[.int .u8 0, .string { data := #[] }, .int .i64 0, .int .u8 0, .int .i64 0, .string { data := #[] }, .slice none 0 0, .slice none 0 0, .int .i64 0] 46)
  have hB0 := BoxL.new w [.int .u8 0, .string { data := #[] }, .int .i64 0, .int .u8 0, .int .i64 0, .string { data := #[] }, .slice none 0 0, .slice none 0 0, .int .i64 0] 46
  go_enter Tryz.func26, Tryz.ntmps26
  go_wp2_with fail
  generalize w.alloc (.cells #[.int .u8 0, .string { data := #[] }, .int .i64 0, .int .u8 0, .int .i64 0, .string { data := #[] }, .slice none 0 0, .slice none 0 0, .int .i64 0] 46) = W1 at *
  have S0 : Hid (OSt w W1 [.int .u8 0, .string { data := #[] }, .int .i64 0, .int .u8 0, .int .i64 0, .string { data := #[] }, .slice none 0 0, .slice none 0 0, .int .i64 0]) := Lib.hid ⟨hE0, hB0⟩
  clear hE0 hB0
  refine (opRead_any v xs W1 (HB.out.ext S0.out.e) (HT.out.ext S0.out.e)).mono ?_
  rintro e W2 ⟨k, ids, t, vk, vn, vs, va, vm, vc, fa, fm, fc, q, rest, n, rfl, hE, hq⟩
  have S2 : Hid (OSt w (W2.alloc (.cells #[.int .u8 k, .string ids, .int .i64 t, .int .u8 vk, .int .i64 vn, .string vs, .slice va vm vc, .slice fa fm fc, .int .i64 q] 46)) [.int .u8 0, .string { data := #[] }, .int .i64 0, .int .u8 0, .int .i64 0, .string { data := #[] }, .slice none 0 0, .slice none 0 0, .int .i64 0]) := Lib.hid ((S0.out.ext hE).ext ((Ext.refl W2).alloc _))
  have N2 : Hid (BoxL (W2.alloc (.cells #[.int .u8 k, .string ids, .int .i64 t, .int .u8 vk, .int .i64 vn, .string vs, .slice va vm vc, .slice fa fm fc, .int .i64 q] 46)) W2.heap.size [.int .u8 k, .string ids, .int .i64 t, .int .u8 vk, .int .i64 vn, .string vs, .slice va vm vc, .slice fa fm fc, .int .i64 q]) := Lib.hid (BoxL.new W2 [.int .u8 k, .string ids, .int .i64 t, .int .u8 vk, .int .i64 vn, .string vs, .slice va vm vc, .slice fa fm fc, .int .i64 q] _)
  have hlt1 := S0.out.b.lt
  have HE := Lib.hid hE
  have HEa := Lib.hid ((Ext.refl W2).alloc (.cells #[.int .u8 k, .string ids, .int .i64 t, .int .u8 vk, .int .i64 vn, .string vs, .slice va vm vc, .slice fa fm fc, .int .i64 q] 46))
  have hlt2 : w.heap.size < W2.heap.size := by have := hE.size; omega
  clear hE
  rcases hq with ⟨rfl, hno⟩ | ⟨rfl, o, r, hyes, hbr, hO⟩
  · have HF : Hid (parseO xs = none) := Lib.hid (by unfold parseO; rw [hno]; rfl)
    clear hno
    go_upto_region 2 with (fail)
    generalize (W2.alloc (.cells #[.int .u8 k, .string ids, .int .i64 t, .int .u8 vk, .int .i64 vn, .string vs, .slice va vm vc, .slice fa fm fc, .int .i64 q] 46)) = W3 at *
    have ⟨p0, p1, p2, p3, p4, p5, p6, p7, p8⟩ := S2.out.b.nine
    have f0 := S2.out.b.free 0
    have f1 := S2.out.b.free 1
    have f2 := S2.out.b.free 2
    have f3 := S2.out.b.free 3
    have f4 := S2.out.b.free 4
    have f5 := S2.out.b.free 5
    have f6 := S2.out.b.free 6
    have f7 := S2.out.b.free 7
    have f8 := S2.out.b.free 8
    go_wp2
    have y1 := S2.out.b.set9 (.int .u8 0) (.string { data := #[] }) (.int .i64 0) (.int .u8 0) (.int .i64 0) (.string { data := #[] }) (.slice none 0 0) (.slice none 0 0) (.int .i64 0)
    have y2 : OParse xs w (.returned (.tuple #[.agg #[.int .u8 0, .string { data := #[] }, .int .i64 0, .int .u8 0, .int .i64 0, .string { data := #[] }, .slice none 0 0, .slice none 0 0, .int .i64 0], .int .i64 30])) (set9W W3 w.heap.size (.int .u8 0) (.string { data := #[] }) (.int .i64 0) (.int .u8 0) (.int .i64 0) (.string { data := #[] }) (.slice none 0 0) (.slice none 0 0) (.int .i64 0)) := oparse_bad S2.out HF.out
    change bodyPost _ _ _ _ _ (set9W W3 w.heap.size (.int .u8 0) (.string { data := #[] }) (.int .i64 0) (.int .u8 0) (.int .i64 0) (.string { data := #[] }) (.slice none 0 0) (.slice none 0 0) (.int .i64 0))
    generalize set9W W3 w.heap.size (.int .u8 0) (.string { data := #[] }) (.int .i64 0) (.int .u8 0) (.int .i64 0) (.string { data := #[] }) (.slice none 0 0) (.slice none 0 0) (.int .i64 0) = Wn at *
    obtain ⟨g0, g1, g2, g3, g4, g5, g6, g7, g8⟩ := y1.nine
    refine bodyPost_ret (v := .tuple #[.agg #[.int .u8 0, .string { data := #[] }, .int .i64 0, .int .u8 0, .int .i64 0, .string { data := #[] }, .slice none 0 0, .slice none 0 0, .int .i64 0], .int .i64 30]) (by simp [results, Tryz.results26, go_sem, g0, g1, g2, g3, g4, g5, g6, g7, g8]) rfl ?_
    exact y2
  obtain ⟨ra, rc, rfl, -⟩ := id hbr
  cases r with
  | cons y ys =>
    have HF : Hid (parseO xs = none) := Lib.hid (by unfold parseO; rw [hyes, Option.bind_some]; simp)
    have hpos : (0 : Int) < ((y :: ys).length : Int) := by rw [List.length_cons]; omega
    generalize (y :: ys).length = ly at *
    clear hyes hbr hO
    go_upto_region 2 with (fail)
    generalize (W2.alloc (.cells #[.int .u8 k, .string ids, .int .i64 t, .int .u8 vk, .int .i64 vn, .string vs, .slice va vm vc, .slice fa fm fc, .int .i64 q] 46)) = W3 at *
    have ⟨p0, p1, p2, p3, p4, p5, p6, p7, p8⟩ := S2.out.b.nine
    have f0 := S2.out.b.free 0
    have f1 := S2.out.b.free 1
    have f2 := S2.out.b.free 2
    have f3 := S2.out.b.free 3
    have f4 := S2.out.b.free 4
    have f5 := S2.out.b.free 5
    have f6 := S2.out.b.free 6
    have f7 := S2.out.b.free 7
    have f8 := S2.out.b.free 8
    go_wp2
    have y1 := S2.out.b.set9 (.int .u8 0) (.string { data := #[] }) (.int .i64 0) (.int .u8 0) (.int .i64 0) (.string { data := #[] }) (.slice none 0 0) (.slice none 0 0) (.int .i64 0)
    have y2 : OParse xs w (.returned (.tuple #[.agg #[.int .u8 0, .string { data := #[] }, .int .i64 0, .int .u8 0, .int .i64 0, .string { data := #[] }, .slice none 0 0, .slice none 0 0, .int .i64 0], .int .i64 30])) (set9W W3 w.heap.size (.int .u8 0) (.string { data := #[] }) (.int .i64 0) (.int .u8 0) (.int .i64 0) (.string { data := #[] }) (.slice none 0 0) (.slice none 0 0) (.int .i64 0)) := oparse_bad S2.out HF.out
    change bodyPost _ _ _ _ _ (set9W W3 w.heap.size (.int .u8 0) (.string { data := #[] }) (.int .i64 0) (.int .u8 0) (.int .i64 0) (.string { data := #[] }) (.slice none 0 0) (.slice none 0 0) (.int .i64 0))
    generalize set9W W3 w.heap.size (.int .u8 0) (.string { data := #[] }) (.int .i64 0) (.int .u8 0) (.int .i64 0) (.string { data := #[] }) (.slice none 0 0) (.slice none 0 0) (.int .i64 0) = Wn at *
    obtain ⟨g0, g1, g2, g3, g4, g5, g6, g7, g8⟩ := y1.nine
    refine bodyPost_ret (v := .tuple #[.agg #[.int .u8 0, .string { data := #[] }, .int .i64 0, .int .u8 0, .int .i64 0, .string { data := #[] }, .slice none 0 0, .slice none 0 0, .int .i64 0], .int .i64 30]) (by simp [results, Tryz.results26, go_sem, g0, g1, g2, g3, g4, g5, g6, g7, g8]) rfl ?_
    exact y2
  | nil =>
    have HO := Lib.hid (hO.ext HEa.out)
    have HPA : Hid (parseO xs = if rightO o = true then some o else none) := Lib.hid (by unfold parseO; rw [hyes, Option.bind_some]; simp)
    clear hyes hbr hO
    have ⟨q0, q1, q2, q3, q4, q5, q6, q7, q8⟩ := N2.out.nine
    go_wp2_with fail
    generalize W2.alloc (.cells #[.int .u8 k, .string ids, .int .i64 t, .int .u8 vk, .int .i64 vn, .string vs, .slice va vm vc, .slice fa fm fc, .int .i64 q] 46) = W3 at *
    refine (opRight_any o W3 _ HO.out.v (HT.out.ext S2.out.e)).mono ?_
    rintro e W4 ⟨rfl, hE4⟩
    have S4 := Lib.hid (S2.out.ext hE4)
    have HO4 := Lib.hid (HO.out.ext hE4)
    have N4 := Lib.hid (N2.out.ext hE4)
    clear hE4 S2 HO N2 q0 q1 q2 q3 q4 q5 q6 q7 q8
    cases hr : rightO o with
    | false =>
      have HF : Hid (parseO xs = none) := Lib.hid (by rw [HPA.out, hr]; rfl)
      clear hr
      have ⟨p0, p1, p2, p3, p4, p5, p6, p7, p8⟩ := S4.out.b.nine
      have f0 := S4.out.b.free 0
      have f1 := S4.out.b.free 1
      have f2 := S4.out.b.free 2
      have f3 := S4.out.b.free 3
      have f4 := S4.out.b.free 4
      have f5 := S4.out.b.free 5
      have f6 := S4.out.b.free 6
      have f7 := S4.out.b.free 7
      have f8 := S4.out.b.free 8
      go_wp2
      have y1 := S4.out.b.set9 (.int .u8 0) (.string { data := #[] }) (.int .i64 0) (.int .u8 0) (.int .i64 0) (.string { data := #[] }) (.slice none 0 0) (.slice none 0 0) (.int .i64 0)
      have y2 : OParse xs w (.returned (.tuple #[.agg #[.int .u8 0, .string { data := #[] }, .int .i64 0, .int .u8 0, .int .i64 0, .string { data := #[] }, .slice none 0 0, .slice none 0 0, .int .i64 0], .int .i64 30])) (set9W W4 w.heap.size (.int .u8 0) (.string { data := #[] }) (.int .i64 0) (.int .u8 0) (.int .i64 0) (.string { data := #[] }) (.slice none 0 0) (.slice none 0 0) (.int .i64 0)) := oparse_bad S4.out HF.out
      change bodyPost _ _ _ _ _ (set9W W4 w.heap.size (.int .u8 0) (.string { data := #[] }) (.int .i64 0) (.int .u8 0) (.int .i64 0) (.string { data := #[] }) (.slice none 0 0) (.slice none 0 0) (.int .i64 0))
      generalize set9W W4 w.heap.size (.int .u8 0) (.string { data := #[] }) (.int .i64 0) (.int .u8 0) (.int .i64 0) (.string { data := #[] }) (.slice none 0 0) (.slice none 0 0) (.int .i64 0) = Wn at *
      obtain ⟨g0, g1, g2, g3, g4, g5, g6, g7, g8⟩ := y1.nine
      refine bodyPost_ret (v := .tuple #[.agg #[.int .u8 0, .string { data := #[] }, .int .i64 0, .int .u8 0, .int .i64 0, .string { data := #[] }, .slice none 0 0, .slice none 0 0, .int .i64 0], .int .i64 30]) (by simp [results, Tryz.results26, go_sem, g0, g1, g2, g3, g4, g5, g6, g7, g8]) rfl ?_
      exact y2
    | true =>
      have HF : Hid (parseO xs = some o) := Lib.hid (by rw [HPA.out, hr]; rfl)
      clear hr
      have ⟨q0, q1, q2, q3, q4, q5, q6, q7, q8⟩ := N4.out.nine
      have ⟨p0, p1, p2, p3, p4, p5, p6, p7, p8⟩ := S4.out.b.nine
      have f0 := S4.out.b.free 0
      have f1 := S4.out.b.free 1
      have f2 := S4.out.b.free 2
      have f3 := S4.out.b.free 3
      have f4 := S4.out.b.free 4
      have f5 := S4.out.b.free 5
      have f6 := S4.out.b.free 6
      have f7 := S4.out.b.free 7
      have f8 := S4.out.b.free 8
      go_wp2
      have y1 := S4.out.b.set9 (.int .u8 k) (.string ids) (.int .i64 t) (.int .u8 vk) (.int .i64 vn) (.string vs) (.slice va vm vc) (.slice fa fm fc) (.int .i64 q)
      have y2 : OParse xs w (.returned (.tuple #[.agg #[.int .u8 k, .string ids, .int .i64 t, .int .u8 vk, .int .i64 vn, .string vs, .slice va vm vc, .slice fa fm fc, .int .i64 q], .int .i64 0])) (set9W W4 w.heap.size (.int .u8 k) (.string ids) (.int .i64 t) (.int .u8 vk) (.int .i64 vn) (.string vs) (.slice va vm vc) (.slice fa fm fc) (.int .i64 q)) := oparse_ok S4.out HF.out (HO4.out.mono (by omega))
      change bodyPost _ _ _ _ _ (set9W W4 w.heap.size (.int .u8 k) (.string ids) (.int .i64 t) (.int .u8 vk) (.int .i64 vn) (.string vs) (.slice va vm vc) (.slice fa fm fc) (.int .i64 q))
      generalize set9W W4 w.heap.size (.int .u8 k) (.string ids) (.int .i64 t) (.int .u8 vk) (.int .i64 vn) (.string vs) (.slice va vm vc) (.slice fa fm fc) (.int .i64 q) = Wn at *
      obtain ⟨g0, g1, g2, g3, g4, g5, g6, g7, g8⟩ := y1.nine
      refine bodyPost_ret (v := .tuple #[.agg #[.int .u8 k, .string ids, .int .i64 t, .int .u8 vk, .int .i64 vn, .string vs, .slice va vm vc, .slice fa fm fc, .int .i64 q], .int .i64 0]) (by simp [results, Tryz.results26, go_sem, g0, g1, g2, g3, g4, g5, g6, g7, g8]) rfl ?_
      exact y2
end Go.Proofs.YtdienbcjfljjnaaGreatDoor
