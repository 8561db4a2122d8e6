/- The reference's read of an item: what it comes to, its way out. -/
import Derived.Test.YtdienbcjfljjnaaGreatDoorPlF
import Derived.Test.YtdienbcjfljjnaaGreatDoorFrgR
import Derived.Test.YtdienbcjfljjnaaGreatDoorWireR
import Derived.Test.YtdienbcjfljjnaaGreatDoorFragD
open Go.RowKit Go.Shelf
namespace Go.Proofs.YtdienbcjfljjnaaGreatDoor
open Go Go.Proofs Fm

/-- The reference's text at a place, in the words of hdX. -/
theorem rtextAt_any (v : Value) (xs : List UInt8) (AA : Nat) (hA : AA ≤ xs.length) (w : World) (h : Bytes w v (xs.drop AA)) (hl : xs.length ≤ 9223372036854775807) :
    Calls Tryz.prog 94 #[v, .int .i64 20] w fun e w' => w = w' ∧
      ((hdX 20 (xs.drop AA) = none ∧ e = .returned (.tuple #[.string (str []), .int .i64 0, .bool false])) ∨
        ∃ (s : List UInt8) (A B : Nat), hdX 20 (xs.drop AA) = some (s, xs.drop B) ∧ B = AA + A ∧ B ≤ xs.length ∧ 0 < A ∧ s.length ≤ 9223372036854775807 ∧ e = .returned (.tuple #[.string (str s), .int .i64 (A : Int), .bool true])) := by
  refine (rtakeText_any _ (xs.drop AA) 20 (by unfold isI64; omega) w h).mono ?_
  rintro e w1 ⟨hp, rfl⟩
  refine ⟨rfl, ?_⟩
  cases hT : takeT (xs.drop AA) 20 with
  | none => rw [hT] at hp; exact .inl ⟨hdX_none hT, hp⟩
  | some p =>
    obtain ⟨k, n⟩ := p
    rw [hT] at hp
    obtain ⟨h1, h2, h3⟩ := takeT_inv hT
    obtain ⟨-, h4, -⟩ := takeN_inv h1
    rw [List.length_drop] at h3
    refine .inr ⟨((xs.drop AA).drop k).take n, k + n, AA + (k + n), ?_, rfl, by omega, by omega, ?_, hp⟩
    · rw [hdX_of_some hT]; simp only [List.drop_drop]
    · simp only [List.length_take, List.length_drop]; omega
/-- The reference's number at a place, in the words of hdB. -/
theorem rnumAt_any (high : Int) (v : Value) (xs : List UInt8) (AA : Nat) (hA : AA ≤ xs.length) (w : World) (h : Bytes w v (xs.drop AA)) (hl : xs.length ≤ 9223372036854775807) :
    Calls Tryz.prog 93 #[v] w fun e w' => w = w' ∧
      ∃ (n : Int) (A B : Nat), e = .returned (.tuple #[.int .i64 n, .int .i64 (A : Int)]) ∧ B = AA + A ∧ B ≤ xs.length ∧ isI64 n ∧
        ((hdB high (xs.drop AA) = none ∧ (A = 0 ∨ ((A : Int) == 0) = false ∧ n < 0 ∨ ((A : Int) == 0) = false ∧ ¬ n < 0 ∧ high < n)) ∨ (((A : Int) == 0) = false ∧ ¬ n < 0 ∧ ¬ high < n ∧ hdB high (xs.drop AA) = some (n, xs.drop B))) := by
  refine (rtakeNum_any _ (xs.drop AA) w h).mono ?_
  rintro e w1 ⟨hp, rfl⟩
  refine ⟨rfl, ?_⟩
  cases hT : takeN (xs.drop AA) with
  | none => rw [hT] at hp; exact ⟨0, 0, AA, hp, rfl, hA, by unfold isI64; omega, .inl ⟨hdB_of_none hT, .inl rfl⟩⟩
  | some p =>
    obtain ⟨n, k⟩ := p
    rw [hT] at hp
    obtain ⟨h1, h2, h3, h4, -⟩ := takeN_inv hT
    rw [List.length_drop] at h4
    have hkz : ((k : Int) == 0) = false := by simp; omega
    refine ⟨n, k, AA + k, hp, rfl, by omega, h1, ?_⟩
    by_cases b1 : n < 0
    · exact .inl ⟨hdB_of_bad hT (.inl b1), .inr (.inl ⟨hkz, b1⟩)⟩
    by_cases b2 : high < n
    · exact .inl ⟨hdB_of_bad hT (.inr b2), .inr (.inr ⟨hkz, b1, b2⟩)⟩
    · exact .inr ⟨hkz, b1, b2, by rw [hdB_of_some hT b1 b2, List.drop_drop]⟩
/-- The two boxes of read: the results', and the item's. -/
structure RS9 (w W : World) (vs : List Value) : Prop where
  e : Ext w W
  p : BoxL W w.heap.size [.string { data := #[] }, .int .u8 0, .slice none 0 0, .string { data := #[] }, .int .i64 0, .int .i64 0]
  v : BoxL W (w.heap.size + 1) vs
theorem RS9.set {w W : World} {vs : List Value} (h : RS9 w W vs) (j : Nat) (hj : j < vs.length) (u : Value) : RS9 w (W.setCell ⟨w.heap.size + 1, j, none⟩ u) (vs.set j u) :=
  ⟨h.e.setCell (p := ⟨w.heap.size + 1, j, none⟩) (by show w.heap.size ≤ w.heap.size + 1; omega) u, h.p.kept (setOne_grown W (w.heap.size + 1) j u) (fun e => by injection e with e; omega), h.v.set j hj u⟩
theorem RS9.ext {w W W' : World} {vs : List Value} (h : RS9 w W vs) (hE : Ext W W') : RS9 w W' vs := ⟨h.e.trans hE, h.p.ext hE, h.v.ext hE⟩
theorem RS9.kept {w W W' : World} {vs : List Value} {row : Option Nat} (h : RS9 w W vs) (hg : W.grownBy W' row) (hr : ∀ b, row = some b → w.heap.size + 2 ≤ b) : RS9 w W' vs :=
  ⟨h.e.grown hg (fun k hk => by have := hr k hk; omega), h.p.kept hg (fun e => by have := hr _ e; omega), h.v.kept hg (fun e => by have := hr _ e; omega)⟩
theorem RS9.new (w : World) : RS9 w ((w.alloc (.cells #[.string { data := #[] }, .int .u8 0, .slice none 0 0, .string { data := #[] }, .int .i64 0, .int .i64 0] 138)).alloc (.cells #[.string { data := #[] }, .int .u8 0, .slice none 0 0, .string { data := #[] }, .int .i64 0, .int .i64 0] 138)) [.string { data := #[] }, .int .u8 0, .slice none 0 0, .string { data := #[] }, .int .i64 0, .int .i64 0] := by
  refine ⟨((Ext.refl w).alloc _).alloc _, (BoxL.new w _ _).ext ((Ext.refl _).alloc _), ?_⟩
  have hz0 : (w.alloc (.cells #[.string { data := #[] }, .int .u8 0, .slice none 0 0, .string { data := #[] }, .int .i64 0, .int .i64 0] 138)).heap.size = w.heap.size + 1 := by simp
  have := BoxL.new (w.alloc (.cells #[.string { data := #[] }, .int .u8 0, .slice none 0 0, .string { data := #[] }, .int .i64 0, .int .i64 0] 138)) [.string { data := #[] }, .int .u8 0, .slice none 0 0, .string { data := #[] }, .int .i64 0, .int .i64 0] 138
  rwa [hz0] at this

/-- What read comes to: an item, right or not, and how many bytes it has; 0: there is none. -/
def RRead9 (xs : List UInt8) (w : World) (e : Ending) (w' : World) : Prop :=
  ∃ (x : It) (d : Value) (A : Nat), e = .returned (.tuple #[.agg #[.string (str x.name), .int .u8 (x.kind.toNat : Int), d, .string (str x.over), .int .i64 x.width, .int .i64 x.quota], .int .i64 (A : Int)]) ∧ Ext w w' ∧ OwnS 9 w.heap.size w' d x.after ∧ itWf x ∧
    match readI xs with
    | none => A = 0
    | some (y, r) => x = y ∧ 0 < A ∧ A ≤ xs.length ∧ r = xs.drop A
/-- The results' box is written. -/
theorem rread9_exit {xs : List UInt8} {w w1 : World} (hE : Ext w w1) {z0 z1 z2 z3 z4 z5 : Value} (hb : BoxL w1 w.heap.size [z0, z1, z2, z3, z4, z5]) (x : It) (d c0 c1 c2 c3 c4 c5 n : Value) (hc : itCells x d = [c0, c1, c2, c3, c4, c5]) (hO : OwnS 9 (w.heap.size + 1) w1 d x.after) (hw : itWf x) (A : Nat) (hn : n = .int .i64 (A : Int))
    (hA : match readI xs with | none => A = 0 | some (y, r) => x = y ∧ 0 < A ∧ A ≤ xs.length ∧ r = xs.drop A) :
    BoxL (set6W w1 w.heap.size c0 c1 c2 c3 c4 c5) w.heap.size [c0, c1, c2, c3, c4, c5] ∧
    RRead9 xs w (.returned (.tuple #[.agg #[c0, c1, c2, c3, c4, c5], n])) (set6W w1 w.heap.size c0 c1 c2 c3 c4 c5) := by
  subst hn
  unfold itCells at hc
  injection hc with e0 hc
  injection hc with e1 hc
  injection hc with e2 hc
  injection hc with e3 hc
  injection hc with e4 hc
  injection hc with e5 hc
  subst e0 e1 e2 e3 e4 e5
  have hg : w1.grownBy (set6W w1 w.heap.size (.string (str x.name)) (.int .u8 (x.kind.toNat : Int)) d (.string (str x.over)) (.int .i64 x.width) (.int .i64 x.quota)) (some w.heap.size) := by
    unfold set6W
    exact grown_trans (grown_trans (grown_trans (grown_trans (grown_trans (setOne_grown _ _ 0 _) (setOne_grown _ _ 1 _)) (setOne_grown _ _ 2 _)) (setOne_grown _ _ 3 _)) (setOne_grown _ _ 4 _)) (setOne_grown _ _ 5 _)
  refine ⟨?_, x, d, A, rfl, hE.grown hg (fun k hk => by injection hk with hk; omega), (hO.kept hg (fun b hb e => by injection e with e; have := (hO.block b hb).1; omega)).mono (by omega), hw, hA⟩
  unfold set6W
  exact (((((hb.set 0 (by simp) _).set 1 (by simp) _).set 2 (by simp) _).set 3 (by simp) _).set 4 (by simp) _).set 5 (by simp) _
end Go.Proofs.YtdienbcjfljjnaaGreatDoor

/- The reference's read of an item. -/
open Go.RowKit Go.Shelf
namespace Go.Proofs.YtdienbcjfljjnaaGreatDoor
open Go Go.Proofs Fm

set_option maxRecDepth 100000 in
set_option maxHeartbeats 16000000 in
theorem rread9_any (v : Value) (xs : List UInt8) (w : World) (h : Bytes w v xs) :
    Calls Tryz.prog 132 #[v] w (RRead9 xs w) := by
  have HB := Lib.hid h
  obtain ⟨a, cap, rfl, hcap, hcm, -⟩ := id h
  have hlm := h.length_le
  clear h
  have h0 := RS9.new w
  go_enter Tryz.func132, Tryz.ntmps132
  go_wp2_with fail
  generalize (w.alloc (.cells #[.string { data := #[] }, .int .u8 0, .slice none 0 0, .string { data := #[] }, .int .i64 0, .int .i64 0] 138)).alloc (.cells #[.string { data := #[] }, .int .u8 0, .slice none 0 0, .string { data := #[] }, .int .i64 0, .int .i64 0] 138) = W1 at *
  have S1 := Lib.hid h0
  clear h0
  have HW0 : Hid (itWf ⟨[], 0, [], [], 0, 0⟩) := Lib.hid ⟨by simp, by simp, by unfold isI64; simp, by unfold isI64; simp⟩
  refine (rtextAt_any _ xs 0 (by omega) W1 (HB.out.ext S1.out.e) (by omega)).mono ?_
  rintro e wq ⟨rfl, hq⟩
  rcases hq with ⟨hno, rfl⟩ | ⟨nm, k1, A1, hyes, hBk, hBl, hk0, hsl, rfl⟩
  · have HF : Hid (readI xs = none) := Lib.hid (readI_n1 hno)
    clear hno
    go_wp2_with fail
    refine (rnumAt_any 1 _ xs 0 (by omega) W1 (HB.out.ext S1.out.e) (by omega)).mono ?_
    rintro e wq ⟨rfl, n, k, B, rfl, -⟩
    have ⟨p0, p1, p2, p3, p4, p5⟩ := S1.out.p.six
    have ⟨q0, q1, q2, q3, q4, q5⟩ := S1.out.v.six
    have r0 := S1.out.p.free 0
    have r1 := S1.out.p.free 1
    have r2 := S1.out.p.free 2
    have r3 := S1.out.p.free 3
    have r4 := S1.out.p.free 4
    have r5 := S1.out.p.free 5
    go_wp2
    obtain ⟨y1, y2⟩ := rread9_exit (xs := xs) S1.out.e S1.out.p ⟨[], 0, [], [], 0, 0⟩ (.slice none 0 0) (.string { data := #[] }) (.int .u8 0) (.slice none 0 0) (.string { data := #[] }) (.int .i64 0) (.int .i64 0) (.int .i64 0) rfl (OwnS.nil _ _ _) HW0.out 0 rfl (by rw [HF.out])
    change bodyPost _ _ _ _ _ (set6W W1 w.heap.size (.string { data := #[] }) (.int .u8 0) (.slice none 0 0) (.string { data := #[] }) (.int .i64 0) (.int .i64 0))
    generalize set6W W1 w.heap.size (.string { data := #[] }) (.int .u8 0) (.slice none 0 0) (.string { data := #[] }) (.int .i64 0) (.int .i64 0) = Wn at *
    obtain ⟨g0, g1, g2, g3, g4, g5⟩ := y1.six
    refine bodyPost_ret (v := .tuple #[.agg #[.string { data := #[] }, .int .u8 0, .slice none 0 0, .string { data := #[] }, .int .i64 0, .int .i64 0], .int .i64 0]) (by simp [results, Tryz.results132, go_sem, g0, g1, g2, g3, g4, g5]) rfl ?_
    exact y2
  obtain rfl : k1 = A1 := by omega
  have HX1 : Hid (hdX 20 xs = some (nm, xs.drop k1)) := Lib.hid hyes
  have HNM := Lib.hid hsl
  obtain ⟨A1, hA1⟩ : ∃ A1, A1 = k1 := ⟨_, rfl⟩
  subst hA1
  clear hyes hBk hk0 hsl
  have hsk1 := fun w' => slice_from a xs.length cap (A1 : Int) (by omega) (by omega) w'
  rw [Int.toNat_natCast] at hsk1
  go_wp2_with fail
  refine (rnumAt_any 1 _ xs A1 (by omega) W1 ((HB.out.ext S1.out.e).drop (by omega)) (by omega)).mono ?_
  rintro e wq ⟨rfl, kd, k2, A2, rfl, hBk, hBl, hni, hq⟩
  obtain ⟨hni1, hni2⟩ := hni
  rcases hq with ⟨hno, hq⟩ | ⟨hkz, hn0, hn1, hyes⟩
  · have HF : Hid (readI xs = none) := Lib.hid (readI_n2 (a := (nm, xs.drop A1)) HX1.out hno)
    clear hno
    rcases hq with rfl | ⟨hkz, hn0⟩ | ⟨hkz, hn0, hn1⟩
    · have ⟨p0, p1, p2, p3, p4, p5⟩ := S1.out.p.six
      have ⟨q0, q1, q2, q3, q4, q5⟩ := S1.out.v.six
      have r0 := S1.out.p.free 0
      have r1 := S1.out.p.free 1
      have r2 := S1.out.p.free 2
      have r3 := S1.out.p.free 3
      have r4 := S1.out.p.free 4
      have r5 := S1.out.p.free 5
      go_wp2
      obtain ⟨y1, y2⟩ := rread9_exit (xs := xs) S1.out.e S1.out.p ⟨[], 0, [], [], 0, 0⟩ (.slice none 0 0) (.string { data := #[] }) (.int .u8 0) (.slice none 0 0) (.string { data := #[] }) (.int .i64 0) (.int .i64 0) (.int .i64 0) rfl (OwnS.nil _ _ _) HW0.out 0 rfl (by rw [HF.out])
      change bodyPost _ _ _ _ _ (set6W W1 w.heap.size (.string { data := #[] }) (.int .u8 0) (.slice none 0 0) (.string { data := #[] }) (.int .i64 0) (.int .i64 0))
      generalize set6W W1 w.heap.size (.string { data := #[] }) (.int .u8 0) (.slice none 0 0) (.string { data := #[] }) (.int .i64 0) (.int .i64 0) = Wn at *
      obtain ⟨g0, g1, g2, g3, g4, g5⟩ := y1.six
      refine bodyPost_ret (v := .tuple #[.agg #[.string { data := #[] }, .int .u8 0, .slice none 0 0, .string { data := #[] }, .int .i64 0, .int .i64 0], .int .i64 0]) (by simp [results, Tryz.results132, go_sem, g0, g1, g2, g3, g4, g5]) rfl ?_
      exact y2
    · have ⟨p0, p1, p2, p3, p4, p5⟩ := S1.out.p.six
      have ⟨q0, q1, q2, q3, q4, q5⟩ := S1.out.v.six
      have r0 := S1.out.p.free 0
      have r1 := S1.out.p.free 1
      have r2 := S1.out.p.free 2
      have r3 := S1.out.p.free 3
      have r4 := S1.out.p.free 4
      have r5 := S1.out.p.free 5
      go_wp2
      obtain ⟨y1, y2⟩ := rread9_exit (xs := xs) S1.out.e S1.out.p ⟨[], 0, [], [], 0, 0⟩ (.slice none 0 0) (.string { data := #[] }) (.int .u8 0) (.slice none 0 0) (.string { data := #[] }) (.int .i64 0) (.int .i64 0) (.int .i64 0) rfl (OwnS.nil _ _ _) HW0.out 0 rfl (by rw [HF.out])
      change bodyPost _ _ _ _ _ (set6W W1 w.heap.size (.string { data := #[] }) (.int .u8 0) (.slice none 0 0) (.string { data := #[] }) (.int .i64 0) (.int .i64 0))
      generalize set6W W1 w.heap.size (.string { data := #[] }) (.int .u8 0) (.slice none 0 0) (.string { data := #[] }) (.int .i64 0) (.int .i64 0) = Wn at *
      obtain ⟨g0, g1, g2, g3, g4, g5⟩ := y1.six
      refine bodyPost_ret (v := .tuple #[.agg #[.string { data := #[] }, .int .u8 0, .slice none 0 0, .string { data := #[] }, .int .i64 0, .int .i64 0], .int .i64 0]) (by simp [results, Tryz.results132, go_sem, g0, g1, g2, g3, g4, g5]) rfl ?_
      exact y2
    · have ⟨p0, p1, p2, p3, p4, p5⟩ := S1.out.p.six
      have ⟨q0, q1, q2, q3, q4, q5⟩ := S1.out.v.six
      have r0 := S1.out.p.free 0
      have r1 := S1.out.p.free 1
      have r2 := S1.out.p.free 2
      have r3 := S1.out.p.free 3
      have r4 := S1.out.p.free 4
      have r5 := S1.out.p.free 5
      go_wp2
      obtain ⟨y1, y2⟩ := rread9_exit (xs := xs) S1.out.e S1.out.p ⟨[], 0, [], [], 0, 0⟩ (.slice none 0 0) (.string { data := #[] }) (.int .u8 0) (.slice none 0 0) (.string { data := #[] }) (.int .i64 0) (.int .i64 0) (.int .i64 0) rfl (OwnS.nil _ _ _) HW0.out 0 rfl (by rw [HF.out])
      change bodyPost _ _ _ _ _ (set6W W1 w.heap.size (.string { data := #[] }) (.int .u8 0) (.slice none 0 0) (.string { data := #[] }) (.int .i64 0) (.int .i64 0))
      generalize set6W W1 w.heap.size (.string { data := #[] }) (.int .u8 0) (.slice none 0 0) (.string { data := #[] }) (.int .i64 0) (.int .i64 0) = Wn at *
      obtain ⟨g0, g1, g2, g3, g4, g5⟩ := y1.six
      refine bodyPost_ret (v := .tuple #[.agg #[.string { data := #[] }, .int .u8 0, .slice none 0 0, .string { data := #[] }, .int .i64 0, .int .i64 0], .int .i64 0]) (by simp [results, Tryz.results132, go_sem, g0, g1, g2, g3, g4, g5]) rfl ?_
      exact y2
  rcases (by omega : kd = 0 ∨ kd = 1) with rfl | rfl
  · have HX2 := Lib.hid hyes
    have hA2 := hBl
    have hadd2 : IntKind.i64.wrap ((A1 : Int) + (k2 : Int)) = (A2 : Int) := by rw [IntWalk.i64_in _ (by omega)]; omega
    have hsk2 := fun w' => slice_from a xs.length cap (A2 : Int) (by omega) (by omega) w'
    rw [Int.toNat_natCast] at hsk2
    clear hyes hBk hBl hsk1
    have ⟨q0, q1, q2, q3, q4, q5⟩ := S1.out.v.six
    have s0 := S1.out.v.free 0
    have s1 := S1.out.v.free 1
    have S2 : Hid (RS9 w ((W1.setCell ⟨w.heap.size + 1, 0, none⟩ (.string (str nm))).setCell ⟨w.heap.size + 1, 1, none⟩ (.int .u8 0)) [.string (str nm), .int .u8 0, .slice none 0 0, .string { data := #[] }, .int .i64 0, .int .i64 0]) := Lib.hid ((S1.out.set 0 (by simp) _).set 1 (by simp) _)
    have HW1 : Hid (itWf ⟨nm, 0, [], [], 0, 0⟩) := Lib.hid ⟨HNM.out, by simp, by unfold isI64; simp, by unfold isI64; simp⟩
    go_wp2_with fail
    generalize (W1.setCell ⟨w.heap.size + 1, 0, none⟩ (.string (str nm))).setCell ⟨w.heap.size + 1, 1, none⟩ (.int .u8 0) = W2 at *
    clear S1 hkz hn0 hn1 hadd2
    clear q0 q1 q2 q3 q4 q5 s0 s1
    refine (rnumAt_any 20 _ xs A2 (by omega) W2 ((HB.out.ext S2.out.e).drop (by omega)) (by omega)).mono ?_
    rintro e wq ⟨rfl, many, k3, A3, rfl, hBk, hBl, hni, hq⟩
    obtain ⟨hni1, hni2⟩ := hni
    rcases hq with ⟨hno, hq⟩ | ⟨hkz, hn0, hn1, hyes⟩
    · have HF : Hid (readI xs = none) := Lib.hid (readI_n3 (a := (nm, xs.drop A1)) HX1.out (b := (0, xs.drop A2)) HX2.out hno)
      clear hno
      rcases hq with rfl | ⟨hkz, hn0⟩ | ⟨hkz, hn0, hn1⟩
      · have ⟨p0, p1, p2, p3, p4, p5⟩ := S2.out.p.six
        have ⟨q0, q1, q2, q3, q4, q5⟩ := S2.out.v.six
        have r0 := S2.out.p.free 0
        have r1 := S2.out.p.free 1
        have r2 := S2.out.p.free 2
        have r3 := S2.out.p.free 3
        have r4 := S2.out.p.free 4
        have r5 := S2.out.p.free 5
        go_wp2
        obtain ⟨y1, y2⟩ := rread9_exit (xs := xs) S2.out.e S2.out.p ⟨nm, 0, [], [], 0, 0⟩ (.slice none 0 0) (.string (str nm)) (.int .u8 0) (.slice none 0 0) (.string { data := #[] }) (.int .i64 0) (.int .i64 0) (.int .i64 0) rfl (OwnS.nil _ _ _) HW1.out 0 rfl (by rw [HF.out])
        change bodyPost _ _ _ _ _ (set6W W2 w.heap.size (.string (str nm)) (.int .u8 0) (.slice none 0 0) (.string { data := #[] }) (.int .i64 0) (.int .i64 0))
        generalize set6W W2 w.heap.size (.string (str nm)) (.int .u8 0) (.slice none 0 0) (.string { data := #[] }) (.int .i64 0) (.int .i64 0) = Wn at *
        obtain ⟨g0, g1, g2, g3, g4, g5⟩ := y1.six
        refine bodyPost_ret (v := .tuple #[.agg #[.string (str nm), .int .u8 0, .slice none 0 0, .string { data := #[] }, .int .i64 0, .int .i64 0], .int .i64 0]) (by simp [results, Tryz.results132, go_sem, g0, g1, g2, g3, g4, g5]) rfl ?_
        exact y2
      · have ⟨p0, p1, p2, p3, p4, p5⟩ := S2.out.p.six
        have ⟨q0, q1, q2, q3, q4, q5⟩ := S2.out.v.six
        have r0 := S2.out.p.free 0
        have r1 := S2.out.p.free 1
        have r2 := S2.out.p.free 2
        have r3 := S2.out.p.free 3
        have r4 := S2.out.p.free 4
        have r5 := S2.out.p.free 5
        go_wp2
        obtain ⟨y1, y2⟩ := rread9_exit (xs := xs) S2.out.e S2.out.p ⟨nm, 0, [], [], 0, 0⟩ (.slice none 0 0) (.string (str nm)) (.int .u8 0) (.slice none 0 0) (.string { data := #[] }) (.int .i64 0) (.int .i64 0) (.int .i64 0) rfl (OwnS.nil _ _ _) HW1.out 0 rfl (by rw [HF.out])
        change bodyPost _ _ _ _ _ (set6W W2 w.heap.size (.string (str nm)) (.int .u8 0) (.slice none 0 0) (.string { data := #[] }) (.int .i64 0) (.int .i64 0))
        generalize set6W W2 w.heap.size (.string (str nm)) (.int .u8 0) (.slice none 0 0) (.string { data := #[] }) (.int .i64 0) (.int .i64 0) = Wn at *
        obtain ⟨g0, g1, g2, g3, g4, g5⟩ := y1.six
        refine bodyPost_ret (v := .tuple #[.agg #[.string (str nm), .int .u8 0, .slice none 0 0, .string { data := #[] }, .int .i64 0, .int .i64 0], .int .i64 0]) (by simp [results, Tryz.results132, go_sem, g0, g1, g2, g3, g4, g5]) rfl ?_
        exact y2
      · have ⟨p0, p1, p2, p3, p4, p5⟩ := S2.out.p.six
        have ⟨q0, q1, q2, q3, q4, q5⟩ := S2.out.v.six
        have r0 := S2.out.p.free 0
        have r1 := S2.out.p.free 1
        have r2 := S2.out.p.free 2
        have r3 := S2.out.p.free 3
        have r4 := S2.out.p.free 4
        have r5 := S2.out.p.free 5
        go_wp2
        obtain ⟨y1, y2⟩ := rread9_exit (xs := xs) S2.out.e S2.out.p ⟨nm, 0, [], [], 0, 0⟩ (.slice none 0 0) (.string (str nm)) (.int .u8 0) (.slice none 0 0) (.string { data := #[] }) (.int .i64 0) (.int .i64 0) (.int .i64 0) rfl (OwnS.nil _ _ _) HW1.out 0 rfl (by rw [HF.out])
        change bodyPost _ _ _ _ _ (set6W W2 w.heap.size (.string (str nm)) (.int .u8 0) (.slice none 0 0) (.string { data := #[] }) (.int .i64 0) (.int .i64 0))
        generalize set6W W2 w.heap.size (.string (str nm)) (.int .u8 0) (.slice none 0 0) (.string { data := #[] }) (.int .i64 0) (.int .i64 0) = Wn at *
        obtain ⟨g0, g1, g2, g3, g4, g5⟩ := y1.six
        refine bodyPost_ret (v := .tuple #[.agg #[.string (str nm), .int .u8 0, .slice none 0 0, .string { data := #[] }, .int .i64 0, .int .i64 0], .int .i64 0]) (by simp [results, Tryz.results132, go_sem, g0, g1, g2, g3, g4, g5]) rfl ?_
        exact y2
    obtain ⟨N, rfl⟩ : ∃ N : Nat, many = (N : Int) := ⟨many.toNat, by omega⟩
    have HX3 := Lib.hid hyes
    have hA3 := hBl
    have hN20 : N ≤ 20 := by omega
    have hadd3 : IntKind.i64.wrap ((A2 : Int) + (k3 : Int)) = (A3 : Int) := by rw [IntWalk.i64_in _ (by omega)]; omega
    clear hyes hBk hBl hsk2
    go_wp2_with fail
    clear hkz hn0 hn1
    go_loopw [6, 11] (fun A i wr => ∃ (l : List (List UInt8)) (AA : Nat) (dv : Value), l.length ≤ N ∧ A = .int .i64 AA ∧ i = .int .i64 l.length ∧ AA ≤ xs.length ∧ Hid (readM (hdX 20) l.length (xs.drop A3) = some (l, xs.drop AA)) ∧ Hid (RS9 w wr [.string (str nm), .int .u8 0, dv, .string { data := #[] }, .int .i64 0, .int .i64 0]) ∧ Hid (OwnS 9 (w.heap.size + 2) wr dv l)) (fun _ i _ => N - (intOf i).toNat)
    case atStart => exact ⟨[], A3, _, by simp, rfl, by go_num, hA3, Lib.hid rfl, S2, Lib.hid (OwnS.nil _ _ _)⟩
    case round =>
      clear S2 hadd3
      obtain ⟨l, AA, dv, hl, rfl, rfl, hAA, HM, S3, HO⟩ := hrel
      obtain ⟨ad, cd, rfl⟩ : ∃ a cap, dv = .slice a l.length cap := by
        obtain ⟨aa, cc, hh, -⟩ := HO.out.row.slice
        exact ⟨aa, cc, hh⟩
      have HW2 : Hid (itWf ⟨nm, 0, l, [], 0, 0⟩) := Lib.hid HW1.out
      obtain ⟨ln, hln⟩ : ∃ ln, ln = l.length := ⟨_, rfl⟩
      have HLN := Lib.hid hln
      rw [← hln] at hl HO S3 ⊢
      clear hln
      have hsk3 := fun w' => slice_from a xs.length cap (AA : Int) (by omega) (by omega) w'
      rw [Int.toNat_natCast] at hsk3
      by_cases hlt : ln < N
      · have hlti : (ln : Int) < (N : Int) := by omega
        go_wp2_with fail
        refine (rtextAt_any _ xs AA (by omega) wr ((HB.out.ext S3.out.e).drop (by omega)) (by omega)).mono ?_
        rintro e wq ⟨rfl, hq⟩
        rcases hq with ⟨hno, rfl⟩ | ⟨T, k4, A4, hyes, hBk, hBl, hk0, hsl, rfl⟩
        · have HF : Hid (readI xs = none) := Lib.hid (readI_n4 (a := (nm, xs.drop A1)) HX1.out (b := (0, xs.drop A2)) HX2.out (c := ((N : Int), xs.drop A3)) HX3.out (readM_none (i := ln + 1) _ (by rw [readM_snoc, HLN.out, HM.out, Option.bind_some, hno]; rfl) (by rw [Int.toNat_natCast]; omega)))
          clear hno
          have ⟨p0, p1, p2, p3, p4, p5⟩ := S3.out.p.six
          have ⟨q0, q1, q2, q3, q4, q5⟩ := S3.out.v.six
          have r0 := S3.out.p.free 0
          have r1 := S3.out.p.free 1
          have r2 := S3.out.p.free 2
          have r3 := S3.out.p.free 3
          have r4 := S3.out.p.free 4
          have r5 := S3.out.p.free 5
          go_wp2
          obtain ⟨y1, y2⟩ := rread9_exit (xs := xs) S3.out.e S3.out.p ⟨nm, 0, l, [], 0, 0⟩ (.slice ad ln cd) (.string (str nm)) (.int .u8 0) (.slice ad ln cd) (.string { data := #[] }) (.int .i64 0) (.int .i64 0) (.int .i64 0) rfl (HO.out.mono (by omega)) HW2.out 0 rfl (by rw [HF.out])
          change bodyPost _ _ _ _ _ (set6W wr w.heap.size (.string (str nm)) (.int .u8 0) (.slice ad ln cd) (.string { data := #[] }) (.int .i64 0) (.int .i64 0))
          generalize set6W wr w.heap.size (.string (str nm)) (.int .u8 0) (.slice ad ln cd) (.string { data := #[] }) (.int .i64 0) (.int .i64 0) = Wn at *
          obtain ⟨g0, g1, g2, g3, g4, g5⟩ := y1.six
          refine bodyPost_ret (v := .tuple #[.agg #[.string (str nm), .int .u8 0, .slice ad ln cd, .string { data := #[] }, .int .i64 0, .int .i64 0], .int .i64 0]) (by simp [results, Tryz.results132, go_sem, g0, g1, g2, g3, g4, g5]) rfl ?_
          exact y2
        have HM4 : Hid (readM (hdX 20) (ln + 1) (xs.drop A3) = some (l ++ [T], xs.drop A4)) := Lib.hid (by rw [readM_snoc, HLN.out, HM.out, Option.bind_some, hyes]; rfl)
        have hA4 := hBl
        have HTl := Lib.hid hsl
        have hadd4 : IntKind.i64.wrap ((AA : Int) + (k4 : Int)) = (A4 : Int) := by rw [IntWalk.i64_in _ (by omega)]; omega
        have ⟨q0, q1, q2, q3, q4, q5⟩ := S3.out.v.six
        have s2 := S3.out.v.free 2
        have hlt3 := S3.out.v.lt
        have hrow := HO.out.1
        rw [← HLN.out] at hrow
        have hE4 := (Ext.refl wr).alloc (.cells #[.string (str T)] 9)
        have HOr : Hid ((wr.alloc (.cells #[.string (str T)] 9)).ownsRow (w.heap.size + 2) 9 1 (.slice ad ln cd) ln (l.map strV)) := Lib.hid (hE4.own hrow)
        have HNb : Hid ((wr.alloc (.cells #[.string (str T)] 9)).heap[wr.heap.size]? = some (.cells [.string (str T)].toArray 9 (0, 0))) := Lib.hid (heap_alloc_new wr _)
        have S4 := Lib.hid (S3.out.ext hE4)
        have hz4 := hE4.size
        have HOL2 := Lib.hid HO.out.2
        have HBK := Lib.hid (HO.out.block)
        clear hE4 hrow hyes hBk hBl hk0 hsl HO
        go_wp2_with (at_builtin; refine wpList_appOne elem_string rfl _ _ rfl rfl HOr.out rfl HNb.out rfl (by simp [Value.oneCell']) (by omega) (by omega) (by omega) ?_)
        intro v4 w4 hown4 hg4 hat4
        have HO4 : Hid (OwnS 9 (w.heap.size + 2) w4 v4 (l ++ [T])) := Lib.hid (OwnS.snoc (by rw [← HLN.out]; exact hown4) HOL2.out HTl.out)
        obtain ⟨a4, c4, hv4, -⟩ := HO4.out.row.slice
        obtain ⟨m4, hm4⟩ : ∃ m4, m4 = (l ++ [T]).length := ⟨_, rfl⟩
        rw [← hm4] at hv4
        clear hm4
        subst hv4
        have S5 := Lib.hid (S4.out.kept hg4 (fun b hb => (HBK.out b hb).1))
        clear hown4 hg4 hat4 HOr HNb q0 q1 q2 q3 q4 q5 s2
        have ⟨q0, q1, q2, q3, q4, q5⟩ := S5.out.v.six
        have s2 := S5.out.v.free 2
        have S6 : Hid (RS9 w (w4.setCell ⟨w.heap.size + 1, 2, none⟩ (.slice a4 m4 c4)) [.string (str nm), .int .u8 0, .slice a4 m4 c4, .string { data := #[] }, .int .i64 0, .int .i64 0]) := Lib.hid (S5.out.set 2 (by simp) _)
        have HO6 : Hid (OwnS 9 (w.heap.size + 2) (w4.setCell ⟨w.heap.size + 1, 2, none⟩ (.slice a4 m4 c4)) (.slice a4 m4 c4) (l ++ [T])) := Lib.hid (HO4.out.far (by omega) 2 _)
        have hlt5 := S5.out.v.lt
        go_wp2
        go_roundw
        case rel => exact ⟨l ++ [T], A4, _, by rw [List.length_append, ← HLN.out]; simp; omega, rfl, by rw [List.length_append, ← HLN.out]; simp, hA4, by rw [List.length_append, ← HLN.out]; exact HM4, S6, HO6⟩
        case measure => simp [intOf]; omega
      · have hnlt : ¬ (ln : Int) < (N : Int) := by omega
        have HX4 : Hid (readM (hdX 20) (N : Int).toNat (xs.drop A3) = some (l, xs.drop AA)) := Lib.hid (by rw [Int.toNat_natCast, ← HM.out, ← HLN.out]; congr 1; omega)
        clear hlt HM
        go_wp2_with fail
        clear hsk3 hnlt
        refine (rnumAt_any 400 _ xs AA (by omega) wr ((HB.out.ext S3.out.e).drop (by omega)) (by omega)).mono ?_
        rintro e wq ⟨rfl, quo, k5, A5, rfl, hBk, hBl, hni, hq⟩
        obtain ⟨hni1, hni2⟩ := hni
        rcases hq with ⟨hno, hq⟩ | ⟨hkz, hn0, hn1, hyes⟩
        · have HF : Hid (readI xs = none) := Lib.hid (readI_n5 (a := (nm, xs.drop A1)) HX1.out (b := (0, xs.drop A2)) HX2.out (c := ((N : Int), xs.drop A3)) HX3.out (d := (l, xs.drop AA)) HX4.out hno)
          clear hno
          rcases hq with rfl | ⟨hkz, hn0⟩ | ⟨hkz, hn0, hn1⟩
          · have ⟨p0, p1, p2, p3, p4, p5⟩ := S3.out.p.six
            have ⟨q0, q1, q2, q3, q4, q5⟩ := S3.out.v.six
            have r0 := S3.out.p.free 0
            have r1 := S3.out.p.free 1
            have r2 := S3.out.p.free 2
            have r3 := S3.out.p.free 3
            have r4 := S3.out.p.free 4
            have r5 := S3.out.p.free 5
            go_wp2
            obtain ⟨y1, y2⟩ := rread9_exit (xs := xs) S3.out.e S3.out.p ⟨nm, 0, l, [], 0, 0⟩ (.slice ad ln cd) (.string (str nm)) (.int .u8 0) (.slice ad ln cd) (.string { data := #[] }) (.int .i64 0) (.int .i64 0) (.int .i64 0) rfl (HO.out.mono (by omega)) HW2.out 0 rfl (by rw [HF.out])
            change bodyPost _ _ _ _ _ (set6W wr w.heap.size (.string (str nm)) (.int .u8 0) (.slice ad ln cd) (.string { data := #[] }) (.int .i64 0) (.int .i64 0))
            generalize set6W wr w.heap.size (.string (str nm)) (.int .u8 0) (.slice ad ln cd) (.string { data := #[] }) (.int .i64 0) (.int .i64 0) = Wn at *
            obtain ⟨g0, g1, g2, g3, g4, g5⟩ := y1.six
            refine bodyPost_ret (v := .tuple #[.agg #[.string (str nm), .int .u8 0, .slice ad ln cd, .string { data := #[] }, .int .i64 0, .int .i64 0], .int .i64 0]) (by simp [results, Tryz.results132, go_sem, g0, g1, g2, g3, g4, g5]) rfl ?_
            exact y2
          · have ⟨p0, p1, p2, p3, p4, p5⟩ := S3.out.p.six
            have ⟨q0, q1, q2, q3, q4, q5⟩ := S3.out.v.six
            have r0 := S3.out.p.free 0
            have r1 := S3.out.p.free 1
            have r2 := S3.out.p.free 2
            have r3 := S3.out.p.free 3
            have r4 := S3.out.p.free 4
            have r5 := S3.out.p.free 5
            go_wp2
            obtain ⟨y1, y2⟩ := rread9_exit (xs := xs) S3.out.e S3.out.p ⟨nm, 0, l, [], 0, 0⟩ (.slice ad ln cd) (.string (str nm)) (.int .u8 0) (.slice ad ln cd) (.string { data := #[] }) (.int .i64 0) (.int .i64 0) (.int .i64 0) rfl (HO.out.mono (by omega)) HW2.out 0 rfl (by rw [HF.out])
            change bodyPost _ _ _ _ _ (set6W wr w.heap.size (.string (str nm)) (.int .u8 0) (.slice ad ln cd) (.string { data := #[] }) (.int .i64 0) (.int .i64 0))
            generalize set6W wr w.heap.size (.string (str nm)) (.int .u8 0) (.slice ad ln cd) (.string { data := #[] }) (.int .i64 0) (.int .i64 0) = Wn at *
            obtain ⟨g0, g1, g2, g3, g4, g5⟩ := y1.six
            refine bodyPost_ret (v := .tuple #[.agg #[.string (str nm), .int .u8 0, .slice ad ln cd, .string { data := #[] }, .int .i64 0, .int .i64 0], .int .i64 0]) (by simp [results, Tryz.results132, go_sem, g0, g1, g2, g3, g4, g5]) rfl ?_
            exact y2
          · have ⟨p0, p1, p2, p3, p4, p5⟩ := S3.out.p.six
            have ⟨q0, q1, q2, q3, q4, q5⟩ := S3.out.v.six
            have r0 := S3.out.p.free 0
            have r1 := S3.out.p.free 1
            have r2 := S3.out.p.free 2
            have r3 := S3.out.p.free 3
            have r4 := S3.out.p.free 4
            have r5 := S3.out.p.free 5
            go_wp2
            obtain ⟨y1, y2⟩ := rread9_exit (xs := xs) S3.out.e S3.out.p ⟨nm, 0, l, [], 0, 0⟩ (.slice ad ln cd) (.string (str nm)) (.int .u8 0) (.slice ad ln cd) (.string { data := #[] }) (.int .i64 0) (.int .i64 0) (.int .i64 0) rfl (HO.out.mono (by omega)) HW2.out 0 rfl (by rw [HF.out])
            change bodyPost _ _ _ _ _ (set6W wr w.heap.size (.string (str nm)) (.int .u8 0) (.slice ad ln cd) (.string { data := #[] }) (.int .i64 0) (.int .i64 0))
            generalize set6W wr w.heap.size (.string (str nm)) (.int .u8 0) (.slice ad ln cd) (.string { data := #[] }) (.int .i64 0) (.int .i64 0) = Wn at *
            obtain ⟨g0, g1, g2, g3, g4, g5⟩ := y1.six
            refine bodyPost_ret (v := .tuple #[.agg #[.string (str nm), .int .u8 0, .slice ad ln cd, .string { data := #[] }, .int .i64 0, .int .i64 0], .int .i64 0]) (by simp [results, Tryz.results132, go_sem, g0, g1, g2, g3, g4, g5]) rfl ?_
            exact y2
        have HX5 := Lib.hid hyes
        have hA5 := hBl
        have hadd5 : IntKind.i64.wrap ((AA : Int) + (k5 : Int)) = (A5 : Int) := by rw [IntWalk.i64_in _ (by omega)]; omega
        have hsk5 := fun w' => slice_from a xs.length cap (A5 : Int) (by omega) (by omega) w'
        rw [Int.toNat_natCast] at hsk5
        have HW3 : Hid (itWf ⟨nm, 0, l, [], 0, quo⟩) := Lib.hid ⟨HNM.out, by simp, by unfold isI64; simp, by unfold isI64; exact ⟨hni1, hni2⟩⟩
        have hA50 : 0 < A5 := by simp at hkz; omega
        clear hyes hBk hBl
        have ⟨q0, q1, q2, q3, q4, q5⟩ := S3.out.v.six
        have s5 := S3.out.v.free 5
        have S7 : Hid (RS9 w (wr.setCell ⟨w.heap.size + 1, 5, none⟩ (.int .i64 quo)) [.string (str nm), .int .u8 0, .slice ad ln cd, .string { data := #[] }, .int .i64 0, .int .i64 quo]) := Lib.hid (S3.out.set 5 (by simp) _)
        have HO7 : Hid (OwnS 9 (w.heap.size + 2) (wr.setCell ⟨w.heap.size + 1, 5, none⟩ (.int .i64 quo)) (.slice ad ln cd) l) := Lib.hid (HO.out.far (by omega) 5 _)
        have hlt3 := S3.out.v.lt
        have HF : Hid (readI xs = some (⟨nm, 0, l, [], 0, quo⟩, xs.drop A5)) := Lib.hid (readI_task (a := (nm, xs.drop A1)) HX1.out (b := (0, xs.drop A2)) HX2.out (c := ((N : Int), xs.drop A3)) HX3.out (d := (l, xs.drop AA)) HX4.out (e := (quo, xs.drop A5)) HX5.out rfl)
        go_upto_region 26 with (fail)
        generalize wr.setCell ⟨w.heap.size + 1, 5, none⟩ (.int .i64 quo) = W7 at *
        clear q0 q1 q2 q3 q4 q5 s5
        clear hlt3 hkz hn0 hn1
        have ⟨p0, p1, p2, p3, p4, p5⟩ := S7.out.p.six
        have ⟨q0, q1, q2, q3, q4, q5⟩ := S7.out.v.six
        have r0 := S7.out.p.free 0
        have r1 := S7.out.p.free 1
        have r2 := S7.out.p.free 2
        have r3 := S7.out.p.free 3
        have r4 := S7.out.p.free 4
        have r5 := S7.out.p.free 5
        go_wp2
        obtain ⟨y1, y2⟩ := rread9_exit (xs := xs) S7.out.e S7.out.p ⟨nm, 0, l, [], 0, quo⟩ (.slice ad ln cd) (.string (str nm)) (.int .u8 0) (.slice ad ln cd) (.string { data := #[] }) (.int .i64 0) (.int .i64 quo) (.int .i64 (A5 : Int)) rfl (HO7.out.mono (by omega)) HW3.out A5 rfl (by rw [HF.out]; exact ⟨rfl, hA50, hA5, rfl⟩)
        change bodyPost _ _ _ _ _ (set6W W7 w.heap.size (.string (str nm)) (.int .u8 0) (.slice ad ln cd) (.string { data := #[] }) (.int .i64 0) (.int .i64 quo))
        generalize set6W W7 w.heap.size (.string (str nm)) (.int .u8 0) (.slice ad ln cd) (.string { data := #[] }) (.int .i64 0) (.int .i64 quo) = Wn at *
        obtain ⟨g0, g1, g2, g3, g4, g5⟩ := y1.six
        refine bodyPost_ret (v := .tuple #[.agg #[.string (str nm), .int .u8 0, .slice ad ln cd, .string { data := #[] }, .int .i64 0, .int .i64 quo], .int .i64 (A5 : Int)]) (by simp [results, Tryz.results132, go_sem, g0, g1, g2, g3, g4, g5]) rfl ?_
        exact y2
  · have HX2 := Lib.hid hyes
    have hA2 := hBl
    have hadd2 : IntKind.i64.wrap ((A1 : Int) + (k2 : Int)) = (A2 : Int) := by rw [IntWalk.i64_in _ (by omega)]; omega
    have hsk2 := fun w' => slice_from a xs.length cap (A2 : Int) (by omega) (by omega) w'
    rw [Int.toNat_natCast] at hsk2
    clear hyes hBk hBl hsk1
    have ⟨q0, q1, q2, q3, q4, q5⟩ := S1.out.v.six
    have s0 := S1.out.v.free 0
    have s1 := S1.out.v.free 1
    have S2 : Hid (RS9 w ((W1.setCell ⟨w.heap.size + 1, 0, none⟩ (.string (str nm))).setCell ⟨w.heap.size + 1, 1, none⟩ (.int .u8 1)) [.string (str nm), .int .u8 1, .slice none 0 0, .string { data := #[] }, .int .i64 0, .int .i64 0]) := Lib.hid ((S1.out.set 0 (by simp) _).set 1 (by simp) _)
    have HW1 : Hid (itWf ⟨nm, 1, [], [], 0, 0⟩) := Lib.hid ⟨HNM.out, by simp, by unfold isI64; simp, by unfold isI64; simp⟩
    go_wp2_with fail
    generalize (W1.setCell ⟨w.heap.size + 1, 0, none⟩ (.string (str nm))).setCell ⟨w.heap.size + 1, 1, none⟩ (.int .u8 1) = W2 at *
    clear S1 hkz hn0 hn1 hadd2
    clear q0 q1 q2 q3 q4 q5 s0 s1
    refine (rnumAt_any 20 _ xs A2 (by omega) W2 ((HB.out.ext S2.out.e).drop (by omega)) (by omega)).mono ?_
    rintro e wq ⟨rfl, many, k3, A3, rfl, hBk, hBl, hni, hq⟩
    obtain ⟨hni1, hni2⟩ := hni
    rcases hq with ⟨hno, hq⟩ | ⟨hkz, hn0, hn1, hyes⟩
    · have HF : Hid (readI xs = none) := Lib.hid (readI_n3 (a := (nm, xs.drop A1)) HX1.out (b := (1, xs.drop A2)) HX2.out hno)
      clear hno
      rcases hq with rfl | ⟨hkz, hn0⟩ | ⟨hkz, hn0, hn1⟩
      · have ⟨p0, p1, p2, p3, p4, p5⟩ := S2.out.p.six
        have ⟨q0, q1, q2, q3, q4, q5⟩ := S2.out.v.six
        have r0 := S2.out.p.free 0
        have r1 := S2.out.p.free 1
        have r2 := S2.out.p.free 2
        have r3 := S2.out.p.free 3
        have r4 := S2.out.p.free 4
        have r5 := S2.out.p.free 5
        go_wp2
        obtain ⟨y1, y2⟩ := rread9_exit (xs := xs) S2.out.e S2.out.p ⟨nm, 1, [], [], 0, 0⟩ (.slice none 0 0) (.string (str nm)) (.int .u8 1) (.slice none 0 0) (.string { data := #[] }) (.int .i64 0) (.int .i64 0) (.int .i64 0) rfl (OwnS.nil _ _ _) HW1.out 0 rfl (by rw [HF.out])
        change bodyPost _ _ _ _ _ (set6W W2 w.heap.size (.string (str nm)) (.int .u8 1) (.slice none 0 0) (.string { data := #[] }) (.int .i64 0) (.int .i64 0))
        generalize set6W W2 w.heap.size (.string (str nm)) (.int .u8 1) (.slice none 0 0) (.string { data := #[] }) (.int .i64 0) (.int .i64 0) = Wn at *
        obtain ⟨g0, g1, g2, g3, g4, g5⟩ := y1.six
        refine bodyPost_ret (v := .tuple #[.agg #[.string (str nm), .int .u8 1, .slice none 0 0, .string { data := #[] }, .int .i64 0, .int .i64 0], .int .i64 0]) (by simp [results, Tryz.results132, go_sem, g0, g1, g2, g3, g4, g5]) rfl ?_
        exact y2
      · have ⟨p0, p1, p2, p3, p4, p5⟩ := S2.out.p.six
        have ⟨q0, q1, q2, q3, q4, q5⟩ := S2.out.v.six
        have r0 := S2.out.p.free 0
        have r1 := S2.out.p.free 1
        have r2 := S2.out.p.free 2
        have r3 := S2.out.p.free 3
        have r4 := S2.out.p.free 4
        have r5 := S2.out.p.free 5
        go_wp2
        obtain ⟨y1, y2⟩ := rread9_exit (xs := xs) S2.out.e S2.out.p ⟨nm, 1, [], [], 0, 0⟩ (.slice none 0 0) (.string (str nm)) (.int .u8 1) (.slice none 0 0) (.string { data := #[] }) (.int .i64 0) (.int .i64 0) (.int .i64 0) rfl (OwnS.nil _ _ _) HW1.out 0 rfl (by rw [HF.out])
        change bodyPost _ _ _ _ _ (set6W W2 w.heap.size (.string (str nm)) (.int .u8 1) (.slice none 0 0) (.string { data := #[] }) (.int .i64 0) (.int .i64 0))
        generalize set6W W2 w.heap.size (.string (str nm)) (.int .u8 1) (.slice none 0 0) (.string { data := #[] }) (.int .i64 0) (.int .i64 0) = Wn at *
        obtain ⟨g0, g1, g2, g3, g4, g5⟩ := y1.six
        refine bodyPost_ret (v := .tuple #[.agg #[.string (str nm), .int .u8 1, .slice none 0 0, .string { data := #[] }, .int .i64 0, .int .i64 0], .int .i64 0]) (by simp [results, Tryz.results132, go_sem, g0, g1, g2, g3, g4, g5]) rfl ?_
        exact y2
      · have ⟨p0, p1, p2, p3, p4, p5⟩ := S2.out.p.six
        have ⟨q0, q1, q2, q3, q4, q5⟩ := S2.out.v.six
        have r0 := S2.out.p.free 0
        have r1 := S2.out.p.free 1
        have r2 := S2.out.p.free 2
        have r3 := S2.out.p.free 3
        have r4 := S2.out.p.free 4
        have r5 := S2.out.p.free 5
        go_wp2
        obtain ⟨y1, y2⟩ := rread9_exit (xs := xs) S2.out.e S2.out.p ⟨nm, 1, [], [], 0, 0⟩ (.slice none 0 0) (.string (str nm)) (.int .u8 1) (.slice none 0 0) (.string { data := #[] }) (.int .i64 0) (.int .i64 0) (.int .i64 0) rfl (OwnS.nil _ _ _) HW1.out 0 rfl (by rw [HF.out])
        change bodyPost _ _ _ _ _ (set6W W2 w.heap.size (.string (str nm)) (.int .u8 1) (.slice none 0 0) (.string { data := #[] }) (.int .i64 0) (.int .i64 0))
        generalize set6W W2 w.heap.size (.string (str nm)) (.int .u8 1) (.slice none 0 0) (.string { data := #[] }) (.int .i64 0) (.int .i64 0) = Wn at *
        obtain ⟨g0, g1, g2, g3, g4, g5⟩ := y1.six
        refine bodyPost_ret (v := .tuple #[.agg #[.string (str nm), .int .u8 1, .slice none 0 0, .string { data := #[] }, .int .i64 0, .int .i64 0], .int .i64 0]) (by simp [results, Tryz.results132, go_sem, g0, g1, g2, g3, g4, g5]) rfl ?_
        exact y2
    obtain ⟨N, rfl⟩ : ∃ N : Nat, many = (N : Int) := ⟨many.toNat, by omega⟩
    have HX3 := Lib.hid hyes
    have hA3 := hBl
    have hN20 : N ≤ 20 := by omega
    have hadd3 : IntKind.i64.wrap ((A2 : Int) + (k3 : Int)) = (A3 : Int) := by rw [IntWalk.i64_in _ (by omega)]; omega
    clear hyes hBk hBl hsk2
    go_wp2_with fail
    clear hkz hn0 hn1
    go_loopw [6, 11] (fun A i wr => ∃ (l : List (List UInt8)) (AA : Nat) (dv : Value), l.length ≤ N ∧ A = .int .i64 AA ∧ i = .int .i64 l.length ∧ AA ≤ xs.length ∧ Hid (readM (hdX 20) l.length (xs.drop A3) = some (l, xs.drop AA)) ∧ Hid (RS9 w wr [.string (str nm), .int .u8 1, dv, .string { data := #[] }, .int .i64 0, .int .i64 0]) ∧ Hid (OwnS 9 (w.heap.size + 2) wr dv l)) (fun _ i _ => N - (intOf i).toNat)
    case atStart => exact ⟨[], A3, _, by simp, rfl, by go_num, hA3, Lib.hid rfl, S2, Lib.hid (OwnS.nil _ _ _)⟩
    case round =>
      clear S2 hadd3
      obtain ⟨l, AA, dv, hl, rfl, rfl, hAA, HM, S3, HO⟩ := hrel
      obtain ⟨ad, cd, rfl⟩ : ∃ a cap, dv = .slice a l.length cap := by
        obtain ⟨aa, cc, hh, -⟩ := HO.out.row.slice
        exact ⟨aa, cc, hh⟩
      have HW2 : Hid (itWf ⟨nm, 1, l, [], 0, 0⟩) := Lib.hid HW1.out
      obtain ⟨ln, hln⟩ : ∃ ln, ln = l.length := ⟨_, rfl⟩
      have HLN := Lib.hid hln
      rw [← hln] at hl HO S3 ⊢
      clear hln
      have hsk3 := fun w' => slice_from a xs.length cap (AA : Int) (by omega) (by omega) w'
      rw [Int.toNat_natCast] at hsk3
      by_cases hlt : ln < N
      · have hlti : (ln : Int) < (N : Int) := by omega
        go_wp2_with fail
        refine (rtextAt_any _ xs AA (by omega) wr ((HB.out.ext S3.out.e).drop (by omega)) (by omega)).mono ?_
        rintro e wq ⟨rfl, hq⟩
        rcases hq with ⟨hno, rfl⟩ | ⟨T, k4, A4, hyes, hBk, hBl, hk0, hsl, rfl⟩
        · have HF : Hid (readI xs = none) := Lib.hid (readI_n4 (a := (nm, xs.drop A1)) HX1.out (b := (1, xs.drop A2)) HX2.out (c := ((N : Int), xs.drop A3)) HX3.out (readM_none (i := ln + 1) _ (by rw [readM_snoc, HLN.out, HM.out, Option.bind_some, hno]; rfl) (by rw [Int.toNat_natCast]; omega)))
          clear hno
          have ⟨p0, p1, p2, p3, p4, p5⟩ := S3.out.p.six
          have ⟨q0, q1, q2, q3, q4, q5⟩ := S3.out.v.six
          have r0 := S3.out.p.free 0
          have r1 := S3.out.p.free 1
          have r2 := S3.out.p.free 2
          have r3 := S3.out.p.free 3
          have r4 := S3.out.p.free 4
          have r5 := S3.out.p.free 5
          go_wp2
          obtain ⟨y1, y2⟩ := rread9_exit (xs := xs) S3.out.e S3.out.p ⟨nm, 1, l, [], 0, 0⟩ (.slice ad ln cd) (.string (str nm)) (.int .u8 1) (.slice ad ln cd) (.string { data := #[] }) (.int .i64 0) (.int .i64 0) (.int .i64 0) rfl (HO.out.mono (by omega)) HW2.out 0 rfl (by rw [HF.out])
          change bodyPost _ _ _ _ _ (set6W wr w.heap.size (.string (str nm)) (.int .u8 1) (.slice ad ln cd) (.string { data := #[] }) (.int .i64 0) (.int .i64 0))
          generalize set6W wr w.heap.size (.string (str nm)) (.int .u8 1) (.slice ad ln cd) (.string { data := #[] }) (.int .i64 0) (.int .i64 0) = Wn at *
          obtain ⟨g0, g1, g2, g3, g4, g5⟩ := y1.six
          refine bodyPost_ret (v := .tuple #[.agg #[.string (str nm), .int .u8 1, .slice ad ln cd, .string { data := #[] }, .int .i64 0, .int .i64 0], .int .i64 0]) (by simp [results, Tryz.results132, go_sem, g0, g1, g2, g3, g4, g5]) rfl ?_
          exact y2
        have HM4 : Hid (readM (hdX 20) (ln + 1) (xs.drop A3) = some (l ++ [T], xs.drop A4)) := Lib.hid (by rw [readM_snoc, HLN.out, HM.out, Option.bind_some, hyes]; rfl)
        have hA4 := hBl
        have HTl := Lib.hid hsl
        have hadd4 : IntKind.i64.wrap ((AA : Int) + (k4 : Int)) = (A4 : Int) := by rw [IntWalk.i64_in _ (by omega)]; omega
        have ⟨q0, q1, q2, q3, q4, q5⟩ := S3.out.v.six
        have s2 := S3.out.v.free 2
        have hlt3 := S3.out.v.lt
        have hrow := HO.out.1
        rw [← HLN.out] at hrow
        have hE4 := (Ext.refl wr).alloc (.cells #[.string (str T)] 9)
        have HOr : Hid ((wr.alloc (.cells #[.string (str T)] 9)).ownsRow (w.heap.size + 2) 9 1 (.slice ad ln cd) ln (l.map strV)) := Lib.hid (hE4.own hrow)
        have HNb : Hid ((wr.alloc (.cells #[.string (str T)] 9)).heap[wr.heap.size]? = some (.cells [.string (str T)].toArray 9 (0, 0))) := Lib.hid (heap_alloc_new wr _)
        have S4 := Lib.hid (S3.out.ext hE4)
        have hz4 := hE4.size
        have HOL2 := Lib.hid HO.out.2
        have HBK := Lib.hid (HO.out.block)
        clear hE4 hrow hyes hBk hBl hk0 hsl HO
        go_wp2_with (at_builtin; refine wpList_appOne elem_string rfl _ _ rfl rfl HOr.out rfl HNb.out rfl (by simp [Value.oneCell']) (by omega) (by omega) (by omega) ?_)
        intro v4 w4 hown4 hg4 hat4
        have HO4 : Hid (OwnS 9 (w.heap.size + 2) w4 v4 (l ++ [T])) := Lib.hid (OwnS.snoc (by rw [← HLN.out]; exact hown4) HOL2.out HTl.out)
        obtain ⟨a4, c4, hv4, -⟩ := HO4.out.row.slice
        obtain ⟨m4, hm4⟩ : ∃ m4, m4 = (l ++ [T]).length := ⟨_, rfl⟩
        rw [← hm4] at hv4
        clear hm4
        subst hv4
        have S5 := Lib.hid (S4.out.kept hg4 (fun b hb => (HBK.out b hb).1))
        clear hown4 hg4 hat4 HOr HNb q0 q1 q2 q3 q4 q5 s2
        have ⟨q0, q1, q2, q3, q4, q5⟩ := S5.out.v.six
        have s2 := S5.out.v.free 2
        have S6 : Hid (RS9 w (w4.setCell ⟨w.heap.size + 1, 2, none⟩ (.slice a4 m4 c4)) [.string (str nm), .int .u8 1, .slice a4 m4 c4, .string { data := #[] }, .int .i64 0, .int .i64 0]) := Lib.hid (S5.out.set 2 (by simp) _)
        have HO6 : Hid (OwnS 9 (w.heap.size + 2) (w4.setCell ⟨w.heap.size + 1, 2, none⟩ (.slice a4 m4 c4)) (.slice a4 m4 c4) (l ++ [T])) := Lib.hid (HO4.out.far (by omega) 2 _)
        have hlt5 := S5.out.v.lt
        go_wp2
        go_roundw
        case rel => exact ⟨l ++ [T], A4, _, by rw [List.length_append, ← HLN.out]; simp; omega, rfl, by rw [List.length_append, ← HLN.out]; simp, hA4, by rw [List.length_append, ← HLN.out]; exact HM4, S6, HO6⟩
        case measure => simp [intOf]; omega
      · have hnlt : ¬ (ln : Int) < (N : Int) := by omega
        have HX4 : Hid (readM (hdX 20) (N : Int).toNat (xs.drop A3) = some (l, xs.drop AA)) := Lib.hid (by rw [Int.toNat_natCast, ← HM.out, ← HLN.out]; congr 1; omega)
        clear hlt HM
        go_wp2_with fail
        clear hsk3 hnlt
        refine (rnumAt_any 400 _ xs AA (by omega) wr ((HB.out.ext S3.out.e).drop (by omega)) (by omega)).mono ?_
        rintro e wq ⟨rfl, quo, k5, A5, rfl, hBk, hBl, hni, hq⟩
        obtain ⟨hni1, hni2⟩ := hni
        rcases hq with ⟨hno, hq⟩ | ⟨hkz, hn0, hn1, hyes⟩
        · have HF : Hid (readI xs = none) := Lib.hid (readI_n5 (a := (nm, xs.drop A1)) HX1.out (b := (1, xs.drop A2)) HX2.out (c := ((N : Int), xs.drop A3)) HX3.out (d := (l, xs.drop AA)) HX4.out hno)
          clear hno
          rcases hq with rfl | ⟨hkz, hn0⟩ | ⟨hkz, hn0, hn1⟩
          · have ⟨p0, p1, p2, p3, p4, p5⟩ := S3.out.p.six
            have ⟨q0, q1, q2, q3, q4, q5⟩ := S3.out.v.six
            have r0 := S3.out.p.free 0
            have r1 := S3.out.p.free 1
            have r2 := S3.out.p.free 2
            have r3 := S3.out.p.free 3
            have r4 := S3.out.p.free 4
            have r5 := S3.out.p.free 5
            go_wp2
            obtain ⟨y1, y2⟩ := rread9_exit (xs := xs) S3.out.e S3.out.p ⟨nm, 1, l, [], 0, 0⟩ (.slice ad ln cd) (.string (str nm)) (.int .u8 1) (.slice ad ln cd) (.string { data := #[] }) (.int .i64 0) (.int .i64 0) (.int .i64 0) rfl (HO.out.mono (by omega)) HW2.out 0 rfl (by rw [HF.out])
            change bodyPost _ _ _ _ _ (set6W wr w.heap.size (.string (str nm)) (.int .u8 1) (.slice ad ln cd) (.string { data := #[] }) (.int .i64 0) (.int .i64 0))
            generalize set6W wr w.heap.size (.string (str nm)) (.int .u8 1) (.slice ad ln cd) (.string { data := #[] }) (.int .i64 0) (.int .i64 0) = Wn at *
            obtain ⟨g0, g1, g2, g3, g4, g5⟩ := y1.six
            refine bodyPost_ret (v := .tuple #[.agg #[.string (str nm), .int .u8 1, .slice ad ln cd, .string { data := #[] }, .int .i64 0, .int .i64 0], .int .i64 0]) (by simp [results, Tryz.results132, go_sem, g0, g1, g2, g3, g4, g5]) rfl ?_
            exact y2
          · have ⟨p0, p1, p2, p3, p4, p5⟩ := S3.out.p.six
            have ⟨q0, q1, q2, q3, q4, q5⟩ := S3.out.v.six
            have r0 := S3.out.p.free 0
            have r1 := S3.out.p.free 1
            have r2 := S3.out.p.free 2
            have r3 := S3.out.p.free 3
            have r4 := S3.out.p.free 4
            have r5 := S3.out.p.free 5
            go_wp2
            obtain ⟨y1, y2⟩ := rread9_exit (xs := xs) S3.out.e S3.out.p ⟨nm, 1, l, [], 0, 0⟩ (.slice ad ln cd) (.string (str nm)) (.int .u8 1) (.slice ad ln cd) (.string { data := #[] }) (.int .i64 0) (.int .i64 0) (.int .i64 0) rfl (HO.out.mono (by omega)) HW2.out 0 rfl (by rw [HF.out])
            change bodyPost _ _ _ _ _ (set6W wr w.heap.size (.string (str nm)) (.int .u8 1) (.slice ad ln cd) (.string { data := #[] }) (.int .i64 0) (.int .i64 0))
            generalize set6W wr w.heap.size (.string (str nm)) (.int .u8 1) (.slice ad ln cd) (.string { data := #[] }) (.int .i64 0) (.int .i64 0) = Wn at *
            obtain ⟨g0, g1, g2, g3, g4, g5⟩ := y1.six
            refine bodyPost_ret (v := .tuple #[.agg #[.string (str nm), .int .u8 1, .slice ad ln cd, .string { data := #[] }, .int .i64 0, .int .i64 0], .int .i64 0]) (by simp [results, Tryz.results132, go_sem, g0, g1, g2, g3, g4, g5]) rfl ?_
            exact y2
          · have ⟨p0, p1, p2, p3, p4, p5⟩ := S3.out.p.six
            have ⟨q0, q1, q2, q3, q4, q5⟩ := S3.out.v.six
            have r0 := S3.out.p.free 0
            have r1 := S3.out.p.free 1
            have r2 := S3.out.p.free 2
            have r3 := S3.out.p.free 3
            have r4 := S3.out.p.free 4
            have r5 := S3.out.p.free 5
            go_wp2
            obtain ⟨y1, y2⟩ := rread9_exit (xs := xs) S3.out.e S3.out.p ⟨nm, 1, l, [], 0, 0⟩ (.slice ad ln cd) (.string (str nm)) (.int .u8 1) (.slice ad ln cd) (.string { data := #[] }) (.int .i64 0) (.int .i64 0) (.int .i64 0) rfl (HO.out.mono (by omega)) HW2.out 0 rfl (by rw [HF.out])
            change bodyPost _ _ _ _ _ (set6W wr w.heap.size (.string (str nm)) (.int .u8 1) (.slice ad ln cd) (.string { data := #[] }) (.int .i64 0) (.int .i64 0))
            generalize set6W wr w.heap.size (.string (str nm)) (.int .u8 1) (.slice ad ln cd) (.string { data := #[] }) (.int .i64 0) (.int .i64 0) = Wn at *
            obtain ⟨g0, g1, g2, g3, g4, g5⟩ := y1.six
            refine bodyPost_ret (v := .tuple #[.agg #[.string (str nm), .int .u8 1, .slice ad ln cd, .string { data := #[] }, .int .i64 0, .int .i64 0], .int .i64 0]) (by simp [results, Tryz.results132, go_sem, g0, g1, g2, g3, g4, g5]) rfl ?_
            exact y2
        have HX5 := Lib.hid hyes
        have hA5 := hBl
        have hadd5 : IntKind.i64.wrap ((AA : Int) + (k5 : Int)) = (A5 : Int) := by rw [IntWalk.i64_in _ (by omega)]; omega
        have hsk5 := fun w' => slice_from a xs.length cap (A5 : Int) (by omega) (by omega) w'
        rw [Int.toNat_natCast] at hsk5
        have HW3 : Hid (itWf ⟨nm, 1, l, [], 0, quo⟩) := Lib.hid ⟨HNM.out, by simp, by unfold isI64; simp, by unfold isI64; exact ⟨hni1, hni2⟩⟩
        have hA50 : 0 < A5 := by simp at hkz; omega
        clear hyes hBk hBl
        have ⟨q0, q1, q2, q3, q4, q5⟩ := S3.out.v.six
        have s5 := S3.out.v.free 5
        have S7 : Hid (RS9 w (wr.setCell ⟨w.heap.size + 1, 5, none⟩ (.int .i64 quo)) [.string (str nm), .int .u8 1, .slice ad ln cd, .string { data := #[] }, .int .i64 0, .int .i64 quo]) := Lib.hid (S3.out.set 5 (by simp) _)
        have HO7 : Hid (OwnS 9 (w.heap.size + 2) (wr.setCell ⟨w.heap.size + 1, 5, none⟩ (.int .i64 quo)) (.slice ad ln cd) l) := Lib.hid (HO.out.far (by omega) 5 _)
        have hlt3 := S3.out.v.lt
        go_wp2_with fail
        generalize wr.setCell ⟨w.heap.size + 1, 5, none⟩ (.int .i64 quo) = W7 at *
        clear q0 q1 q2 q3 q4 q5 s5
        clear hlt3 hsk5 hkz hn0 hn1
        refine (rtextAt_any _ xs A5 (by omega) W7 ((HB.out.ext S7.out.e).drop (by omega)) (by omega)).mono ?_
        rintro e wq ⟨rfl, hq⟩
        rcases hq with ⟨hno, rfl⟩ | ⟨ov, k6, A6, hyes, hBk, hBl, hk0, hsl, rfl⟩
        · have HF : Hid (readI xs = none) := Lib.hid (readI_n6 (a := (nm, xs.drop A1)) HX1.out (b := (1, xs.drop A2)) HX2.out (c := ((N : Int), xs.drop A3)) HX3.out (d := (l, xs.drop AA)) HX4.out (e := (quo, xs.drop A5)) HX5.out (by simp) hno)
          clear hno
          have ⟨p0, p1, p2, p3, p4, p5⟩ := S7.out.p.six
          have ⟨q0, q1, q2, q3, q4, q5⟩ := S7.out.v.six
          have r0 := S7.out.p.free 0
          have r1 := S7.out.p.free 1
          have r2 := S7.out.p.free 2
          have r3 := S7.out.p.free 3
          have r4 := S7.out.p.free 4
          have r5 := S7.out.p.free 5
          go_wp2
          obtain ⟨y1, y2⟩ := rread9_exit (xs := xs) S7.out.e S7.out.p ⟨nm, 1, l, [], 0, quo⟩ (.slice ad ln cd) (.string (str nm)) (.int .u8 1) (.slice ad ln cd) (.string { data := #[] }) (.int .i64 0) (.int .i64 quo) (.int .i64 0) rfl (HO7.out.mono (by omega)) HW3.out 0 rfl (by rw [HF.out])
          change bodyPost _ _ _ _ _ (set6W W7 w.heap.size (.string (str nm)) (.int .u8 1) (.slice ad ln cd) (.string { data := #[] }) (.int .i64 0) (.int .i64 quo))
          generalize set6W W7 w.heap.size (.string (str nm)) (.int .u8 1) (.slice ad ln cd) (.string { data := #[] }) (.int .i64 0) (.int .i64 quo) = Wn at *
          obtain ⟨g0, g1, g2, g3, g4, g5⟩ := y1.six
          refine bodyPost_ret (v := .tuple #[.agg #[.string (str nm), .int .u8 1, .slice ad ln cd, .string { data := #[] }, .int .i64 0, .int .i64 quo], .int .i64 0]) (by simp [results, Tryz.results132, go_sem, g0, g1, g2, g3, g4, g5]) rfl ?_
          exact y2
        have HX6 := Lib.hid hyes
        have hA6 := hBl
        have HOV := Lib.hid hsl
        have hadd6 : IntKind.i64.wrap ((A5 : Int) + (k6 : Int)) = (A6 : Int) := by rw [IntWalk.i64_in _ (by omega)]; omega
        have hsk6 := fun w' => slice_from a xs.length cap (A6 : Int) (by omega) (by omega) w'
        rw [Int.toNat_natCast] at hsk6
        clear hyes hBk hBl hk0 hsl hadd5
        go_wp2_with fail
        clear hsk6
        refine (rnumAt_any 40 _ xs A6 (by omega) W7 ((HB.out.ext S7.out.e).drop (by omega)) (by omega)).mono ?_
        rintro e wq ⟨rfl, wid, k7, A7, rfl, hBk, hBl, hni, hq⟩
        obtain ⟨hni1, hni2⟩ := hni
        rcases hq with ⟨hno, hq⟩ | ⟨hkz, hn0, hn1, hyes⟩
        · have HF : Hid (readI xs = none) := Lib.hid (readI_n7 (a := (nm, xs.drop A1)) HX1.out (b := (1, xs.drop A2)) HX2.out (c := ((N : Int), xs.drop A3)) HX3.out (d := (l, xs.drop AA)) HX4.out (e := (quo, xs.drop A5)) HX5.out (by simp) (f := (ov, xs.drop A6)) HX6.out hno)
          clear hno
          rcases hq with rfl | ⟨hkz, hn0⟩ | ⟨hkz, hn0, hn1⟩
          · have ⟨p0, p1, p2, p3, p4, p5⟩ := S7.out.p.six
            have ⟨q0, q1, q2, q3, q4, q5⟩ := S7.out.v.six
            have r0 := S7.out.p.free 0
            have r1 := S7.out.p.free 1
            have r2 := S7.out.p.free 2
            have r3 := S7.out.p.free 3
            have r4 := S7.out.p.free 4
            have r5 := S7.out.p.free 5
            go_wp2
            obtain ⟨y1, y2⟩ := rread9_exit (xs := xs) S7.out.e S7.out.p ⟨nm, 1, l, [], 0, quo⟩ (.slice ad ln cd) (.string (str nm)) (.int .u8 1) (.slice ad ln cd) (.string { data := #[] }) (.int .i64 0) (.int .i64 quo) (.int .i64 0) rfl (HO7.out.mono (by omega)) HW3.out 0 rfl (by rw [HF.out])
            change bodyPost _ _ _ _ _ (set6W W7 w.heap.size (.string (str nm)) (.int .u8 1) (.slice ad ln cd) (.string { data := #[] }) (.int .i64 0) (.int .i64 quo))
            generalize set6W W7 w.heap.size (.string (str nm)) (.int .u8 1) (.slice ad ln cd) (.string { data := #[] }) (.int .i64 0) (.int .i64 quo) = Wn at *
            obtain ⟨g0, g1, g2, g3, g4, g5⟩ := y1.six
            refine bodyPost_ret (v := .tuple #[.agg #[.string (str nm), .int .u8 1, .slice ad ln cd, .string { data := #[] }, .int .i64 0, .int .i64 quo], .int .i64 0]) (by simp [results, Tryz.results132, go_sem, g0, g1, g2, g3, g4, g5]) rfl ?_
            exact y2
          · have ⟨p0, p1, p2, p3, p4, p5⟩ := S7.out.p.six
            have ⟨q0, q1, q2, q3, q4, q5⟩ := S7.out.v.six
            have r0 := S7.out.p.free 0
            have r1 := S7.out.p.free 1
            have r2 := S7.out.p.free 2
            have r3 := S7.out.p.free 3
            have r4 := S7.out.p.free 4
            have r5 := S7.out.p.free 5
            go_wp2
            obtain ⟨y1, y2⟩ := rread9_exit (xs := xs) S7.out.e S7.out.p ⟨nm, 1, l, [], 0, quo⟩ (.slice ad ln cd) (.string (str nm)) (.int .u8 1) (.slice ad ln cd) (.string { data := #[] }) (.int .i64 0) (.int .i64 quo) (.int .i64 0) rfl (HO7.out.mono (by omega)) HW3.out 0 rfl (by rw [HF.out])
            change bodyPost _ _ _ _ _ (set6W W7 w.heap.size (.string (str nm)) (.int .u8 1) (.slice ad ln cd) (.string { data := #[] }) (.int .i64 0) (.int .i64 quo))
            generalize set6W W7 w.heap.size (.string (str nm)) (.int .u8 1) (.slice ad ln cd) (.string { data := #[] }) (.int .i64 0) (.int .i64 quo) = Wn at *
            obtain ⟨g0, g1, g2, g3, g4, g5⟩ := y1.six
            refine bodyPost_ret (v := .tuple #[.agg #[.string (str nm), .int .u8 1, .slice ad ln cd, .string { data := #[] }, .int .i64 0, .int .i64 quo], .int .i64 0]) (by simp [results, Tryz.results132, go_sem, g0, g1, g2, g3, g4, g5]) rfl ?_
            exact y2
          · have ⟨p0, p1, p2, p3, p4, p5⟩ := S7.out.p.six
            have ⟨q0, q1, q2, q3, q4, q5⟩ := S7.out.v.six
            have r0 := S7.out.p.free 0
            have r1 := S7.out.p.free 1
            have r2 := S7.out.p.free 2
            have r3 := S7.out.p.free 3
            have r4 := S7.out.p.free 4
            have r5 := S7.out.p.free 5
            go_wp2
            obtain ⟨y1, y2⟩ := rread9_exit (xs := xs) S7.out.e S7.out.p ⟨nm, 1, l, [], 0, quo⟩ (.slice ad ln cd) (.string (str nm)) (.int .u8 1) (.slice ad ln cd) (.string { data := #[] }) (.int .i64 0) (.int .i64 quo) (.int .i64 0) rfl (HO7.out.mono (by omega)) HW3.out 0 rfl (by rw [HF.out])
            change bodyPost _ _ _ _ _ (set6W W7 w.heap.size (.string (str nm)) (.int .u8 1) (.slice ad ln cd) (.string { data := #[] }) (.int .i64 0) (.int .i64 quo))
            generalize set6W W7 w.heap.size (.string (str nm)) (.int .u8 1) (.slice ad ln cd) (.string { data := #[] }) (.int .i64 0) (.int .i64 quo) = Wn at *
            obtain ⟨g0, g1, g2, g3, g4, g5⟩ := y1.six
            refine bodyPost_ret (v := .tuple #[.agg #[.string (str nm), .int .u8 1, .slice ad ln cd, .string { data := #[] }, .int .i64 0, .int .i64 quo], .int .i64 0]) (by simp [results, Tryz.results132, go_sem, g0, g1, g2, g3, g4, g5]) rfl ?_
            exact y2
        have hA7 := hBl
        have hadd7 : IntKind.i64.wrap ((A6 : Int) + (k7 : Int)) = (A7 : Int) := by rw [IntWalk.i64_in _ (by omega)]; omega
        have HF : Hid (readI xs = some (⟨nm, 1, l, ov, wid, quo⟩, xs.drop A7)) := Lib.hid (readI_map (a := (nm, xs.drop A1)) HX1.out (b := (1, xs.drop A2)) HX2.out (c := ((N : Int), xs.drop A3)) HX3.out (d := (l, xs.drop AA)) HX4.out (e := (quo, xs.drop A5)) HX5.out (by simp) (f := (ov, xs.drop A6)) HX6.out (g := (wid, xs.drop A7)) hyes)
        have HW4 : Hid (itWf ⟨nm, 1, l, ov, wid, quo⟩) := Lib.hid ⟨HNM.out, HOV.out, by unfold isI64; exact ⟨hni1, hni2⟩, HW3.out.2.2.2⟩
        have hA70 : 0 < A7 := by simp at hkz; omega
        clear hyes hBk hBl
        have ⟨q0, q1, q2, q3, q4, q5⟩ := S7.out.v.six
        have s3 := S7.out.v.free 3
        have s4 := S7.out.v.free 4
        have S8 : Hid (RS9 w ((W7.setCell ⟨w.heap.size + 1, 3, none⟩ (.string (str ov))).setCell ⟨w.heap.size + 1, 4, none⟩ (.int .i64 wid)) [.string (str nm), .int .u8 1, .slice ad ln cd, .string (str ov), .int .i64 wid, .int .i64 quo]) := Lib.hid ((S7.out.set 3 (by simp) _).set 4 (by simp) _)
        have HO8 : Hid (OwnS 9 (w.heap.size + 2) ((W7.setCell ⟨w.heap.size + 1, 3, none⟩ (.string (str ov))).setCell ⟨w.heap.size + 1, 4, none⟩ (.int .i64 wid)) (.slice ad ln cd) l) := Lib.hid ((HO7.out.far (by omega) 3 _).far (by omega) 4 _)
        have hlt7 := S7.out.v.lt
        go_upto_region 35 with (fail)
        generalize (W7.setCell ⟨w.heap.size + 1, 3, none⟩ (.string (str ov))).setCell ⟨w.heap.size + 1, 4, none⟩ (.int .i64 wid) = W8 at *
        clear hlt7
        clear q0 q1 q2 q3 q4 q5 s3 s4
        have ⟨p0, p1, p2, p3, p4, p5⟩ := S8.out.p.six
        have ⟨q0, q1, q2, q3, q4, q5⟩ := S8.out.v.six
        have r0 := S8.out.p.free 0
        have r1 := S8.out.p.free 1
        have r2 := S8.out.p.free 2
        have r3 := S8.out.p.free 3
        have r4 := S8.out.p.free 4
        have r5 := S8.out.p.free 5
        go_wp2
        obtain ⟨y1, y2⟩ := rread9_exit (xs := xs) S8.out.e S8.out.p ⟨nm, 1, l, ov, wid, quo⟩ (.slice ad ln cd) (.string (str nm)) (.int .u8 1) (.slice ad ln cd) (.string (str ov)) (.int .i64 wid) (.int .i64 quo) (.int .i64 (A7 : Int)) rfl (HO8.out.mono (by omega)) HW4.out A7 rfl (by rw [HF.out]; exact ⟨rfl, hA70, hA7, rfl⟩)
        change bodyPost _ _ _ _ _ (set6W W8 w.heap.size (.string (str nm)) (.int .u8 1) (.slice ad ln cd) (.string (str ov)) (.int .i64 wid) (.int .i64 quo))
        generalize set6W W8 w.heap.size (.string (str nm)) (.int .u8 1) (.slice ad ln cd) (.string (str ov)) (.int .i64 wid) (.int .i64 quo) = Wn at *
        obtain ⟨g0, g1, g2, g3, g4, g5⟩ := y1.six
        refine bodyPost_ret (v := .tuple #[.agg #[.string (str nm), .int .u8 1, .slice ad ln cd, .string (str ov), .int .i64 wid, .int .i64 quo], .int .i64 (A7 : Int)]) (by simp [results, Tryz.results132, go_sem, g0, g1, g2, g3, g4, g5]) rfl ?_
        exact y2
end Go.Proofs.YtdienbcjfljjnaaGreatDoor

/- The reference's Take of a fragment. -/
open Go.RowKit Go.Shelf
namespace Go.Proofs.YtdienbcjfljjnaaGreatDoor
open Go Go.Proofs Fm

/-- What the reference's Take comes to. -/
def RTake9 (xs : List UInt8) (w : World) (e : Ending) (w' : World) : Prop :=
  ∃ (a : Option Addr) (m c : Nat) (l : List It) (A : Nat), e = .returned (.tuple #[.slice a m c, .int .i64 (A : Int)]) ∧ Ext w w' ∧ OwnFF w.heap.size w' (.slice a m c) l ∧
    (takeF xs = none → l = [] ∧ A = 0) ∧ (∀ l' r, takeF xs = some (l', r) → l = l' ∧ 0 < A ∧ A ≤ xs.length ∧ r = xs.drop A)
theorem rtake9_none {xs : List UInt8} {w w' : World} (hE : Ext w w') (hn : takeF xs = none) : RTake9 xs w (.returned (.tuple #[.slice none 0 0, .int .i64 0])) w' :=
  ⟨none, 0, 0, [], 0, rfl, hE, OwnF.nil _ _ _ _, fun _ => ⟨rfl, rfl⟩, fun l r h => by rw [hn] at h; cases h⟩

set_option maxRecDepth 100000 in
set_option maxHeartbeats 8000000 in
theorem rtake9_any (v : Value) (xs : List UInt8) (w : World) (h : Bytes w v xs) :
    Calls Tryz.prog 111 #[v] w (RTake9 xs w) := by
  have HB := Lib.hid h
  obtain ⟨a, cap, rfl, hcap, hcm, -⟩ := id h
  have hlm := h.length_le
  clear h
  go_enter Tryz.func111, Tryz.ntmps111
  go_wp2_with fail
  refine (rnumAt_any 40 _ xs 0 (by omega) w HB.out (by omega)).mono ?_
  rintro e wq ⟨rfl, n, k, A1, rfl, hBk, hBl, hni, hq⟩
  obtain rfl : k = A1 := by omega
  clear hBk
  obtain ⟨hni1, hni2⟩ := hni
  rcases hq with ⟨hno, hq⟩ | ⟨hkz, hn0, hn1, hyes⟩
  · have HP := Lib.hid (rtake9_none (xs := xs) (Ext.refl w) (by unfold takeF; rw [show hdB 40 xs = none from hno]; rfl))
    clear hno
    rcases hq with rfl | ⟨hkz, hn0⟩ | ⟨hkz, hn0, hn1⟩
    · go_wp2
      refine bodyPost_ret (v := .tuple #[.slice none 0 0, .int .i64 0]) (by simp [results, Tryz.results111, go_sem]) rfl HP.out
    · go_wp2
      refine bodyPost_ret (v := .tuple #[.slice none 0 0, .int .i64 0]) (by simp [results, Tryz.results111, go_sem]) rfl HP.out
    · go_wp2
      refine bodyPost_ret (v := .tuple #[.slice none 0 0, .int .i64 0]) (by simp [results, Tryz.results111, go_sem]) rfl HP.out
  obtain ⟨N, rfl⟩ : ∃ N : Nat, n = (N : Int) := ⟨n.toNat, by omega⟩
  have hN40 : N ≤ 40 := by omega
  have HX1 : Hid (takeF xs = readM readR N (xs.drop k)) := Lib.hid (by unfold takeF; rw [show hdB 40 xs = some ((N : Int), xs.drop k) from hyes, Option.bind_some, Int.toNat_natCast])
  have hk0 : 0 < k := by simp at hkz; omega
  obtain ⟨A1, hA1⟩ : ∃ A1, A1 = k := ⟨_, rfl⟩
  subst hA1
  clear hyes
  go_wp2_with fail
  clear hkz hn0 hn1
  go_loopw [5, 6, 7] (fun A o i wr => ∃ (l : List It) (AA : Nat), l.length ≤ N ∧ A = .int .i64 AA ∧ i = .int .i64 l.length ∧ AA ≤ xs.length ∧ 0 < AA ∧ Hid (readM readR l.length (xs.drop A1) = some (l, xs.drop AA)) ∧ Hid (Ext w wr) ∧ Hid (OwnFF w.heap.size wr o l)) (fun _ _ i _ => N - (intOf i).toNat)
  case atStart => exact ⟨[], A1, by simp, rfl, by go_num, hBl, hk0, Lib.hid rfl, Lib.hid (Ext.refl w), Lib.hid (OwnF.nil _ _ _ _)⟩
  case round =>
    obtain ⟨l, AA, hl, rfl, rfl, hAA, hAA0, HM, HE, HO⟩ := hrel
    obtain ⟨ln, hln⟩ : ∃ ln, ln = l.length := ⟨_, rfl⟩
    have HLN := Lib.hid hln
    rw [← hln] at hl ⊢
    clear hln
    have hz := HE.out.size
    have hsk := fun w' => slice_from a xs.length cap (AA : Int) (by omega) (by omega) w'
    rw [Int.toNat_natCast] at hsk
    by_cases hlt : ln < N
    · have hlti : (ln : Int) < (N : Int) := by omega
      go_wp2_with fail
      refine (rread9_any _ (xs.drop AA) wr ((HB.out.ext HE.out).drop hAA)).mono ?_
      rintro e w2 ⟨x, d, A2, rfl, hE2, hO2, hwf, hq⟩
      obtain ⟨da, dc, rfl, -⟩ := hO2.row.slice
      obtain ⟨dm, hdm⟩ : ∃ dm, dm = x.after.length := ⟨_, rfl⟩
      rw [← hdm] at hO2 ⊢
      have HDM := Lib.hid hdm
      clear hdm hlti hsk
      have HE2 := Lib.hid (HE.out.trans hE2)
      have HO2 : Hid (OwnFF w.heap.size w2 u6 l) := Lib.hid (HO.out.ext hE2)
      have HOx := Lib.hid hO2
      have HWf : Hid (itWf x) := Lib.hid hwf
      have HVR : Hid (∀ b, u6.ownBlock = some b → w.heap.size ≤ b ∧ b < wr.heap.size) := Lib.hid (by
        obtain ⟨ds, _, h2, _⟩ := HO.out
        exact h2.lt)
      have hz2 := HE2.out.size
      have hzr := hE2.size
      clear hE2 hO2 hwf HO HE
      cases hR : readI (xs.drop AA) with
      | none =>
        rw [hR] at hq
        have hq : A2 = 0 := hq
        subst hq
        have hn : takeF xs = none := by
          rw [HX1.out]
          exact readM_none (i := ln + 1) _ (by rw [readM_snoc, HLN.out, HM.out, Option.bind_some]; show (readR (xs.drop AA)).map _ = none; unfold readR; rw [hR]; rfl) (by omega)
        have HP := Lib.hid (rtake9_none (xs := xs) (HE2.out.alloc (.cells #[.string (str x.name), .int .u8 (x.kind.toNat : Int), .slice da dm dc, .string (str x.over), .int .i64 x.width, .int .i64 x.quota] 138)) hn)
        clear hn hR
        go_wp2
        refine bodyPost_ret (v := .tuple #[.slice none 0 0, .int .i64 0]) (by simp [results, Tryz.results111, go_sem]) rfl HP.out
      | some p =>
        obtain ⟨y, r⟩ := p
        rw [hR] at hq
        obtain ⟨rfl, hA20, hA2l, rfl⟩ := hq
        rw [List.length_drop] at hA2l
        have hA2z : ((A2 : Int) == 0) = false := by simp; omega
        obtain ⟨A4, hA4⟩ : ∃ A4, A4 = AA + A2 := ⟨_, rfl⟩
        have hA4l : A4 ≤ xs.length := by omega
        have hA40 : 0 < A4 := by omega
        have hadd : IntKind.i64.wrap ((AA : Int) + (A2 : Int)) = (A4 : Int) := by rw [IntWalk.i64_in _ (by omega)]; omega
        have HR : Hid (readI (xs.drop AA) = some (x, xs.drop A4)) := Lib.hid (by rw [hR, List.drop_drop, hA4])
        have HIt : Hid (∀ wx, Ext w2 wx → ItV wx x (.agg #[.string (str x.name), .int .u8 (x.kind.toNat : Int), .slice da dm dc, .string (str x.over), .int .i64 x.width, .int .i64 x.quota])) := Lib.hid (fun wx hx => ⟨da, dm, dc, rfl, (HOx.out.ext hx).row, HWf.out.1, HWf.out.2.1, HWf.out.2.2.1, HWf.out.2.2.2⟩)
        clear hR hA4
        have hbx := BoxL.new w2 [.string (str x.name), .int .u8 (x.kind.toNat : Int), .slice da dm dc, .string (str x.over), .int .i64 x.width, .int .i64 x.quota] 138
        have HE3 := Lib.hid ((Ext.refl w2).alloc (.cells #[.string (str x.name), .int .u8 (x.kind.toNat : Int), .slice da dm dc, .string (str x.over), .int .i64 x.width, .int .i64 x.quota] 138))
        have HZ3 : Hid ((w2.alloc (.cells #[.string (str x.name), .int .u8 (x.kind.toNat : Int), .slice da dm dc, .string (str x.over), .int .i64 x.width, .int .i64 x.quota] 138)).heap.size = w2.heap.size + 1) := Lib.hid (by simp)
        have HBX := Lib.hid hbx
        clear hbx
        go_wp2_with fail
        generalize w2.alloc (.cells #[.string (str x.name), .int .u8 (x.kind.toNat : Int), .slice da dm dc, .string (str x.over), .int .i64 x.width, .int .i64 x.quota] 138) = W3 at *
        refine (ritem_any x W3 _ (HIt.out W3 HE3.out)).mono ?_
        rintro e W4 ⟨rfl, hE4⟩
        have HE4 := Lib.hid (HE3.out.trans hE4)
        have HB4 := Lib.hid (HBX.out.ext hE4)
        have hz4 : w2.heap.size + 1 ≤ W4.heap.size := by have := hE4.size; have := HZ3.out; omega
        clear hE4
        cases hit : itB x with
        | false =>
          have hn : takeF xs = none := by
            rw [HX1.out]
            exact readM_none (i := ln + 1) _ (by rw [readM_snoc, HLN.out, HM.out, Option.bind_some]; show (readR (xs.drop AA)).map _ = none; unfold readR; rw [HR.out, Option.bind_some]; simp [hit]) (by omega)
          have HP := Lib.hid (rtake9_none (xs := xs) (HE2.out.trans HE4.out) hn)
          clear hn hit
          go_wp2
          refine bodyPost_ret (v := .tuple #[.slice none 0 0, .int .i64 0]) (by simp [results, Tryz.results111, go_sem]) rfl HP.out
        | true =>
          have HM4 : Hid (readM readR (ln + 1) (xs.drop A1) = some (l ++ [x], xs.drop A4)) := Lib.hid (by
            rw [readM_snoc, HLN.out, HM.out, Option.bind_some]; show (readR (xs.drop AA)).map _ = _; unfold readR; rw [HR.out, Option.bind_some]; simp [hit])
          have ⟨q0, q1, q2, q3, q4, q5⟩ := HB4.out.six
          have hbl := HB4.out.lt
          clear hit
          have HE5 := Lib.hid (HE4.out.alloc (.cells #[.string (str x.name), .int .u8 (x.kind.toNat : Int), .slice da dm dc, .string (str x.over), .int .i64 x.width, .int .i64 x.quota] 138))
          have HO5 := Lib.hid (HO2.out.ext HE5.out)
          have HOx5 := Lib.hid (HOx.out.ext HE5.out)
          obtain ⟨xsr, hrow⟩ : ∃ xsr, (W4.alloc (.cells #[.string (str x.name), .int .u8 (x.kind.toNat : Int), .slice da dm dc, .string (str x.over), .int .i64 x.width, .int .i64 x.quota] 138)).ownsRow w.heap.size 138 6 u6 ln xsr := by
            obtain ⟨ds, _, h2, _⟩ := HO5.out
            rw [← HLN.out] at h2
            exact ⟨_, h2⟩
          have HRow := Lib.hid hrow
          have HNb : Hid ((W4.alloc (.cells #[.string (str x.name), .int .u8 (x.kind.toNat : Int), .slice da dm dc, .string (str x.over), .int .i64 x.width, .int .i64 x.quota] 138)).heap[W4.heap.size]? = some (.cells (itCells x (.slice da dm dc)).toArray 138 (0, 0))) := Lib.hid (heap_alloc_new W4 _)
          have HZ5 : Hid (w.heap.size ≤ (W4.alloc (.cells #[.string (str x.name), .int .u8 (x.kind.toNat : Int), .slice da dm dc, .string (str x.over), .int .i64 x.width, .int .i64 x.quota] 138)).heap.size) := Lib.hid (by simp; omega)
          clear hrow HIt HE3 HZ3 HBX
          go_wp2_with (at_builtin; refine wpList_appOne elem_item rfl _ _ rfl rfl HRow.out rfl HNb.out rfl (by simp [itCells, Value.oneCell']) (by omega) (by omega) HZ5.out ?_)
          intro v5 w5 hown5 hg5 hat5
          have HO6 : Hid (OwnFF w.heap.size w5 v5 (l ++ [x])) := Lib.hid (OwnF.snoc HO5.out (HOx5.out.mono (by omega)) HWf.out (fun b hb e => by have := (HOx5.out.block b hb).1; have := (HVR.out b e).2; omega) (by rw [← HLN.out]; exact HRow.out) (by rw [← HLN.out]; exact hown5) hg5 (by simpa using hat5))
          have HE6 : Hid (Ext w w5) := Lib.hid ((HE2.out.trans HE5.out).grown hg5 (fun b hb => (HVR.out b hb).1))
          clear hown5 hg5 hat5 HNb HRow HO5 HE5 HOx5 HZ5 q0 q1 q2 q3 q4 q5
          go_wp2
          go_roundw
          case rel => exact ⟨l ++ [x], A4, by rw [List.length_append, ← HLN.out]; simp; omega, rfl, by rw [List.length_append, ← HLN.out]; simp, hA4l, hA40, by rw [List.length_append, ← HLN.out]; exact HM4, HE6, HO6⟩
          case measure => simp [intOf]; omega
    · have hnlt : ¬ (ln : Int) < (N : Int) := by omega
      have hT : takeF xs = some (l, xs.drop AA) := by rw [HX1.out, ← HM.out, ← HLN.out]; congr 1; omega
      obtain ⟨ao, co, rfl⟩ := ownF_slice HO.out
      obtain ⟨mo, hmo⟩ : ∃ mo, mo = l.length := ⟨_, rfl⟩
      rw [← hmo] at HO ⊢
      have HP : Hid (RTake9 xs w (.returned (.tuple #[.slice ao mo co, .int .i64 (AA : Int)])) wr) := Lib.hid
        ⟨ao, mo, co, l, AA, rfl, HE.out, HO.out, fun h => (by rw [hT] at h; cases h), fun l' r h => by rw [hT] at h; cases h; exact ⟨rfl, hAA0, hAA, rfl⟩⟩
      clear hT hmo hsk
      go_wp2
      refine bodyPost_ret (v := .tuple #[.slice ao mo co, .int .i64 (AA : Int)]) (by simp [results, Tryz.results111, go_sem]) rfl HP.out
end Go.Proofs.YtdienbcjfljjnaaGreatDoor
