/- The reference of operations: read, Parse. -/
import Derived.Test.YtdienbcjfljjnaaGreatDoorOpT
import Derived.Test.YtdienbcjfljjnaaGreatDoorOpE
import Derived.Test.YtdienbcjfljjnaaGreatDoorFrgM
import Derived.Test.YtdienbcjfljjnaaGreatDoorRefD
open Go.RowKit Go.Shelf
namespace Go.Proofs.YtdienbcjfljjnaaGreatDoor
open Go Go.Proofs Fm

/-- The reference's text at a place, in the words of hdX; any top. -/
theorem rtextT_any (top : Int) (h0 : 0 ≤ top) (h1 : top ≤ 1000000) (v : Value) (xs : List UInt8) (AA : Nat) (hA : AA ≤ xs.length) (w : World) (h : Bytes w v (xs.drop AA)) (hl : xs.length ≤ 9223372036854775807) :
    Calls Tryz.prog 94 #[v, .int .i64 top] w fun e w' => w = w' ∧
      ((hdX top (xs.drop AA) = none ∧ e = .returned (.tuple #[.string (str []), .int .i64 0, .bool false])) ∨
        ∃ (s : List UInt8) (A B : Nat), hdX top (xs.drop AA) = some (s, xs.drop B) ∧ B = AA + A ∧ B ≤ xs.length ∧ 0 < A ∧ s.length ≤ 9223372036854775807 ∧ e = .returned (.tuple #[.string (str s), .int .i64 (A : Int), .bool true])) := by
  refine (rtakeText_any _ (xs.drop AA) top (by unfold isI64; omega) w h).mono ?_
  rintro e w1 ⟨hp, rfl⟩
  refine ⟨rfl, ?_⟩
  cases hT : takeT (xs.drop AA) top with
  | none => rw [hT] at hp; exact .inl ⟨hdX_none hT, hp⟩
  | some p =>
    obtain ⟨k, n⟩ := p
    rw [hT] at hp
    obtain ⟨h1, h2, h3⟩ := takeT_inv hT
    obtain ⟨-, h4, -⟩ := takeN_inv h1
    rw [List.length_drop] at h3
    refine .inr ⟨((xs.drop AA).drop k).take n, k + n, AA + (k + n), ?_, rfl, by omega, by omega, ?_, hp⟩
    · rw [hdX_of_some hT]; simp only [List.drop_drop]
    · simp only [List.length_take, List.length_drop]; omega
/-- The reference's number at a place, in the words of hdN. -/
theorem rnumN_any (v : Value) (xs : List UInt8) (AA : Nat) (hA : AA ≤ xs.length) (w : World) (h : Bytes w v (xs.drop AA)) :
    Calls Tryz.prog 93 #[v] w fun e w' => w = w' ∧
      ((hdN (xs.drop AA) = none ∧ ∃ n : Int, e = .returned (.tuple #[.int .i64 n, .int .i64 0])) ∨
        ∃ (n : Int) (A B : Nat), hdN (xs.drop AA) = some (n, xs.drop B) ∧ B = AA + A ∧ B ≤ xs.length ∧ ((A : Int) == 0) = false ∧ isI64 n ∧ e = .returned (.tuple #[.int .i64 n, .int .i64 (A : Int)])) := by
  refine (rtakeNum_any _ (xs.drop AA) w h).mono ?_
  rintro e w1 ⟨hp, rfl⟩
  refine ⟨rfl, ?_⟩
  cases hT : takeN (xs.drop AA) with
  | none => rw [hT] at hp; exact .inl ⟨hdN_none hT, 0, hp⟩
  | some p =>
    obtain ⟨n, k⟩ := p
    rw [hT] at hp
    obtain ⟨h1, h2, h3, h4, -⟩ := takeN_inv hT
    rw [List.length_drop] at h4
    exact .inr ⟨n, k, AA + k, by rw [hdN_some hT, List.drop_drop], rfl, by omega, by simp; omega, h1, hp⟩

theorem rightT_zT : rightT zT = true := by simp [zT, rightT, kindsT_node, deepT_node, deepL_nil, partsT_node, partsL_nil, plainB]
/-- What read comes to. -/
def RReadO (xs : List UInt8) (w : World) (e : Ending) (w' : World) : Prop :=
  ∃ (k : Int) (ids : ByteArray) (t vk vn : Int) (vs : ByteArray) (va : Option Addr) (vm vc : Nat) (fa : Option Addr) (fm fc : Nat) (q : Int) (ok : Bool) (o : Opn), e = .returned (.tuple #[.agg #[.int .u8 k, .string ids, .int .i64 t, .int .u8 vk, .int .i64 vn, .string vs, .slice va vm vc, .slice fa fm fc, .int .i64 q], .bool ok]) ∧ Ext w w' ∧ OpOwn w.heap.size w' o [.int .u8 k, .string ids, .int .i64 t, .int .u8 vk, .int .i64 vn, .string vs, .slice va vm vc, .slice fa fm fc, .int .i64 q] ∧ rightT o.val = true ∧
    (ok = true → readP xs = some (o, [])) ∧ (ok = false → parseO xs = none)
theorem parseO_reads {xs : List UInt8} {o : Opn} (h : parseO xs = some o) : readP xs = some (o, []) ∧ rightO o = true := by
  obtain ⟨h1, h2, h3⟩ := parseO_iff.1 h
  have := readP_by h1 h2 []
  rw [List.append_nil, ← h3] at this
  exact ⟨this, h1⟩
theorem parseO_nothing {xs : List UInt8} (h : ∀ o, readP xs = some (o, []) → rightO o = false) : parseO xs = none := by
  cases hp : parseO xs with
  | none => rfl
  | some o =>
    obtain ⟨a, b⟩ := parseO_reads hp
    rw [h o a] at b; cases b
theorem parseO_read_none {xs : List UInt8} (h : readP xs = none) : parseO xs = none := by unfold parseO; rw [h]; rfl
theorem readP_at {k : Nat} {xs r : List UInt8} (h : hdB 5 xs = some ((k : Int), r)) : readP xs = readP2 (UInt8.ofNat k) r := by
  unfold readP; rw [h, Option.bind_some, Int.toNat_natCast]
theorem parseO_b5 {xs : List UInt8} (h : hdB 5 xs = none) : parseO xs = none := parseO_read_none (by unfold readP; rw [h]; rfl)
theorem parseO_b0 {xs r : List UInt8} (h : hdB 5 xs = some (0, r)) : parseO xs = none := by
  refine parseO_nothing (fun o ho => ?_)
  unfold readP at ho
  rw [h, Option.bind_some] at ho
  simp [readP2, optA, oI, oT, oV, oF, oQ] at ho
  obtain ⟨rfl, _⟩ := ho
  rfl
theorem parseO_q400 {xs r r2 r3 : List UInt8} {l : List It} (h : hdB 5 xs = some (1, r)) (h2 : takeF r = some (l, r2)) (h3 : hdB 400 r2 = none) : parseO xs = none := by
  refine parseO_nothing (fun o ho => ?_)
  unfold readP at ho
  rw [h, Option.bind_some] at ho
  cases hN : hdN r2 with
  | none => simp [readP2, optA, oI, oT, oV, oF, oQ, h2, hN] at ho
  | some p =>
    obtain ⟨q, r4⟩ := p
    simp [readP2, optA, oI, oT, oV, oF, oQ, h2, hN] at ho
    obtain ⟨rfl, _⟩ := ho
    have hb : q < 0 ∨ 400 < q := by
      unfold hdB at h3
      rw [hN, Option.bind_some] at h3
      split at h3
      · assumption
      · cases h3
    cases hr : rightO ⟨1, [], 0, zT, l, q⟩ with
    | false => rfl
    | true =>
      obtain ⟨_, _, _, _, _, _, h9⟩ := rightO_iff.1 hr
      have := h9 (show oQ 1 = true by decide)
      simp only at this
      omega
/-- Two boxes: the results', and the operation's. -/
structure RSO (w W : World) (B : Nat) (us vs : List Value) : Prop where
  e : Ext w W
  p : BoxL W w.heap.size us
  v : BoxL W B vs
  o : w.heap.size < B
theorem RSO.set {w W : World} {B : Nat} {us vs : List Value} (h : RSO w W B us vs) (j : Nat) (hj : j < vs.length) (u : Value) : RSO w (W.setCell ⟨B, j, none⟩ u) B us (vs.set j u) :=
  ⟨h.e.setCell (p := ⟨B, j, none⟩) (by show w.heap.size ≤ B; have := h.o; omega) u, h.p.kept (setOne_grown W B j u) (fun e => by injection e with e; have := h.o; omega), h.v.set j hj u, h.o⟩
theorem RSO.ext {w W W' : World} {B : Nat} {us vs : List Value} (h : RSO w W B us vs) (hE : Ext W W') : RSO w W' B us vs := ⟨h.e.trans hE, h.p.ext hE, h.v.ext hE, h.o⟩
theorem RSO.new {w W : World} {us vs : List Value} (h : OSt w W us) (t : TypeId) : RSO w (W.alloc (.cells vs.toArray t)) W.heap.size us vs :=
  ⟨h.e.trans ((Ext.refl W).alloc _), h.b.ext ((Ext.refl W).alloc _), BoxL.new W vs t, h.b.lt⟩
theorem OwnT.far {e : TypeId} {w : World} {base : Nat} {t : Tr} {v : Value} (h : OwnT e w base t v) {B : Nat} (hB : B < base) (j : Nat) (u : Value) : OwnT e (w.setCell ⟨B, j, none⟩ u) base t v := h.grown (setOne_grown w B j u) (fun b hb => by injection hb with hb; omega)
theorem OwnFF.far {w : World} {base : Nat} {l : List It} {v : Value} (h : OwnFF base w v l) {B : Nat} (hB : B < base) (j : Nat) (u : Value) : OwnFF base (w.setCell ⟨B, j, none⟩ u) v l := OwnF.kept h (setOne_grown w B j u) (fun b hb => by injection hb with hb; omega)
/-- The way out: the results' box is written. -/
theorem rreadO_exit {xs : List UInt8} {w W : World} {us : List Value} (hE : Ext w W) (hp : BoxL W w.heap.size us) {ok : Bool} {o : Opn} {k : Int} {ids : ByteArray} {t vk vn : Int} {vs : ByteArray} {va : Option Addr} {vm vc : Nat} {fa : Option Addr} {fm fc : Nat} {q : Int} (hO : OpOwn (w.heap.size + 1) W o [.int .u8 k, .string ids, .int .i64 t, .int .u8 vk, .int .i64 vn, .string vs, .slice va vm vc, .slice fa fm fc, .int .i64 q]) (hv : rightT o.val = true)
    (h1 : ok = true → readP xs = some (o, [])) (h2 : ok = false → parseO xs = none) :
    RReadO xs w (.returned (.tuple #[.agg #[.int .u8 k, .string ids, .int .i64 t, .int .u8 vk, .int .i64 vn, .string vs, .slice va vm vc, .slice fa fm fc, .int .i64 q], .bool ok])) (set9W W w.heap.size (.int .u8 k) (.string ids) (.int .i64 t) (.int .u8 vk) (.int .i64 vn) (.string vs) (.slice va vm vc) (.slice fa fm fc) (.int .i64 q)) :=
  ⟨k, ids, t, vk, vn, vs, va, vm, vc, fa, fm, fc, q, ok, o, rfl, hE.grown (set9_grown _ _ _ _ _ _ _ _ _ _ _) (fun k hk => by injection hk with hk; omega), (hO.kept (set9_grown _ _ _ _ _ _ _ _ _ _ _) (fun b hb => by injection hb with hb; omega)).mono (by omega), hv, h1, h2⟩
theorem end_ok {xs : List UInt8} {A : Nat} {o : Opn} (hA : A ≤ xs.length) (h : readP xs = some (o, xs.drop A)) : ((((A : Int) == (xs.length : Int)) = true) → readP xs = some (o, [])) ∧ ((((A : Int) == (xs.length : Int)) = false) → parseO xs = none) := by
  constructor
  · intro he
    have : A = xs.length := by simp at he; omega
    rw [h, this, List.drop_length]
  · intro he
    have hne : xs.drop A ≠ [] := fun e => by
      have := congrArg List.length e
      rw [List.length_drop, List.length_nil] at this
      simp at he; omega
    unfold parseO; rw [h, Option.bind_some]; simp [hne]

theorem hdN_of_B {top n : Int} {xs r : List UInt8} (h : hdB top xs = some (n, r)) : hdN xs = some (n, r) := by
  unfold hdB at h
  obtain ⟨p, hp, hq⟩ := Option.bind_eq_some_iff.1 h
  split at hq
  · cases hq
  · cases hq; exact hp

set_option maxRecDepth 100000 in
set_option maxHeartbeats 16000000 in
theorem rreadO_bad (v : Value) (xs : List UInt8) (w : World) (h : Bytes w v xs) (hh : parseO xs = none) (hw : hdB 5 xs = none ∨ ∃ r, hdB 5 xs = some (0, r)) :
    Calls Tryz.prog 72 #[v] w (RReadO xs w) := by
  have HB := Lib.hid h
  obtain ⟨a, cap, rfl, hcap, hcm, -⟩ := id h
  have hlm := h.length_le
  have HH := Lib.hid hh
  have HW := Lib.hid hw
  clear h hh hw
  have hE0 := (Ext.refl w).alloc (.cells #[.int .u8 0, .string { data := #[] }, .int .i64 0, .int .u8 0, .int .i64 0, .string { data := #[] }, .slice none 0 0, .slice none 0 0, .int .i64 0] 46)
  have hB0 := BoxL.new w [.int .u8 0, .string { data := #[] }, .int .i64 0, .int .u8 0, .int .i64 0, .string { data := #[] }, .slice none 0 0, .slice none 0 0, .int .i64 0] 46
  go_enter Tryz.func72, Tryz.ntmps72
  go_wp2_with fail
  generalize w.alloc (.cells #[.int .u8 0, .string { data := #[] }, .int .i64 0, .int .u8 0, .int .i64 0, .string { data := #[] }, .slice none 0 0, .slice none 0 0, .int .i64 0] 46) = W1 at *
  have S0 : Hid (OSt w W1 [.int .u8 0, .string { data := #[] }, .int .i64 0, .int .u8 0, .int .i64 0, .string { data := #[] }, .slice none 0 0, .slice none 0 0, .int .i64 0]) := Lib.hid ⟨hE0, hB0⟩
  clear hE0 hB0
  refine (rnumAt_any 5 _ xs 0 (by omega) W1 (HB.out.ext S0.out.e) (by omega)).mono ?_
  rintro e wq ⟨rfl, n, k1, A1, rfl, hBk, hBl, hni, hq⟩
  obtain ⟨hni1, hni2⟩ := hni
  have S0p : Hid (RSO w (W1.alloc (.cells #[.int .u8 0, .string { data := #[] }, .int .i64 0, .int .u8 0, .int .i64 0, .string { data := #[] }, .slice none 0 0, .slice none 0 0, .int .i64 0] 46)) W1.heap.size [.int .u8 0, .string { data := #[] }, .int .i64 0, .int .u8 0, .int .i64 0, .string { data := #[] }, .slice none 0 0, .slice none 0 0, .int .i64 0] [.int .u8 0, .string { data := #[] }, .int .i64 0, .int .u8 0, .int .i64 0, .string { data := #[] }, .slice none 0 0, .slice none 0 0, .int .i64 0]) := Lib.hid (RSO.new S0.out _)
  clear S0p
  have hq2 : (((k1 : Int) == 0) = true) ∨ (((k1 : Int) == 0) = false ∧ n < 1) ∨ (((k1 : Int) == 0) = false ∧ ¬ n < 1 ∧ 5 < n) := by
    rcases hq with ⟨-, rfl | ⟨a1, a2⟩ | ⟨a1, a2, a3⟩⟩ | ⟨a1, a2, a3, a4⟩
    · exact .inl rfl
    · exact .inr (.inl ⟨a1, by omega⟩)
    · exact .inr (.inr ⟨a1, by omega, a3⟩)
    · refine .inr (.inl ⟨a1, ?_⟩)
      rcases HW.out with hw | ⟨r, hw⟩
      · rw [show hdB 5 xs = some (n, xs.drop A1) from a4] at hw; cases hw
      · rw [show hdB 5 xs = some (n, xs.drop A1) from a4] at hw
        injection hw with hw; injection hw with hw
        omega
  clear hq HW hni1 hni2
  have ⟨p0, p1, p2, p3, p4, p5, p6, p7, p8⟩ := S0.out.b.nine
  have r0 := S0.out.b.free 0
  have r1 := S0.out.b.free 1
  have r2 := S0.out.b.free 2
  have r3 := S0.out.b.free 3
  have r4 := S0.out.b.free 4
  have r5 := S0.out.b.free 5
  have r6 := S0.out.b.free 6
  have r7 := S0.out.b.free 7
  have r8 := S0.out.b.free 8
  rcases hq2 with k2 | ⟨k2, k3⟩ | ⟨k2, k3, k4⟩
  · go_wp2
    have y1 := S0.out.b.set9 (.int .u8 0) (.string { data := #[] }) (.int .i64 0) (.int .u8 0) (.int .i64 0) (.string { data := #[] }) (.slice none 0 0) (.slice none 0 0) (.int .i64 0)
    have y2 : RReadO xs w (.returned (.tuple #[.agg #[.int .u8 0, .string { data := #[] }, .int .i64 0, .int .u8 0, .int .i64 0, .string { data := #[] }, .slice none 0 0, .slice none 0 0, .int .i64 0], .bool false])) (set9W W1 w.heap.size (.int .u8 0) (.string { data := #[] }) (.int .i64 0) (.int .u8 0) (.int .i64 0) (.string { data := #[] }) (.slice none 0 0) (.slice none 0 0) (.int .i64 0)) := rreadO_exit S0.out.e S0.out.b (zO_own _ _) rightT_zT (fun h => by cases h) (fun _ => HH.out)
    change bodyPost _ _ _ _ _ (set9W W1 w.heap.size (.int .u8 0) (.string { data := #[] }) (.int .i64 0) (.int .u8 0) (.int .i64 0) (.string { data := #[] }) (.slice none 0 0) (.slice none 0 0) (.int .i64 0))
    generalize set9W W1 w.heap.size (.int .u8 0) (.string { data := #[] }) (.int .i64 0) (.int .u8 0) (.int .i64 0) (.string { data := #[] }) (.slice none 0 0) (.slice none 0 0) (.int .i64 0) = Wn at *
    obtain ⟨g0, g1, g2, g3, g4, g5, g6, g7, g8⟩ := y1.nine
    refine bodyPost_ret (v := .tuple #[.agg #[.int .u8 0, .string { data := #[] }, .int .i64 0, .int .u8 0, .int .i64 0, .string { data := #[] }, .slice none 0 0, .slice none 0 0, .int .i64 0], .bool false]) (by simp [results, Tryz.results72, go_sem, g0, g1, g2, g3, g4, g5, g6, g7, g8]) rfl ?_
    exact y2
  · go_wp2
    have y1 := S0.out.b.set9 (.int .u8 0) (.string { data := #[] }) (.int .i64 0) (.int .u8 0) (.int .i64 0) (.string { data := #[] }) (.slice none 0 0) (.slice none 0 0) (.int .i64 0)
    have y2 : RReadO xs w (.returned (.tuple #[.agg #[.int .u8 0, .string { data := #[] }, .int .i64 0, .int .u8 0, .int .i64 0, .string { data := #[] }, .slice none 0 0, .slice none 0 0, .int .i64 0], .bool false])) (set9W W1 w.heap.size (.int .u8 0) (.string { data := #[] }) (.int .i64 0) (.int .u8 0) (.int .i64 0) (.string { data := #[] }) (.slice none 0 0) (.slice none 0 0) (.int .i64 0)) := rreadO_exit S0.out.e S0.out.b (zO_own _ _) rightT_zT (fun h => by cases h) (fun _ => HH.out)
    change bodyPost _ _ _ _ _ (set9W W1 w.heap.size (.int .u8 0) (.string { data := #[] }) (.int .i64 0) (.int .u8 0) (.int .i64 0) (.string { data := #[] }) (.slice none 0 0) (.slice none 0 0) (.int .i64 0))
    generalize set9W W1 w.heap.size (.int .u8 0) (.string { data := #[] }) (.int .i64 0) (.int .u8 0) (.int .i64 0) (.string { data := #[] }) (.slice none 0 0) (.slice none 0 0) (.int .i64 0) = Wn at *
    obtain ⟨g0, g1, g2, g3, g4, g5, g6, g7, g8⟩ := y1.nine
    refine bodyPost_ret (v := .tuple #[.agg #[.int .u8 0, .string { data := #[] }, .int .i64 0, .int .u8 0, .int .i64 0, .string { data := #[] }, .slice none 0 0, .slice none 0 0, .int .i64 0], .bool false]) (by simp [results, Tryz.results72, go_sem, g0, g1, g2, g3, g4, g5, g6, g7, g8]) rfl ?_
    exact y2
  · go_wp2
    have y1 := S0.out.b.set9 (.int .u8 0) (.string { data := #[] }) (.int .i64 0) (.int .u8 0) (.int .i64 0) (.string { data := #[] }) (.slice none 0 0) (.slice none 0 0) (.int .i64 0)
    have y2 : RReadO xs w (.returned (.tuple #[.agg #[.int .u8 0, .string { data := #[] }, .int .i64 0, .int .u8 0, .int .i64 0, .string { data := #[] }, .slice none 0 0, .slice none 0 0, .int .i64 0], .bool false])) (set9W W1 w.heap.size (.int .u8 0) (.string { data := #[] }) (.int .i64 0) (.int .u8 0) (.int .i64 0) (.string { data := #[] }) (.slice none 0 0) (.slice none 0 0) (.int .i64 0)) := rreadO_exit S0.out.e S0.out.b (zO_own _ _) rightT_zT (fun h => by cases h) (fun _ => HH.out)
    change bodyPost _ _ _ _ _ (set9W W1 w.heap.size (.int .u8 0) (.string { data := #[] }) (.int .i64 0) (.int .u8 0) (.int .i64 0) (.string { data := #[] }) (.slice none 0 0) (.slice none 0 0) (.int .i64 0))
    generalize set9W W1 w.heap.size (.int .u8 0) (.string { data := #[] }) (.int .i64 0) (.int .u8 0) (.int .i64 0) (.string { data := #[] }) (.slice none 0 0) (.slice none 0 0) (.int .i64 0) = Wn at *
    obtain ⟨g0, g1, g2, g3, g4, g5, g6, g7, g8⟩ := y1.nine
    refine bodyPost_ret (v := .tuple #[.agg #[.int .u8 0, .string { data := #[] }, .int .i64 0, .int .u8 0, .int .i64 0, .string { data := #[] }, .slice none 0 0, .slice none 0 0, .int .i64 0], .bool false]) (by simp [results, Tryz.results72, go_sem, g0, g1, g2, g3, g4, g5, g6, g7, g8]) rfl ?_
    exact y2

set_option maxRecDepth 100000 in
set_option maxHeartbeats 16000000 in
theorem rreadO_1 (v : Value) (xs : List UInt8) (w : World) (h : Bytes w v xs) (r0 : List UInt8) (hh : hdB 5 xs = some (1, r0)) :
    Calls Tryz.prog 72 #[v] w (RReadO xs w) := by
  have HB := Lib.hid h
  obtain ⟨a, cap, rfl, hcap, hcm, -⟩ := id h
  have hlm := h.length_le
  have HH := Lib.hid hh
  clear h hh
  have hE0 := (Ext.refl w).alloc (.cells #[.int .u8 0, .string { data := #[] }, .int .i64 0, .int .u8 0, .int .i64 0, .string { data := #[] }, .slice none 0 0, .slice none 0 0, .int .i64 0] 46)
  have hB0 := BoxL.new w [.int .u8 0, .string { data := #[] }, .int .i64 0, .int .u8 0, .int .i64 0, .string { data := #[] }, .slice none 0 0, .slice none 0 0, .int .i64 0] 46
  go_enter Tryz.func72, Tryz.ntmps72
  go_wp2_with fail
  generalize w.alloc (.cells #[.int .u8 0, .string { data := #[] }, .int .i64 0, .int .u8 0, .int .i64 0, .string { data := #[] }, .slice none 0 0, .slice none 0 0, .int .i64 0] 46) = W1 at *
  have S0 : Hid (OSt w W1 [.int .u8 0, .string { data := #[] }, .int .i64 0, .int .u8 0, .int .i64 0, .string { data := #[] }, .slice none 0 0, .slice none 0 0, .int .i64 0]) := Lib.hid ⟨hE0, hB0⟩
  clear hE0 hB0
  refine (rnumAt_any 5 _ xs 0 (by omega) W1 (HB.out.ext S0.out.e) (by omega)).mono ?_
  rintro e wq ⟨rfl, n, k1, A1, rfl, hBk, hBl, hni, hq⟩
  obtain ⟨hni1, hni2⟩ := hni
  rcases hq with ⟨hno, -⟩ | ⟨hkz, hn0, hn1, hyes⟩
  · have hno : hdB 5 xs = none := hno
    rw [hno] at HH; cases HH.out
  have hyes : hdB 5 xs = some (n, xs.drop A1) := hyes
  obtain ⟨rfl, hr0⟩ : n = 1 ∧ xs.drop A1 = r0 := by
    have := HH.out
    rw [hyes] at this
    injection this with this; injection this with h1 h2
    exact ⟨h1, h2⟩
  subst hr0
  have hA1 : k1 = A1 := by omega
  subst hA1
  have hk0 : 0 < k1 := by simp at hkz; omega
  obtain ⟨A1, hA1⟩ : ∃ A1, A1 = k1 := ⟨_, rfl⟩
  subst hA1
  clear hyes hBk hn0 hn1 hni1 hni2
  have S1 : Hid (RSO w (W1.alloc (.cells #[.int .u8 1, .string { data := #[] }, .int .i64 0, .int .u8 0, .int .i64 0, .string { data := #[] }, .slice none 0 0, .slice none 0 0, .int .i64 0] 46)) W1.heap.size [.int .u8 0, .string { data := #[] }, .int .i64 0, .int .u8 0, .int .i64 0, .string { data := #[] }, .slice none 0 0, .slice none 0 0, .int .i64 0] [.int .u8 1, .string { data := #[] }, .int .i64 0, .int .u8 0, .int .i64 0, .string { data := #[] }, .slice none 0 0, .slice none 0 0, .int .i64 0]) := Lib.hid (RSO.new S0.out _)
  have hlt1 := S0.out.b.lt
  have hsk := fun w' => slice_from a xs.length cap (A1 : Int) (by omega) (by omega) w'
  rw [Int.toNat_natCast] at hsk
  go_wp2_with fail
  generalize W1.alloc (.cells #[.int .u8 1, .string { data := #[] }, .int .i64 0, .int .u8 0, .int .i64 0, .string { data := #[] }, .slice none 0 0, .slice none 0 0, .int .i64 0] 46) = W2 at *
  clear hsk
  have hS := S1.out.e
  refine (rtake9_any _ (xs.drop A1) W2 ((HB.out.ext hS).drop (by omega))).mono ?_
  rintro e V2 ⟨fa, fm, fc, fl, kF, rfl, hE, hO, hno, hyes⟩
  clear hS
  cases hT : takeF (xs.drop A1) with
  | none =>
    obtain ⟨rfl, rfl⟩ := hno hT
    have HF : Hid (parseO xs = none) := Lib.hid (parseO_read_none (by rw [readP_at (k := 1) HH.out]; simp [readP2, optA, oI, oT, oV, oF, oQ, hT]))
    clear hT hno hyes hO
    have SS := Lib.hid (S1.out.ext hE)
    clear hE
    have ⟨q0, q1, q2, q3, q4, q5, q6, q7, q8⟩ := SS.out.v.nine
    have ⟨p0, p1, p2, p3, p4, p5, p6, p7, p8⟩ := SS.out.p.nine
    have r0 := SS.out.p.free 0
    have r1 := SS.out.p.free 1
    have r2 := SS.out.p.free 2
    have r3 := SS.out.p.free 3
    have r4 := SS.out.p.free 4
    have r5 := SS.out.p.free 5
    have r6 := SS.out.p.free 6
    have r7 := SS.out.p.free 7
    have r8 := SS.out.p.free 8
    go_wp2
    have y1 := SS.out.p.set9 (.int .u8 1) (.string { data := #[] }) (.int .i64 0) (.int .u8 0) (.int .i64 0) (.string { data := #[] }) (.slice none 0 0) (.slice none 0 0) (.int .i64 0)
    have y2 : RReadO xs w (.returned (.tuple #[.agg #[.int .u8 1, .string { data := #[] }, .int .i64 0, .int .u8 0, .int .i64 0, .string { data := #[] }, .slice none 0 0, .slice none 0 0, .int .i64 0], .bool false])) (set9W V2 w.heap.size (.int .u8 1) (.string { data := #[] }) (.int .i64 0) (.int .u8 0) (.int .i64 0) (.string { data := #[] }) (.slice none 0 0) (.slice none 0 0) (.int .i64 0)) := rreadO_exit SS.out.e SS.out.p (o := ⟨1, [], 0, zT, [], 0⟩) ⟨_, _, _, _, _, rfl, (OwnT.mk (k := 0) (s := []) (by unfold isI64; omega) (by simp) (OwnL.nil _ _ _)), (OwnF.nil _ _ _ _), (by simp), (by show isI64 0; unfold isI64; omega), (by show isI64 0; unfold isI64; omega)⟩ rightT_zT (fun h => by cases h) (fun _ => HF.out)
    change bodyPost _ _ _ _ _ (set9W V2 w.heap.size (.int .u8 1) (.string { data := #[] }) (.int .i64 0) (.int .u8 0) (.int .i64 0) (.string { data := #[] }) (.slice none 0 0) (.slice none 0 0) (.int .i64 0))
    generalize set9W V2 w.heap.size (.int .u8 1) (.string { data := #[] }) (.int .i64 0) (.int .u8 0) (.int .i64 0) (.string { data := #[] }) (.slice none 0 0) (.slice none 0 0) (.int .i64 0) = Wn at *
    obtain ⟨g0, g1, g2, g3, g4, g5, g6, g7, g8⟩ := y1.nine
    refine bodyPost_ret (v := .tuple #[.agg #[.int .u8 1, .string { data := #[] }, .int .i64 0, .int .u8 0, .int .i64 0, .string { data := #[] }, .slice none 0 0, .slice none 0 0, .int .i64 0], .bool false]) (by simp [results, Tryz.results72, go_sem, g0, g1, g2, g3, g4, g5, g6, g7, g8]) rfl ?_
    exact y2
  | some p =>
  obtain ⟨l2, rF⟩ := p
  obtain ⟨rfl, hk0F, hkFl, hrF⟩ := hyes l2 rF hT
  rw [List.length_drop] at hkFl
  rw [List.drop_drop] at hrF
  subst hrF
  obtain ⟨A2, hA2⟩ : ∃ A2, A2 = A1 + kF := ⟨_, rfl⟩
  rw [← hA2] at hT
  have HYF := Lib.hid hT
  have hkzF : ((kF : Int) == 0) = false := by simp; omega
  clear hT hno hyes
  have hadd2 : IntKind.i64.wrap ((A1 : Int) + (kF : Int)) = (A2 : Int) := by rw [IntWalk.i64_in _ (by omega)]; omega
  have hle2 : A1 ≤ A2 := by omega
  have hup2 : A2 ≤ xs.length := by omega
  clear hA2
  have hltW := S1.out.v.lt
  have SF := Lib.hid (S1.out.ext hE)
  have HFo := Lib.hid (OwnF.mono hO (show W1.heap.size + 1 ≤ _ by omega))
  clear hE hO
  have ⟨q0, q1, q2, q3, q4, q5, q6, q7, q8⟩ := SF.out.v.nine
  have s0 := SF.out.v.free 0
  have s1 := SF.out.v.free 1
  have s2 := SF.out.v.free 2
  have s3 := SF.out.v.free 3
  have s4 := SF.out.v.free 4
  have s5 := SF.out.v.free 5
  have s6 := SF.out.v.free 6
  have s7 := SF.out.v.free 7
  have s8 := SF.out.v.free 8
  have T2 : Hid (RSO w (V2.setCell ⟨W1.heap.size, 7, none⟩ (.slice fa fm fc)) W1.heap.size [.int .u8 0, .string { data := #[] }, .int .i64 0, .int .u8 0, .int .i64 0, .string { data := #[] }, .slice none 0 0, .slice none 0 0, .int .i64 0] [.int .u8 1, .string { data := #[] }, .int .i64 0, .int .u8 0, .int .i64 0, .string { data := #[] }, .slice none 0 0, .slice fa fm fc, .int .i64 0]) := Lib.hid (SF.out.set 7 (by simp) _)
  have HFon : Hid (OwnFF (W1.heap.size + 1) (V2.setCell ⟨W1.heap.size, 7, none⟩ (.slice fa fm fc)) (.slice fa fm fc) fl) := Lib.hid (OwnFF.far HFo.out (by omega) 7 _)
  clear HFo
  have HFo := HFon
  clear HFon
  have hsk := fun w' => slice_from a xs.length cap (A2 : Int) (by omega) (by omega) w'
  rw [Int.toNat_natCast] at hsk
  go_wp2_with fail
  generalize (V2.setCell ⟨W1.heap.size, 7, none⟩ (.slice fa fm fc)) = U2 at *
  clear hsk
  clear q0 q1 q2 q3 q4 q5 q6 q7 q8 s0 s1 s2 s3 s4 s5 s6 s7 s8
  have hS := T2.out.e
  refine (rnumAt_any 400 _ xs A2 (by omega) U2 ((HB.out.ext hS).drop (by omega)) (by omega)).mono ?_
  rintro e wq ⟨rfl, qn, kQ, AQ, rfl, hBk, hBl, hqi, hq⟩
  clear hS
  rcases hq with ⟨hno, hq⟩ | ⟨hkzQ, hq0, hq1, hyes⟩
  · have HF : Hid (parseO xs = none) := Lib.hid (parseO_q400 (r3 := []) HH.out HYF.out hno)
    clear hno
    obtain ⟨hqi1, hqi2⟩ := hqi
    have ⟨q0, q1, q2, q3, q4, q5, q6, q7, q8⟩ := T2.out.v.nine
    have hOO : OpOwn (w.heap.size + 1) U2 ⟨1, [], 0, zT, fl, 0⟩ [.int .u8 1, .string { data := #[] }, .int .i64 0, .int .u8 0, .int .i64 0, .string { data := #[] }, .slice none 0 0, .slice fa fm fc, .int .i64 0] := ⟨_, _, _, _, _, rfl, (OwnT.mk (k := 0) (s := []) (by unfold isI64; omega) (by simp) (OwnL.nil _ _ _)), (OwnF.mono HFo.out (by omega)), (by simp), (by show isI64 0; unfold isI64; omega), (by show isI64 0; unfold isI64; omega)⟩
    have HOO := Lib.hid hOO
    clear hOO
    rcases hq with rfl | ⟨hkz2, hn2⟩ | ⟨hkz2, hn2, hn3⟩
    · have ⟨p0, p1, p2, p3, p4, p5, p6, p7, p8⟩ := T2.out.p.nine
      have r0 := T2.out.p.free 0
      have r1 := T2.out.p.free 1
      have r2 := T2.out.p.free 2
      have r3 := T2.out.p.free 3
      have r4 := T2.out.p.free 4
      have r5 := T2.out.p.free 5
      have r6 := T2.out.p.free 6
      have r7 := T2.out.p.free 7
      have r8 := T2.out.p.free 8
      go_wp2
      have y1 := T2.out.p.set9 (.int .u8 1) (.string { data := #[] }) (.int .i64 0) (.int .u8 0) (.int .i64 0) (.string { data := #[] }) (.slice none 0 0) (.slice fa fm fc) (.int .i64 0)
      have y2 : RReadO xs w (.returned (.tuple #[.agg #[.int .u8 1, .string { data := #[] }, .int .i64 0, .int .u8 0, .int .i64 0, .string { data := #[] }, .slice none 0 0, .slice fa fm fc, .int .i64 0], .bool false])) (set9W U2 w.heap.size (.int .u8 1) (.string { data := #[] }) (.int .i64 0) (.int .u8 0) (.int .i64 0) (.string { data := #[] }) (.slice none 0 0) (.slice fa fm fc) (.int .i64 0)) := rreadO_exit T2.out.e T2.out.p HOO.out rightT_zT (fun h => by cases h) (fun _ => HF.out)
      change bodyPost _ _ _ _ _ (set9W U2 w.heap.size (.int .u8 1) (.string { data := #[] }) (.int .i64 0) (.int .u8 0) (.int .i64 0) (.string { data := #[] }) (.slice none 0 0) (.slice fa fm fc) (.int .i64 0))
      generalize set9W U2 w.heap.size (.int .u8 1) (.string { data := #[] }) (.int .i64 0) (.int .u8 0) (.int .i64 0) (.string { data := #[] }) (.slice none 0 0) (.slice fa fm fc) (.int .i64 0) = Wn at *
      obtain ⟨g0, g1, g2, g3, g4, g5, g6, g7, g8⟩ := y1.nine
      refine bodyPost_ret (v := .tuple #[.agg #[.int .u8 1, .string { data := #[] }, .int .i64 0, .int .u8 0, .int .i64 0, .string { data := #[] }, .slice none 0 0, .slice fa fm fc, .int .i64 0], .bool false]) (by simp [results, Tryz.results72, go_sem, g0, g1, g2, g3, g4, g5, g6, g7, g8]) rfl ?_
      exact y2
    · have ⟨p0, p1, p2, p3, p4, p5, p6, p7, p8⟩ := T2.out.p.nine
      have r0 := T2.out.p.free 0
      have r1 := T2.out.p.free 1
      have r2 := T2.out.p.free 2
      have r3 := T2.out.p.free 3
      have r4 := T2.out.p.free 4
      have r5 := T2.out.p.free 5
      have r6 := T2.out.p.free 6
      have r7 := T2.out.p.free 7
      have r8 := T2.out.p.free 8
      go_wp2
      have y1 := T2.out.p.set9 (.int .u8 1) (.string { data := #[] }) (.int .i64 0) (.int .u8 0) (.int .i64 0) (.string { data := #[] }) (.slice none 0 0) (.slice fa fm fc) (.int .i64 0)
      have y2 : RReadO xs w (.returned (.tuple #[.agg #[.int .u8 1, .string { data := #[] }, .int .i64 0, .int .u8 0, .int .i64 0, .string { data := #[] }, .slice none 0 0, .slice fa fm fc, .int .i64 0], .bool false])) (set9W U2 w.heap.size (.int .u8 1) (.string { data := #[] }) (.int .i64 0) (.int .u8 0) (.int .i64 0) (.string { data := #[] }) (.slice none 0 0) (.slice fa fm fc) (.int .i64 0)) := rreadO_exit T2.out.e T2.out.p HOO.out rightT_zT (fun h => by cases h) (fun _ => HF.out)
      change bodyPost _ _ _ _ _ (set9W U2 w.heap.size (.int .u8 1) (.string { data := #[] }) (.int .i64 0) (.int .u8 0) (.int .i64 0) (.string { data := #[] }) (.slice none 0 0) (.slice fa fm fc) (.int .i64 0))
      generalize set9W U2 w.heap.size (.int .u8 1) (.string { data := #[] }) (.int .i64 0) (.int .u8 0) (.int .i64 0) (.string { data := #[] }) (.slice none 0 0) (.slice fa fm fc) (.int .i64 0) = Wn at *
      obtain ⟨g0, g1, g2, g3, g4, g5, g6, g7, g8⟩ := y1.nine
      refine bodyPost_ret (v := .tuple #[.agg #[.int .u8 1, .string { data := #[] }, .int .i64 0, .int .u8 0, .int .i64 0, .string { data := #[] }, .slice none 0 0, .slice fa fm fc, .int .i64 0], .bool false]) (by simp [results, Tryz.results72, go_sem, g0, g1, g2, g3, g4, g5, g6, g7, g8]) rfl ?_
      exact y2
    · have ⟨p0, p1, p2, p3, p4, p5, p6, p7, p8⟩ := T2.out.p.nine
      have r0 := T2.out.p.free 0
      have r1 := T2.out.p.free 1
      have r2 := T2.out.p.free 2
      have r3 := T2.out.p.free 3
      have r4 := T2.out.p.free 4
      have r5 := T2.out.p.free 5
      have r6 := T2.out.p.free 6
      have r7 := T2.out.p.free 7
      have r8 := T2.out.p.free 8
      go_wp2
      have y1 := T2.out.p.set9 (.int .u8 1) (.string { data := #[] }) (.int .i64 0) (.int .u8 0) (.int .i64 0) (.string { data := #[] }) (.slice none 0 0) (.slice fa fm fc) (.int .i64 0)
      have y2 : RReadO xs w (.returned (.tuple #[.agg #[.int .u8 1, .string { data := #[] }, .int .i64 0, .int .u8 0, .int .i64 0, .string { data := #[] }, .slice none 0 0, .slice fa fm fc, .int .i64 0], .bool false])) (set9W U2 w.heap.size (.int .u8 1) (.string { data := #[] }) (.int .i64 0) (.int .u8 0) (.int .i64 0) (.string { data := #[] }) (.slice none 0 0) (.slice fa fm fc) (.int .i64 0)) := rreadO_exit T2.out.e T2.out.p HOO.out rightT_zT (fun h => by cases h) (fun _ => HF.out)
      change bodyPost _ _ _ _ _ (set9W U2 w.heap.size (.int .u8 1) (.string { data := #[] }) (.int .i64 0) (.int .u8 0) (.int .i64 0) (.string { data := #[] }) (.slice none 0 0) (.slice fa fm fc) (.int .i64 0))
      generalize set9W U2 w.heap.size (.int .u8 1) (.string { data := #[] }) (.int .i64 0) (.int .u8 0) (.int .i64 0) (.string { data := #[] }) (.slice none 0 0) (.slice fa fm fc) (.int .i64 0) = Wn at *
      obtain ⟨g0, g1, g2, g3, g4, g5, g6, g7, g8⟩ := y1.nine
      refine bodyPost_ret (v := .tuple #[.agg #[.int .u8 1, .string { data := #[] }, .int .i64 0, .int .u8 0, .int .i64 0, .string { data := #[] }, .slice none 0 0, .slice fa fm fc, .int .i64 0], .bool false]) (by simp [results, Tryz.results72, go_sem, g0, g1, g2, g3, g4, g5, g6, g7, g8]) rfl ?_
      exact y2
  obtain ⟨A3, hA3⟩ : ∃ A3, A3 = AQ := ⟨_, rfl⟩
  subst hA3
  have HYQ : Hid (hdN (xs.drop A2) = some (qn, xs.drop A3)) := Lib.hid (hdN_of_B hyes)
  have HQI := Lib.hid hqi
  obtain ⟨hqi1, hqi2⟩ := hqi
  clear hyes
  have hadd3 : IntKind.i64.wrap ((A2 : Int) + (kQ : Int)) = (A3 : Int) := by rw [IntWalk.i64_in _ (by omega)]; omega
  have hle3 : A2 ≤ A3 := by omega
  have hup3 : A3 ≤ xs.length := by omega
  clear hBk
  have ⟨q0, q1, q2, q3, q4, q5, q6, q7, q8⟩ := T2.out.v.nine
  have s0 := T2.out.v.free 0
  have s1 := T2.out.v.free 1
  have s2 := T2.out.v.free 2
  have s3 := T2.out.v.free 3
  have s4 := T2.out.v.free 4
  have s5 := T2.out.v.free 5
  have s6 := T2.out.v.free 6
  have s7 := T2.out.v.free 7
  have s8 := T2.out.v.free 8
  have T3 : Hid (RSO w (U2.setCell ⟨W1.heap.size, 8, none⟩ (.int .i64 qn)) W1.heap.size [.int .u8 0, .string { data := #[] }, .int .i64 0, .int .u8 0, .int .i64 0, .string { data := #[] }, .slice none 0 0, .slice none 0 0, .int .i64 0] [.int .u8 1, .string { data := #[] }, .int .i64 0, .int .u8 0, .int .i64 0, .string { data := #[] }, .slice none 0 0, .slice fa fm fc, .int .i64 qn]) := Lib.hid (T2.out.set 8 (by simp) _)
  have HFon : Hid (OwnFF (W1.heap.size + 1) (U2.setCell ⟨W1.heap.size, 8, none⟩ (.int .i64 qn)) (.slice fa fm fc) fl) := Lib.hid (OwnFF.far HFo.out (by omega) 8 _)
  clear HFo
  have HFo := HFon
  clear HFon
  have HFp : Hid (readP xs = some ((⟨1, [], 0, zT, fl, qn⟩ : Opn), xs.drop A3)) := Lib.hid (by rw [readP_at (k := 1) HH.out]; simp [readP2, optA, oI, oT, oV, oF, oQ, HYF.out, HYQ.out])
  have HEN := Lib.hid (end_ok (by omega) HFp.out)
  go_upto_region 15 with (fail)
  generalize (U2.setCell ⟨W1.heap.size, 8, none⟩ (.int .i64 qn)) = U3 at *
  clear q0 q1 q2 q3 q4 q5 q6 q7 q8 s0 s1 s2 s3 s4 s5 s6 s7 s8
  have ⟨q0, q1, q2, q3, q4, q5, q6, q7, q8⟩ := T3.out.v.nine
  have hOO : OpOwn (w.heap.size + 1) U3 (⟨1, [], 0, zT, fl, qn⟩ : Opn) [.int .u8 1, .string { data := #[] }, .int .i64 0, .int .u8 0, .int .i64 0, .string { data := #[] }, .slice none 0 0, .slice fa fm fc, .int .i64 qn] := ⟨_, _, _, _, _, rfl, (OwnT.mk (k := 0) (s := []) (by unfold isI64; omega) (by simp) (OwnL.nil _ _ _)), (OwnF.mono HFo.out (by omega)), (by simp), (by show isI64 0; unfold isI64; omega), HQI.out⟩
  have HOO := Lib.hid hOO
  clear hOO
  have HEE : Hid ((∀ b, b = ((A3 : Int) == (xs.length : Int)) → (b = true → readP xs = some ((⟨1, [], 0, zT, fl, qn⟩ : Opn), [])) ∧ (b = false → parseO xs = none))) := Lib.hid (fun b hb => by rw [hb]; exact HEN.out)
  have ⟨p0, p1, p2, p3, p4, p5, p6, p7, p8⟩ := T3.out.p.nine
  have r0 := T3.out.p.free 0
  have r1 := T3.out.p.free 1
  have r2 := T3.out.p.free 2
  have r3 := T3.out.p.free 3
  have r4 := T3.out.p.free 4
  have r5 := T3.out.p.free 5
  have r6 := T3.out.p.free 6
  have r7 := T3.out.p.free 7
  have r8 := T3.out.p.free 8
  go_wp2
  have y1 := T3.out.p.set9 (.int .u8 1) (.string { data := #[] }) (.int .i64 0) (.int .u8 0) (.int .i64 0) (.string { data := #[] }) (.slice none 0 0) (.slice fa fm fc) (.int .i64 qn)
  have y2 : RReadO xs w (.returned (.tuple #[.agg #[.int .u8 1, .string { data := #[] }, .int .i64 0, .int .u8 0, .int .i64 0, .string { data := #[] }, .slice none 0 0, .slice fa fm fc, .int .i64 qn], .bool ((A3 : Int) == (xs.length : Int))])) (set9W U3 w.heap.size (.int .u8 1) (.string { data := #[] }) (.int .i64 0) (.int .u8 0) (.int .i64 0) (.string { data := #[] }) (.slice none 0 0) (.slice fa fm fc) (.int .i64 qn)) := rreadO_exit T3.out.e T3.out.p HOO.out rightT_zT HEN.out.1 HEN.out.2
  change bodyPost _ _ _ _ _ (set9W U3 w.heap.size (.int .u8 1) (.string { data := #[] }) (.int .i64 0) (.int .u8 0) (.int .i64 0) (.string { data := #[] }) (.slice none 0 0) (.slice fa fm fc) (.int .i64 qn))
  generalize set9W U3 w.heap.size (.int .u8 1) (.string { data := #[] }) (.int .i64 0) (.int .u8 0) (.int .i64 0) (.string { data := #[] }) (.slice none 0 0) (.slice fa fm fc) (.int .i64 qn) = Wn at *
  obtain ⟨g0, g1, g2, g3, g4, g5, g6, g7, g8⟩ := y1.nine
  refine bodyPost_ret (v := .tuple #[.agg #[.int .u8 1, .string { data := #[] }, .int .i64 0, .int .u8 0, .int .i64 0, .string { data := #[] }, .slice none 0 0, .slice fa fm fc, .int .i64 qn], .bool ((A3 : Int) == (xs.length : Int))]) (by simp [results, Tryz.results72, go_sem, g0, g1, g2, g3, g4, g5, g6, g7, g8]) rfl ?_
  exact y2

set_option maxRecDepth 100000 in
set_option maxHeartbeats 16000000 in
theorem rreadO_2 (v : Value) (xs : List UInt8) (w : World) (h : Bytes w v xs) (r0 : List UInt8) (hh : hdB 5 xs = some (2, r0)) :
    Calls Tryz.prog 72 #[v] w (RReadO xs w) := by
  have HB := Lib.hid h
  obtain ⟨a, cap, rfl, hcap, hcm, -⟩ := id h
  have hlm := h.length_le
  have HH := Lib.hid hh
  clear h hh
  have hE0 := (Ext.refl w).alloc (.cells #[.int .u8 0, .string { data := #[] }, .int .i64 0, .int .u8 0, .int .i64 0, .string { data := #[] }, .slice none 0 0, .slice none 0 0, .int .i64 0] 46)
  have hB0 := BoxL.new w [.int .u8 0, .string { data := #[] }, .int .i64 0, .int .u8 0, .int .i64 0, .string { data := #[] }, .slice none 0 0, .slice none 0 0, .int .i64 0] 46
  go_enter Tryz.func72, Tryz.ntmps72
  go_wp2_with fail
  generalize w.alloc (.cells #[.int .u8 0, .string { data := #[] }, .int .i64 0, .int .u8 0, .int .i64 0, .string { data := #[] }, .slice none 0 0, .slice none 0 0, .int .i64 0] 46) = W1 at *
  have S0 : Hid (OSt w W1 [.int .u8 0, .string { data := #[] }, .int .i64 0, .int .u8 0, .int .i64 0, .string { data := #[] }, .slice none 0 0, .slice none 0 0, .int .i64 0]) := Lib.hid ⟨hE0, hB0⟩
  clear hE0 hB0
  refine (rnumAt_any 5 _ xs 0 (by omega) W1 (HB.out.ext S0.out.e) (by omega)).mono ?_
  rintro e wq ⟨rfl, n, k1, A1, rfl, hBk, hBl, hni, hq⟩
  obtain ⟨hni1, hni2⟩ := hni
  rcases hq with ⟨hno, -⟩ | ⟨hkz, hn0, hn1, hyes⟩
  · have hno : hdB 5 xs = none := hno
    rw [hno] at HH; cases HH.out
  have hyes : hdB 5 xs = some (n, xs.drop A1) := hyes
  obtain ⟨rfl, hr0⟩ : n = 2 ∧ xs.drop A1 = r0 := by
    have := HH.out
    rw [hyes] at this
    injection this with this; injection this with h1 h2
    exact ⟨h1, h2⟩
  subst hr0
  have hA1 : k1 = A1 := by omega
  subst hA1
  have hk0 : 0 < k1 := by simp at hkz; omega
  obtain ⟨A1, hA1⟩ : ∃ A1, A1 = k1 := ⟨_, rfl⟩
  subst hA1
  clear hyes hBk hn0 hn1 hni1 hni2
  have S1 : Hid (RSO w (W1.alloc (.cells #[.int .u8 2, .string { data := #[] }, .int .i64 0, .int .u8 0, .int .i64 0, .string { data := #[] }, .slice none 0 0, .slice none 0 0, .int .i64 0] 46)) W1.heap.size [.int .u8 0, .string { data := #[] }, .int .i64 0, .int .u8 0, .int .i64 0, .string { data := #[] }, .slice none 0 0, .slice none 0 0, .int .i64 0] [.int .u8 2, .string { data := #[] }, .int .i64 0, .int .u8 0, .int .i64 0, .string { data := #[] }, .slice none 0 0, .slice none 0 0, .int .i64 0]) := Lib.hid (RSO.new S0.out _)
  have hlt1 := S0.out.b.lt
  have hsk := fun w' => slice_from a xs.length cap (A1 : Int) (by omega) (by omega) w'
  rw [Int.toNat_natCast] at hsk
  go_wp2_with fail
  generalize W1.alloc (.cells #[.int .u8 2, .string { data := #[] }, .int .i64 0, .int .u8 0, .int .i64 0, .string { data := #[] }, .slice none 0 0, .slice none 0 0, .int .i64 0] 46) = W2 at *
  clear hsk
  have hS := S1.out.e
  refine (rtextT_any 400 (by omega) (by omega) _ xs A1 (by omega) W2 ((HB.out.ext hS).drop (by omega)) (by omega)).mono ?_
  rintro e wq ⟨rfl, hq⟩
  clear hS
  rcases hq with ⟨hno, rfl⟩ | ⟨idv, kI, AI, hyes, hBk, hBl, hk0I, hil, rfl⟩
  · have HF : Hid (parseO xs = none) := Lib.hid (parseO_read_none (by rw [readP_at (k := 2) HH.out]; simp [readP2, optA, oI, oT, oV, oF, oQ, hno]))
    clear hno
    have ⟨q0, q1, q2, q3, q4, q5, q6, q7, q8⟩ := S1.out.v.nine
    have ⟨p0, p1, p2, p3, p4, p5, p6, p7, p8⟩ := S1.out.p.nine
    have r0 := S1.out.p.free 0
    have r1 := S1.out.p.free 1
    have r2 := S1.out.p.free 2
    have r3 := S1.out.p.free 3
    have r4 := S1.out.p.free 4
    have r5 := S1.out.p.free 5
    have r6 := S1.out.p.free 6
    have r7 := S1.out.p.free 7
    have r8 := S1.out.p.free 8
    go_wp2
    have y1 := S1.out.p.set9 (.int .u8 2) (.string { data := #[] }) (.int .i64 0) (.int .u8 0) (.int .i64 0) (.string { data := #[] }) (.slice none 0 0) (.slice none 0 0) (.int .i64 0)
    have y2 : RReadO xs w (.returned (.tuple #[.agg #[.int .u8 2, .string { data := #[] }, .int .i64 0, .int .u8 0, .int .i64 0, .string { data := #[] }, .slice none 0 0, .slice none 0 0, .int .i64 0], .bool false])) (set9W W2 w.heap.size (.int .u8 2) (.string { data := #[] }) (.int .i64 0) (.int .u8 0) (.int .i64 0) (.string { data := #[] }) (.slice none 0 0) (.slice none 0 0) (.int .i64 0)) := rreadO_exit S1.out.e S1.out.p (o := ⟨2, [], 0, zT, [], 0⟩) ⟨_, _, _, _, _, rfl, (OwnT.mk (k := 0) (s := []) (by unfold isI64; omega) (by simp) (OwnL.nil _ _ _)), (OwnF.nil _ _ _ _), (by simp), (by show isI64 0; unfold isI64; omega), (by show isI64 0; unfold isI64; omega)⟩ rightT_zT (fun h => by cases h) (fun _ => HF.out)
    change bodyPost _ _ _ _ _ (set9W W2 w.heap.size (.int .u8 2) (.string { data := #[] }) (.int .i64 0) (.int .u8 0) (.int .i64 0) (.string { data := #[] }) (.slice none 0 0) (.slice none 0 0) (.int .i64 0))
    generalize set9W W2 w.heap.size (.int .u8 2) (.string { data := #[] }) (.int .i64 0) (.int .u8 0) (.int .i64 0) (.string { data := #[] }) (.slice none 0 0) (.slice none 0 0) (.int .i64 0) = Wn at *
    obtain ⟨g0, g1, g2, g3, g4, g5, g6, g7, g8⟩ := y1.nine
    refine bodyPost_ret (v := .tuple #[.agg #[.int .u8 2, .string { data := #[] }, .int .i64 0, .int .u8 0, .int .i64 0, .string { data := #[] }, .slice none 0 0, .slice none 0 0, .int .i64 0], .bool false]) (by simp [results, Tryz.results72, go_sem, g0, g1, g2, g3, g4, g5, g6, g7, g8]) rfl ?_
    exact y2
  have HYI := Lib.hid hyes
  have HIL := Lib.hid hil
  clear hyes hil
  obtain ⟨A2, hA2⟩ : ∃ A2, A2 = AI := ⟨_, rfl⟩
  subst hA2
  have hadd2 : IntKind.i64.wrap ((A1 : Int) + (kI : Int)) = (A2 : Int) := by rw [IntWalk.i64_in _ (by omega)]; omega
  have hle2 : A1 ≤ A2 := by omega
  have hup2 : A2 ≤ xs.length := by omega
  clear hBk
  have ⟨q0, q1, q2, q3, q4, q5, q6, q7, q8⟩ := S1.out.v.nine
  have s0 := S1.out.v.free 0
  have s1 := S1.out.v.free 1
  have s2 := S1.out.v.free 2
  have s3 := S1.out.v.free 3
  have s4 := S1.out.v.free 4
  have s5 := S1.out.v.free 5
  have s6 := S1.out.v.free 6
  have s7 := S1.out.v.free 7
  have s8 := S1.out.v.free 8
  have T2 : Hid (RSO w (W2.setCell ⟨W1.heap.size, 1, none⟩ (.string (str idv))) W1.heap.size [.int .u8 0, .string { data := #[] }, .int .i64 0, .int .u8 0, .int .i64 0, .string { data := #[] }, .slice none 0 0, .slice none 0 0, .int .i64 0] [.int .u8 2, .string (str idv), .int .i64 0, .int .u8 0, .int .i64 0, .string { data := #[] }, .slice none 0 0, .slice none 0 0, .int .i64 0]) := Lib.hid (S1.out.set 1 (by simp) _)
  have HFp : Hid (readP xs = some ((⟨2, idv, 0, zT, [], 0⟩ : Opn), xs.drop A2)) := Lib.hid (by rw [readP_at (k := 2) HH.out]; simp [readP2, optA, oI, oT, oV, oF, oQ, HYI.out])
  have HEN := Lib.hid (end_ok (by omega) HFp.out)
  go_upto_region 38 with (fail)
  generalize (W2.setCell ⟨W1.heap.size, 1, none⟩ (.string (str idv))) = U2 at *
  clear q0 q1 q2 q3 q4 q5 q6 q7 q8 s0 s1 s2 s3 s4 s5 s6 s7 s8
  have ⟨q0, q1, q2, q3, q4, q5, q6, q7, q8⟩ := T2.out.v.nine
  have hOO : OpOwn (w.heap.size + 1) U2 (⟨2, idv, 0, zT, [], 0⟩ : Opn) [.int .u8 2, .string (str idv), .int .i64 0, .int .u8 0, .int .i64 0, .string { data := #[] }, .slice none 0 0, .slice none 0 0, .int .i64 0] := ⟨_, _, _, _, _, rfl, (OwnT.mk (k := 0) (s := []) (by unfold isI64; omega) (by simp) (OwnL.nil _ _ _)), (OwnF.nil _ _ _ _), HIL.out, (by show isI64 0; unfold isI64; omega), (by show isI64 0; unfold isI64; omega)⟩
  have HOO := Lib.hid hOO
  clear hOO
  have HEE : Hid ((∀ b, b = ((A2 : Int) == (xs.length : Int)) → (b = true → readP xs = some ((⟨2, idv, 0, zT, [], 0⟩ : Opn), [])) ∧ (b = false → parseO xs = none))) := Lib.hid (fun b hb => by rw [hb]; exact HEN.out)
  have ⟨p0, p1, p2, p3, p4, p5, p6, p7, p8⟩ := T2.out.p.nine
  have r0 := T2.out.p.free 0
  have r1 := T2.out.p.free 1
  have r2 := T2.out.p.free 2
  have r3 := T2.out.p.free 3
  have r4 := T2.out.p.free 4
  have r5 := T2.out.p.free 5
  have r6 := T2.out.p.free 6
  have r7 := T2.out.p.free 7
  have r8 := T2.out.p.free 8
  go_wp2
  have y1 := T2.out.p.set9 (.int .u8 2) (.string (str idv)) (.int .i64 0) (.int .u8 0) (.int .i64 0) (.string { data := #[] }) (.slice none 0 0) (.slice none 0 0) (.int .i64 0)
  have y2 : RReadO xs w (.returned (.tuple #[.agg #[.int .u8 2, .string (str idv), .int .i64 0, .int .u8 0, .int .i64 0, .string { data := #[] }, .slice none 0 0, .slice none 0 0, .int .i64 0], .bool ((A2 : Int) == (xs.length : Int))])) (set9W U2 w.heap.size (.int .u8 2) (.string (str idv)) (.int .i64 0) (.int .u8 0) (.int .i64 0) (.string { data := #[] }) (.slice none 0 0) (.slice none 0 0) (.int .i64 0)) := rreadO_exit T2.out.e T2.out.p HOO.out rightT_zT HEN.out.1 HEN.out.2
  change bodyPost _ _ _ _ _ (set9W U2 w.heap.size (.int .u8 2) (.string (str idv)) (.int .i64 0) (.int .u8 0) (.int .i64 0) (.string { data := #[] }) (.slice none 0 0) (.slice none 0 0) (.int .i64 0))
  generalize set9W U2 w.heap.size (.int .u8 2) (.string (str idv)) (.int .i64 0) (.int .u8 0) (.int .i64 0) (.string { data := #[] }) (.slice none 0 0) (.slice none 0 0) (.int .i64 0) = Wn at *
  obtain ⟨g0, g1, g2, g3, g4, g5, g6, g7, g8⟩ := y1.nine
  refine bodyPost_ret (v := .tuple #[.agg #[.int .u8 2, .string (str idv), .int .i64 0, .int .u8 0, .int .i64 0, .string { data := #[] }, .slice none 0 0, .slice none 0 0, .int .i64 0], .bool ((A2 : Int) == (xs.length : Int))]) (by simp [results, Tryz.results72, go_sem, g0, g1, g2, g3, g4, g5, g6, g7, g8]) rfl ?_
  exact y2

set_option maxRecDepth 100000 in
set_option maxHeartbeats 16000000 in
theorem rreadO_3 (v : Value) (xs : List UInt8) (w : World) (h : Bytes w v xs) (r0 : List UInt8) (hh : hdB 5 xs = some (3, r0)) :
    Calls Tryz.prog 72 #[v] w (RReadO xs w) := by
  have HB := Lib.hid h
  obtain ⟨a, cap, rfl, hcap, hcm, -⟩ := id h
  have hlm := h.length_le
  have HH := Lib.hid hh
  clear h hh
  have hE0 := (Ext.refl w).alloc (.cells #[.int .u8 0, .string { data := #[] }, .int .i64 0, .int .u8 0, .int .i64 0, .string { data := #[] }, .slice none 0 0, .slice none 0 0, .int .i64 0] 46)
  have hB0 := BoxL.new w [.int .u8 0, .string { data := #[] }, .int .i64 0, .int .u8 0, .int .i64 0, .string { data := #[] }, .slice none 0 0, .slice none 0 0, .int .i64 0] 46
  go_enter Tryz.func72, Tryz.ntmps72
  go_wp2_with fail
  generalize w.alloc (.cells #[.int .u8 0, .string { data := #[] }, .int .i64 0, .int .u8 0, .int .i64 0, .string { data := #[] }, .slice none 0 0, .slice none 0 0, .int .i64 0] 46) = W1 at *
  have S0 : Hid (OSt w W1 [.int .u8 0, .string { data := #[] }, .int .i64 0, .int .u8 0, .int .i64 0, .string { data := #[] }, .slice none 0 0, .slice none 0 0, .int .i64 0]) := Lib.hid ⟨hE0, hB0⟩
  clear hE0 hB0
  refine (rnumAt_any 5 _ xs 0 (by omega) W1 (HB.out.ext S0.out.e) (by omega)).mono ?_
  rintro e wq ⟨rfl, n, k1, A1, rfl, hBk, hBl, hni, hq⟩
  obtain ⟨hni1, hni2⟩ := hni
  rcases hq with ⟨hno, -⟩ | ⟨hkz, hn0, hn1, hyes⟩
  · have hno : hdB 5 xs = none := hno
    rw [hno] at HH; cases HH.out
  have hyes : hdB 5 xs = some (n, xs.drop A1) := hyes
  obtain ⟨rfl, hr0⟩ : n = 3 ∧ xs.drop A1 = r0 := by
    have := HH.out
    rw [hyes] at this
    injection this with this; injection this with h1 h2
    exact ⟨h1, h2⟩
  subst hr0
  have hA1 : k1 = A1 := by omega
  subst hA1
  have hk0 : 0 < k1 := by simp at hkz; omega
  obtain ⟨A1, hA1⟩ : ∃ A1, A1 = k1 := ⟨_, rfl⟩
  subst hA1
  clear hyes hBk hn0 hn1 hni1 hni2
  have S1 : Hid (RSO w (W1.alloc (.cells #[.int .u8 3, .string { data := #[] }, .int .i64 0, .int .u8 0, .int .i64 0, .string { data := #[] }, .slice none 0 0, .slice none 0 0, .int .i64 0] 46)) W1.heap.size [.int .u8 0, .string { data := #[] }, .int .i64 0, .int .u8 0, .int .i64 0, .string { data := #[] }, .slice none 0 0, .slice none 0 0, .int .i64 0] [.int .u8 3, .string { data := #[] }, .int .i64 0, .int .u8 0, .int .i64 0, .string { data := #[] }, .slice none 0 0, .slice none 0 0, .int .i64 0]) := Lib.hid (RSO.new S0.out _)
  have hlt1 := S0.out.b.lt
  have hsk := fun w' => slice_from a xs.length cap (A1 : Int) (by omega) (by omega) w'
  rw [Int.toNat_natCast] at hsk
  go_wp2_with fail
  generalize W1.alloc (.cells #[.int .u8 3, .string { data := #[] }, .int .i64 0, .int .u8 0, .int .i64 0, .string { data := #[] }, .slice none 0 0, .slice none 0 0, .int .i64 0] 46) = W2 at *
  clear hsk
  have hS := S1.out.e
  refine (rtextT_any 400 (by omega) (by omega) _ xs A1 (by omega) W2 ((HB.out.ext hS).drop (by omega)) (by omega)).mono ?_
  rintro e wq ⟨rfl, hq⟩
  clear hS
  rcases hq with ⟨hno, rfl⟩ | ⟨idv, kI, AI, hyes, hBk, hBl, hk0I, hil, rfl⟩
  · have HF : Hid (parseO xs = none) := Lib.hid (parseO_read_none (by rw [readP_at (k := 3) HH.out]; simp [readP2, optA, oI, oT, oV, oF, oQ, hno]))
    clear hno
    have ⟨q0, q1, q2, q3, q4, q5, q6, q7, q8⟩ := S1.out.v.nine
    have ⟨p0, p1, p2, p3, p4, p5, p6, p7, p8⟩ := S1.out.p.nine
    have r0 := S1.out.p.free 0
    have r1 := S1.out.p.free 1
    have r2 := S1.out.p.free 2
    have r3 := S1.out.p.free 3
    have r4 := S1.out.p.free 4
    have r5 := S1.out.p.free 5
    have r6 := S1.out.p.free 6
    have r7 := S1.out.p.free 7
    have r8 := S1.out.p.free 8
    go_wp2
    have y1 := S1.out.p.set9 (.int .u8 3) (.string { data := #[] }) (.int .i64 0) (.int .u8 0) (.int .i64 0) (.string { data := #[] }) (.slice none 0 0) (.slice none 0 0) (.int .i64 0)
    have y2 : RReadO xs w (.returned (.tuple #[.agg #[.int .u8 3, .string { data := #[] }, .int .i64 0, .int .u8 0, .int .i64 0, .string { data := #[] }, .slice none 0 0, .slice none 0 0, .int .i64 0], .bool false])) (set9W W2 w.heap.size (.int .u8 3) (.string { data := #[] }) (.int .i64 0) (.int .u8 0) (.int .i64 0) (.string { data := #[] }) (.slice none 0 0) (.slice none 0 0) (.int .i64 0)) := rreadO_exit S1.out.e S1.out.p (o := ⟨3, [], 0, zT, [], 0⟩) ⟨_, _, _, _, _, rfl, (OwnT.mk (k := 0) (s := []) (by unfold isI64; omega) (by simp) (OwnL.nil _ _ _)), (OwnF.nil _ _ _ _), (by simp), (by show isI64 0; unfold isI64; omega), (by show isI64 0; unfold isI64; omega)⟩ rightT_zT (fun h => by cases h) (fun _ => HF.out)
    change bodyPost _ _ _ _ _ (set9W W2 w.heap.size (.int .u8 3) (.string { data := #[] }) (.int .i64 0) (.int .u8 0) (.int .i64 0) (.string { data := #[] }) (.slice none 0 0) (.slice none 0 0) (.int .i64 0))
    generalize set9W W2 w.heap.size (.int .u8 3) (.string { data := #[] }) (.int .i64 0) (.int .u8 0) (.int .i64 0) (.string { data := #[] }) (.slice none 0 0) (.slice none 0 0) (.int .i64 0) = Wn at *
    obtain ⟨g0, g1, g2, g3, g4, g5, g6, g7, g8⟩ := y1.nine
    refine bodyPost_ret (v := .tuple #[.agg #[.int .u8 3, .string { data := #[] }, .int .i64 0, .int .u8 0, .int .i64 0, .string { data := #[] }, .slice none 0 0, .slice none 0 0, .int .i64 0], .bool false]) (by simp [results, Tryz.results72, go_sem, g0, g1, g2, g3, g4, g5, g6, g7, g8]) rfl ?_
    exact y2
  have HYI := Lib.hid hyes
  have HIL := Lib.hid hil
  clear hyes hil
  obtain ⟨A2, hA2⟩ : ∃ A2, A2 = AI := ⟨_, rfl⟩
  subst hA2
  have hadd2 : IntKind.i64.wrap ((A1 : Int) + (kI : Int)) = (A2 : Int) := by rw [IntWalk.i64_in _ (by omega)]; omega
  have hle2 : A1 ≤ A2 := by omega
  have hup2 : A2 ≤ xs.length := by omega
  clear hBk
  have ⟨q0, q1, q2, q3, q4, q5, q6, q7, q8⟩ := S1.out.v.nine
  have s0 := S1.out.v.free 0
  have s1 := S1.out.v.free 1
  have s2 := S1.out.v.free 2
  have s3 := S1.out.v.free 3
  have s4 := S1.out.v.free 4
  have s5 := S1.out.v.free 5
  have s6 := S1.out.v.free 6
  have s7 := S1.out.v.free 7
  have s8 := S1.out.v.free 8
  have T2 : Hid (RSO w (W2.setCell ⟨W1.heap.size, 1, none⟩ (.string (str idv))) W1.heap.size [.int .u8 0, .string { data := #[] }, .int .i64 0, .int .u8 0, .int .i64 0, .string { data := #[] }, .slice none 0 0, .slice none 0 0, .int .i64 0] [.int .u8 3, .string (str idv), .int .i64 0, .int .u8 0, .int .i64 0, .string { data := #[] }, .slice none 0 0, .slice none 0 0, .int .i64 0]) := Lib.hid (S1.out.set 1 (by simp) _)
  have hsk := fun w' => slice_from a xs.length cap (A2 : Int) (by omega) (by omega) w'
  rw [Int.toNat_natCast] at hsk
  go_wp2_with fail
  generalize (W2.setCell ⟨W1.heap.size, 1, none⟩ (.string (str idv))) = U2 at *
  clear hsk
  clear q0 q1 q2 q3 q4 q5 q6 q7 q8 s0 s1 s2 s3 s4 s5 s6 s7 s8
  have hS := T2.out.e
  refine (rnumN_any _ xs A2 (by omega) U2 ((HB.out.ext hS).drop (by omega))).mono ?_
  rintro e wq ⟨rfl, hq⟩
  clear hS
  rcases hq with ⟨hno, nn, rfl⟩ | ⟨tk, kT, AT, hyes, hBk, hBl, hkzT, hti, rfl⟩
  · have HF : Hid (parseO xs = none) := Lib.hid (parseO_read_none (by rw [readP_at (k := 3) HH.out]; simp [readP2, optA, oI, oT, oV, oF, oQ, HYI.out, hno]))
    clear hno
    have ⟨q0, q1, q2, q3, q4, q5, q6, q7, q8⟩ := T2.out.v.nine
    have ⟨p0, p1, p2, p3, p4, p5, p6, p7, p8⟩ := T2.out.p.nine
    have r0 := T2.out.p.free 0
    have r1 := T2.out.p.free 1
    have r2 := T2.out.p.free 2
    have r3 := T2.out.p.free 3
    have r4 := T2.out.p.free 4
    have r5 := T2.out.p.free 5
    have r6 := T2.out.p.free 6
    have r7 := T2.out.p.free 7
    have r8 := T2.out.p.free 8
    go_wp2
    have y1 := T2.out.p.set9 (.int .u8 3) (.string (str idv)) (.int .i64 0) (.int .u8 0) (.int .i64 0) (.string { data := #[] }) (.slice none 0 0) (.slice none 0 0) (.int .i64 0)
    have y2 : RReadO xs w (.returned (.tuple #[.agg #[.int .u8 3, .string (str idv), .int .i64 0, .int .u8 0, .int .i64 0, .string { data := #[] }, .slice none 0 0, .slice none 0 0, .int .i64 0], .bool false])) (set9W U2 w.heap.size (.int .u8 3) (.string (str idv)) (.int .i64 0) (.int .u8 0) (.int .i64 0) (.string { data := #[] }) (.slice none 0 0) (.slice none 0 0) (.int .i64 0)) := rreadO_exit T2.out.e T2.out.p (o := ⟨3, idv, 0, zT, [], 0⟩) ⟨_, _, _, _, _, rfl, (OwnT.mk (k := 0) (s := []) (by unfold isI64; omega) (by simp) (OwnL.nil _ _ _)), (OwnF.nil _ _ _ _), HIL.out, (by show isI64 0; unfold isI64; omega), (by show isI64 0; unfold isI64; omega)⟩ rightT_zT (fun h => by cases h) (fun _ => HF.out)
    change bodyPost _ _ _ _ _ (set9W U2 w.heap.size (.int .u8 3) (.string (str idv)) (.int .i64 0) (.int .u8 0) (.int .i64 0) (.string { data := #[] }) (.slice none 0 0) (.slice none 0 0) (.int .i64 0))
    generalize set9W U2 w.heap.size (.int .u8 3) (.string (str idv)) (.int .i64 0) (.int .u8 0) (.int .i64 0) (.string { data := #[] }) (.slice none 0 0) (.slice none 0 0) (.int .i64 0) = Wn at *
    obtain ⟨g0, g1, g2, g3, g4, g5, g6, g7, g8⟩ := y1.nine
    refine bodyPost_ret (v := .tuple #[.agg #[.int .u8 3, .string (str idv), .int .i64 0, .int .u8 0, .int .i64 0, .string { data := #[] }, .slice none 0 0, .slice none 0 0, .int .i64 0], .bool false]) (by simp [results, Tryz.results72, go_sem, g0, g1, g2, g3, g4, g5, g6, g7, g8]) rfl ?_
    exact y2
  have HYT := Lib.hid hyes
  have HTI := Lib.hid hti
  clear hyes hti
  obtain ⟨A3, hA3⟩ : ∃ A3, A3 = AT := ⟨_, rfl⟩
  subst hA3
  have hadd3 : IntKind.i64.wrap ((A2 : Int) + (kT : Int)) = (A3 : Int) := by rw [IntWalk.i64_in _ (by omega)]; omega
  have hle3 : A2 ≤ A3 := by omega
  have hup3 : A3 ≤ xs.length := by omega
  clear hBk
  have ⟨q0, q1, q2, q3, q4, q5, q6, q7, q8⟩ := T2.out.v.nine
  have s0 := T2.out.v.free 0
  have s1 := T2.out.v.free 1
  have s2 := T2.out.v.free 2
  have s3 := T2.out.v.free 3
  have s4 := T2.out.v.free 4
  have s5 := T2.out.v.free 5
  have s6 := T2.out.v.free 6
  have s7 := T2.out.v.free 7
  have s8 := T2.out.v.free 8
  have T3 : Hid (RSO w (U2.setCell ⟨W1.heap.size, 2, none⟩ (.int .i64 tk)) W1.heap.size [.int .u8 0, .string { data := #[] }, .int .i64 0, .int .u8 0, .int .i64 0, .string { data := #[] }, .slice none 0 0, .slice none 0 0, .int .i64 0] [.int .u8 3, .string (str idv), .int .i64 tk, .int .u8 0, .int .i64 0, .string { data := #[] }, .slice none 0 0, .slice none 0 0, .int .i64 0]) := Lib.hid (T2.out.set 2 (by simp) _)
  have hsk := fun w' => slice_from a xs.length cap (A3 : Int) (by omega) (by omega) w'
  rw [Int.toNat_natCast] at hsk
  go_wp2_with fail
  generalize (U2.setCell ⟨W1.heap.size, 2, none⟩ (.int .i64 tk)) = U3 at *
  clear hsk
  clear q0 q1 q2 q3 q4 q5 q6 q7 q8 s0 s1 s2 s3 s4 s5 s6 s7 s8
  have hS := T3.out.e
  refine (rtakeV_any _ (xs.drop A3) U3 ((HB.out.ext hS).drop (by omega))).mono ?_
  intro e V4 hq
  clear hS
  unfold RTakePost at hq
  cases hT : takeV' (xs.drop A3) with
  | none =>
    rw [hT] at hq
    obtain ⟨t0, v0, rfl, rfl, rfl, hE⟩ := hq
    have HF : Hid (parseO xs = none) := Lib.hid (parseO_read_none (by rw [readP_at (k := 3) HH.out]; simp [readP2, optA, oI, oT, oV, oF, oQ, HYI.out, HYT.out, hT]))
    clear hT
    have SS := Lib.hid ((T3.out.ext hE).ext ((Ext.refl V4).alloc (.cells #[.int .u8 0, .int .i64 0, .string { data := #[] }, .slice none 0 0] 43)))
    clear hE
    go_upto_region 30 with (fail)
    generalize V4.alloc (.cells #[.int .u8 0, .int .i64 0, .string { data := #[] }, .slice none 0 0] 43) = VV at *
    have ⟨q0, q1, q2, q3, q4, q5, q6, q7, q8⟩ := SS.out.v.nine
    have ⟨p0, p1, p2, p3, p4, p5, p6, p7, p8⟩ := SS.out.p.nine
    have r0 := SS.out.p.free 0
    have r1 := SS.out.p.free 1
    have r2 := SS.out.p.free 2
    have r3 := SS.out.p.free 3
    have r4 := SS.out.p.free 4
    have r5 := SS.out.p.free 5
    have r6 := SS.out.p.free 6
    have r7 := SS.out.p.free 7
    have r8 := SS.out.p.free 8
    go_wp2
    have y1 := SS.out.p.set9 (.int .u8 3) (.string (str idv)) (.int .i64 tk) (.int .u8 0) (.int .i64 0) (.string { data := #[] }) (.slice none 0 0) (.slice none 0 0) (.int .i64 0)
    have y2 : RReadO xs w (.returned (.tuple #[.agg #[.int .u8 3, .string (str idv), .int .i64 tk, .int .u8 0, .int .i64 0, .string { data := #[] }, .slice none 0 0, .slice none 0 0, .int .i64 0], .bool false])) (set9W VV w.heap.size (.int .u8 3) (.string (str idv)) (.int .i64 tk) (.int .u8 0) (.int .i64 0) (.string { data := #[] }) (.slice none 0 0) (.slice none 0 0) (.int .i64 0)) := rreadO_exit SS.out.e SS.out.p (o := ⟨3, idv, tk, zT, [], 0⟩) ⟨_, _, _, _, _, rfl, (OwnT.mk (k := 0) (s := []) (by unfold isI64; omega) (by simp) (OwnL.nil _ _ _)), (OwnF.nil _ _ _ _), HIL.out, HTI.out, (by show isI64 0; unfold isI64; omega)⟩ rightT_zT (fun h => by cases h) (fun _ => HF.out)
    change bodyPost _ _ _ _ _ (set9W VV w.heap.size (.int .u8 3) (.string (str idv)) (.int .i64 tk) (.int .u8 0) (.int .i64 0) (.string { data := #[] }) (.slice none 0 0) (.slice none 0 0) (.int .i64 0))
    generalize set9W VV w.heap.size (.int .u8 3) (.string (str idv)) (.int .i64 tk) (.int .u8 0) (.int .i64 0) (.string { data := #[] }) (.slice none 0 0) (.slice none 0 0) (.int .i64 0) = Wn at *
    obtain ⟨g0, g1, g2, g3, g4, g5, g6, g7, g8⟩ := y1.nine
    refine bodyPost_ret (v := .tuple #[.agg #[.int .u8 3, .string (str idv), .int .i64 tk, .int .u8 0, .int .i64 0, .string { data := #[] }, .slice none 0 0, .slice none 0 0, .int .i64 0], .bool false]) (by simp [results, Tryz.results72, go_sem, g0, g1, g2, g3, g4, g5, g6, g7, g8]) rfl ?_
    exact y2
  | some p =>
  obtain ⟨tv, rV⟩ := p
  rw [hT] at hq
  obtain ⟨v0, kV, rfl, hk0V, hkVl, hrV, hE, hO⟩ := hq
  obtain ⟨kV4, nV4, sV4, aV4, mV4, cV4, rfl⟩ := ownT_four hO
  rw [List.length_drop] at hkVl
  rw [List.drop_drop] at hrV
  subst hrV
  obtain ⟨A4, hA4⟩ : ∃ A4, A4 = A3 + kV := ⟨_, rfl⟩
  rw [← hA4] at hT
  have HYV := Lib.hid hT
  have HRT := Lib.hid (takeV_inv hT).2.1
  have hkzV : ((kV : Int) == 0) = false := by simp; omega
  clear hT
  have hadd4 : IntKind.i64.wrap ((A3 : Int) + (kV : Int)) = (A4 : Int) := by rw [IntWalk.i64_in _ (by omega)]; omega
  have hle4 : A3 ≤ A4 := by omega
  have hup4 : A4 ≤ xs.length := by omega
  clear hA4
  have SV := Lib.hid ((T3.out.ext hE).ext ((Ext.refl V4).alloc (.cells #[.int .u8 kV4, .int .i64 nV4, .string sV4, .slice aV4 mV4 cV4] 43)))
  have NV := Lib.hid (BoxL.new V4 [.int .u8 kV4, .int .i64 nV4, .string sV4, .slice aV4 mV4 cV4] 43)
  have hltB : W1.heap.size < V4.heap.size := by have := (T3.out.ext hE).v.lt; omega
  have hltW := T3.out.v.lt
  have HVo := Lib.hid ((hO.ext ((Ext.refl V4).alloc (.cells #[.int .u8 kV4, .int .i64 nV4, .string sV4, .slice aV4 mV4 cV4] 43))).mono (show W1.heap.size + 1 ≤ _ by omega))
  clear hE hO
  go_upto_region 31 with (fail)
  have hNV0 := NV.out.cell 0 _ rfl
  have hNV1 := NV.out.cell 1 _ rfl
  have hNV2 := NV.out.cell 2 _ rfl
  have hNV3 := NV.out.cell 3 _ rfl
  generalize V4.alloc (.cells #[.int .u8 kV4, .int .i64 nV4, .string sV4, .slice aV4 mV4 cV4] 43) = VV at *
  have ⟨q0, q1, q2, q3, q4, q5, q6, q7, q8⟩ := SV.out.v.nine
  have s0 := SV.out.v.free 0
  have s1 := SV.out.v.free 1
  have s2 := SV.out.v.free 2
  have s3 := SV.out.v.free 3
  have s4 := SV.out.v.free 4
  have s5 := SV.out.v.free 5
  have s6 := SV.out.v.free 6
  have s7 := SV.out.v.free 7
  have s8 := SV.out.v.free 8
  have T4 : Hid (RSO w ((((VV.setCell ⟨W1.heap.size, 3, none⟩ (.int .u8 kV4)).setCell ⟨W1.heap.size, 4, none⟩ (.int .i64 nV4)).setCell ⟨W1.heap.size, 5, none⟩ (.string sV4)).setCell ⟨W1.heap.size, 6, none⟩ (.slice aV4 mV4 cV4)) W1.heap.size [.int .u8 0, .string { data := #[] }, .int .i64 0, .int .u8 0, .int .i64 0, .string { data := #[] }, .slice none 0 0, .slice none 0 0, .int .i64 0] [.int .u8 3, .string (str idv), .int .i64 tk, .int .u8 kV4, .int .i64 nV4, .string sV4, .slice aV4 mV4 cV4, .slice none 0 0, .int .i64 0]) := Lib.hid ((((SV.out.set 3 (by simp) _).set 4 (by simp) _).set 5 (by simp) _).set 6 (by simp) _)
  have HVon : Hid (OwnT 43 ((((VV.setCell ⟨W1.heap.size, 3, none⟩ (.int .u8 kV4)).setCell ⟨W1.heap.size, 4, none⟩ (.int .i64 nV4)).setCell ⟨W1.heap.size, 5, none⟩ (.string sV4)).setCell ⟨W1.heap.size, 6, none⟩ (.slice aV4 mV4 cV4)) (W1.heap.size + 1) tv (.agg #[.int .u8 kV4, .int .i64 nV4, .string sV4, .slice aV4 mV4 cV4])) := Lib.hid (OwnT.far (OwnT.far (OwnT.far (OwnT.far HVo.out (by omega) 3 _) (by omega) 4 _) (by omega) 5 _) (by omega) 6 _)
  clear HVo
  have HVo := HVon
  clear HVon
  have hsk := fun w' => slice_from a xs.length cap (A4 : Int) (by omega) (by omega) w'
  rw [Int.toNat_natCast] at hsk
  go_wp2_with fail
  generalize ((((VV.setCell ⟨W1.heap.size, 3, none⟩ (.int .u8 kV4)).setCell ⟨W1.heap.size, 4, none⟩ (.int .i64 nV4)).setCell ⟨W1.heap.size, 5, none⟩ (.string sV4)).setCell ⟨W1.heap.size, 6, none⟩ (.slice aV4 mV4 cV4)) = U4 at *
  clear hsk
  clear q0 q1 q2 q3 q4 q5 q6 q7 q8 s0 s1 s2 s3 s4 s5 s6 s7 s8
  have hS := T4.out.e
  refine (rtake9_any _ (xs.drop A4) U4 ((HB.out.ext hS).drop (by omega))).mono ?_
  rintro e V5 ⟨fa, fm, fc, fl, kF, rfl, hE, hO, hno, hyes⟩
  clear hS
  cases hT : takeF (xs.drop A4) with
  | none =>
    obtain ⟨rfl, rfl⟩ := hno hT
    have HF : Hid (parseO xs = none) := Lib.hid (parseO_read_none (by rw [readP_at (k := 3) HH.out]; simp [readP2, optA, oI, oT, oV, oF, oQ, HYI.out, HYT.out, HYV.out, hT]))
    clear hT hno hyes hO
    have SS := Lib.hid (T4.out.ext hE)
    have HVe := Lib.hid (HVo.out.ext hE)
    clear hE
    have ⟨q0, q1, q2, q3, q4, q5, q6, q7, q8⟩ := SS.out.v.nine
    have ⟨p0, p1, p2, p3, p4, p5, p6, p7, p8⟩ := SS.out.p.nine
    have r0 := SS.out.p.free 0
    have r1 := SS.out.p.free 1
    have r2 := SS.out.p.free 2
    have r3 := SS.out.p.free 3
    have r4 := SS.out.p.free 4
    have r5 := SS.out.p.free 5
    have r6 := SS.out.p.free 6
    have r7 := SS.out.p.free 7
    have r8 := SS.out.p.free 8
    go_wp2
    have y1 := SS.out.p.set9 (.int .u8 3) (.string (str idv)) (.int .i64 tk) (.int .u8 kV4) (.int .i64 nV4) (.string sV4) (.slice aV4 mV4 cV4) (.slice none 0 0) (.int .i64 0)
    have y2 : RReadO xs w (.returned (.tuple #[.agg #[.int .u8 3, .string (str idv), .int .i64 tk, .int .u8 kV4, .int .i64 nV4, .string sV4, .slice aV4 mV4 cV4, .slice none 0 0, .int .i64 0], .bool false])) (set9W V5 w.heap.size (.int .u8 3) (.string (str idv)) (.int .i64 tk) (.int .u8 kV4) (.int .i64 nV4) (.string sV4) (.slice aV4 mV4 cV4) (.slice none 0 0) (.int .i64 0)) := rreadO_exit SS.out.e SS.out.p (o := ⟨3, idv, tk, tv, [], 0⟩) ⟨_, _, _, _, _, rfl, (HVe.out.mono (by omega)), (OwnF.nil _ _ _ _), HIL.out, HTI.out, (by show isI64 0; unfold isI64; omega)⟩ HRT.out (fun h => by cases h) (fun _ => HF.out)
    change bodyPost _ _ _ _ _ (set9W V5 w.heap.size (.int .u8 3) (.string (str idv)) (.int .i64 tk) (.int .u8 kV4) (.int .i64 nV4) (.string sV4) (.slice aV4 mV4 cV4) (.slice none 0 0) (.int .i64 0))
    generalize set9W V5 w.heap.size (.int .u8 3) (.string (str idv)) (.int .i64 tk) (.int .u8 kV4) (.int .i64 nV4) (.string sV4) (.slice aV4 mV4 cV4) (.slice none 0 0) (.int .i64 0) = Wn at *
    obtain ⟨g0, g1, g2, g3, g4, g5, g6, g7, g8⟩ := y1.nine
    refine bodyPost_ret (v := .tuple #[.agg #[.int .u8 3, .string (str idv), .int .i64 tk, .int .u8 kV4, .int .i64 nV4, .string sV4, .slice aV4 mV4 cV4, .slice none 0 0, .int .i64 0], .bool false]) (by simp [results, Tryz.results72, go_sem, g0, g1, g2, g3, g4, g5, g6, g7, g8]) rfl ?_
    exact y2
  | some p =>
  obtain ⟨l2, rF⟩ := p
  obtain ⟨rfl, hk0F, hkFl, hrF⟩ := hyes l2 rF hT
  rw [List.length_drop] at hkFl
  rw [List.drop_drop] at hrF
  subst hrF
  obtain ⟨A5, hA5⟩ : ∃ A5, A5 = A4 + kF := ⟨_, rfl⟩
  rw [← hA5] at hT
  have HYF := Lib.hid hT
  have hkzF : ((kF : Int) == 0) = false := by simp; omega
  clear hT hno hyes
  have hadd5 : IntKind.i64.wrap ((A4 : Int) + (kF : Int)) = (A5 : Int) := by rw [IntWalk.i64_in _ (by omega)]; omega
  have hle5 : A4 ≤ A5 := by omega
  have hup5 : A5 ≤ xs.length := by omega
  clear hA5
  have hltW := T4.out.v.lt
  have SF := Lib.hid (T4.out.ext hE)
  have HFo := Lib.hid (OwnF.mono hO (show W1.heap.size + 1 ≤ _ by omega))
  have HVe := Lib.hid (HVo.out.ext hE)
  clear HVo
  have HVo := HVe
  clear HVe
  clear hE hO
  have ⟨q0, q1, q2, q3, q4, q5, q6, q7, q8⟩ := SF.out.v.nine
  have s0 := SF.out.v.free 0
  have s1 := SF.out.v.free 1
  have s2 := SF.out.v.free 2
  have s3 := SF.out.v.free 3
  have s4 := SF.out.v.free 4
  have s5 := SF.out.v.free 5
  have s6 := SF.out.v.free 6
  have s7 := SF.out.v.free 7
  have s8 := SF.out.v.free 8
  have T5 : Hid (RSO w (V5.setCell ⟨W1.heap.size, 7, none⟩ (.slice fa fm fc)) W1.heap.size [.int .u8 0, .string { data := #[] }, .int .i64 0, .int .u8 0, .int .i64 0, .string { data := #[] }, .slice none 0 0, .slice none 0 0, .int .i64 0] [.int .u8 3, .string (str idv), .int .i64 tk, .int .u8 kV4, .int .i64 nV4, .string sV4, .slice aV4 mV4 cV4, .slice fa fm fc, .int .i64 0]) := Lib.hid (SF.out.set 7 (by simp) _)
  have HVon : Hid (OwnT 43 (V5.setCell ⟨W1.heap.size, 7, none⟩ (.slice fa fm fc)) (W1.heap.size + 1) tv (.agg #[.int .u8 kV4, .int .i64 nV4, .string sV4, .slice aV4 mV4 cV4])) := Lib.hid (OwnT.far HVo.out (by omega) 7 _)
  clear HVo
  have HVo := HVon
  clear HVon
  have HFon : Hid (OwnFF (W1.heap.size + 1) (V5.setCell ⟨W1.heap.size, 7, none⟩ (.slice fa fm fc)) (.slice fa fm fc) fl) := Lib.hid (OwnFF.far HFo.out (by omega) 7 _)
  clear HFo
  have HFo := HFon
  clear HFon
  have HFp : Hid (readP xs = some ((⟨3, idv, tk, tv, fl, 0⟩ : Opn), xs.drop A5)) := Lib.hid (by rw [readP_at (k := 3) HH.out]; simp [readP2, optA, oI, oT, oV, oF, oQ, HYI.out, HYT.out, HYV.out, HYF.out])
  have HEN := Lib.hid (end_ok (by omega) HFp.out)
  go_upto_region 38 with (fail)
  generalize (V5.setCell ⟨W1.heap.size, 7, none⟩ (.slice fa fm fc)) = U5 at *
  clear q0 q1 q2 q3 q4 q5 q6 q7 q8 s0 s1 s2 s3 s4 s5 s6 s7 s8
  have ⟨q0, q1, q2, q3, q4, q5, q6, q7, q8⟩ := T5.out.v.nine
  have hOO : OpOwn (w.heap.size + 1) U5 (⟨3, idv, tk, tv, fl, 0⟩ : Opn) [.int .u8 3, .string (str idv), .int .i64 tk, .int .u8 kV4, .int .i64 nV4, .string sV4, .slice aV4 mV4 cV4, .slice fa fm fc, .int .i64 0] := ⟨_, _, _, _, _, rfl, (HVo.out.mono (by omega)), (OwnF.mono HFo.out (by omega)), HIL.out, HTI.out, (by show isI64 0; unfold isI64; omega)⟩
  have HOO := Lib.hid hOO
  clear hOO
  have HEE : Hid ((∀ b, b = ((A5 : Int) == (xs.length : Int)) → (b = true → readP xs = some ((⟨3, idv, tk, tv, fl, 0⟩ : Opn), [])) ∧ (b = false → parseO xs = none))) := Lib.hid (fun b hb => by rw [hb]; exact HEN.out)
  have ⟨p0, p1, p2, p3, p4, p5, p6, p7, p8⟩ := T5.out.p.nine
  have r0 := T5.out.p.free 0
  have r1 := T5.out.p.free 1
  have r2 := T5.out.p.free 2
  have r3 := T5.out.p.free 3
  have r4 := T5.out.p.free 4
  have r5 := T5.out.p.free 5
  have r6 := T5.out.p.free 6
  have r7 := T5.out.p.free 7
  have r8 := T5.out.p.free 8
  go_wp2
  have y1 := T5.out.p.set9 (.int .u8 3) (.string (str idv)) (.int .i64 tk) (.int .u8 kV4) (.int .i64 nV4) (.string sV4) (.slice aV4 mV4 cV4) (.slice fa fm fc) (.int .i64 0)
  have y2 : RReadO xs w (.returned (.tuple #[.agg #[.int .u8 3, .string (str idv), .int .i64 tk, .int .u8 kV4, .int .i64 nV4, .string sV4, .slice aV4 mV4 cV4, .slice fa fm fc, .int .i64 0], .bool ((A5 : Int) == (xs.length : Int))])) (set9W U5 w.heap.size (.int .u8 3) (.string (str idv)) (.int .i64 tk) (.int .u8 kV4) (.int .i64 nV4) (.string sV4) (.slice aV4 mV4 cV4) (.slice fa fm fc) (.int .i64 0)) := rreadO_exit T5.out.e T5.out.p HOO.out HRT.out HEN.out.1 HEN.out.2
  change bodyPost _ _ _ _ _ (set9W U5 w.heap.size (.int .u8 3) (.string (str idv)) (.int .i64 tk) (.int .u8 kV4) (.int .i64 nV4) (.string sV4) (.slice aV4 mV4 cV4) (.slice fa fm fc) (.int .i64 0))
  generalize set9W U5 w.heap.size (.int .u8 3) (.string (str idv)) (.int .i64 tk) (.int .u8 kV4) (.int .i64 nV4) (.string sV4) (.slice aV4 mV4 cV4) (.slice fa fm fc) (.int .i64 0) = Wn at *
  obtain ⟨g0, g1, g2, g3, g4, g5, g6, g7, g8⟩ := y1.nine
  refine bodyPost_ret (v := .tuple #[.agg #[.int .u8 3, .string (str idv), .int .i64 tk, .int .u8 kV4, .int .i64 nV4, .string sV4, .slice aV4 mV4 cV4, .slice fa fm fc, .int .i64 0], .bool ((A5 : Int) == (xs.length : Int))]) (by simp [results, Tryz.results72, go_sem, g0, g1, g2, g3, g4, g5, g6, g7, g8]) rfl ?_
  exact y2

set_option maxRecDepth 100000 in
set_option maxHeartbeats 16000000 in
theorem rreadO_4 (v : Value) (xs : List UInt8) (w : World) (h : Bytes w v xs) (r0 : List UInt8) (hh : hdB 5 xs = some (4, r0)) :
    Calls Tryz.prog 72 #[v] w (RReadO xs w) := by
  have HB := Lib.hid h
  obtain ⟨a, cap, rfl, hcap, hcm, -⟩ := id h
  have hlm := h.length_le
  have HH := Lib.hid hh
  clear h hh
  have hE0 := (Ext.refl w).alloc (.cells #[.int .u8 0, .string { data := #[] }, .int .i64 0, .int .u8 0, .int .i64 0, .string { data := #[] }, .slice none 0 0, .slice none 0 0, .int .i64 0] 46)
  have hB0 := BoxL.new w [.int .u8 0, .string { data := #[] }, .int .i64 0, .int .u8 0, .int .i64 0, .string { data := #[] }, .slice none 0 0, .slice none 0 0, .int .i64 0] 46
  go_enter Tryz.func72, Tryz.ntmps72
  go_wp2_with fail
  generalize w.alloc (.cells #[.int .u8 0, .string { data := #[] }, .int .i64 0, .int .u8 0, .int .i64 0, .string { data := #[] }, .slice none 0 0, .slice none 0 0, .int .i64 0] 46) = W1 at *
  have S0 : Hid (OSt w W1 [.int .u8 0, .string { data := #[] }, .int .i64 0, .int .u8 0, .int .i64 0, .string { data := #[] }, .slice none 0 0, .slice none 0 0, .int .i64 0]) := Lib.hid ⟨hE0, hB0⟩
  clear hE0 hB0
  refine (rnumAt_any 5 _ xs 0 (by omega) W1 (HB.out.ext S0.out.e) (by omega)).mono ?_
  rintro e wq ⟨rfl, n, k1, A1, rfl, hBk, hBl, hni, hq⟩
  obtain ⟨hni1, hni2⟩ := hni
  rcases hq with ⟨hno, -⟩ | ⟨hkz, hn0, hn1, hyes⟩
  · have hno : hdB 5 xs = none := hno
    rw [hno] at HH; cases HH.out
  have hyes : hdB 5 xs = some (n, xs.drop A1) := hyes
  obtain ⟨rfl, hr0⟩ : n = 4 ∧ xs.drop A1 = r0 := by
    have := HH.out
    rw [hyes] at this
    injection this with this; injection this with h1 h2
    exact ⟨h1, h2⟩
  subst hr0
  have hA1 : k1 = A1 := by omega
  subst hA1
  have hk0 : 0 < k1 := by simp at hkz; omega
  obtain ⟨A1, hA1⟩ : ∃ A1, A1 = k1 := ⟨_, rfl⟩
  subst hA1
  clear hyes hBk hn0 hn1 hni1 hni2
  have S1 : Hid (RSO w (W1.alloc (.cells #[.int .u8 4, .string { data := #[] }, .int .i64 0, .int .u8 0, .int .i64 0, .string { data := #[] }, .slice none 0 0, .slice none 0 0, .int .i64 0] 46)) W1.heap.size [.int .u8 0, .string { data := #[] }, .int .i64 0, .int .u8 0, .int .i64 0, .string { data := #[] }, .slice none 0 0, .slice none 0 0, .int .i64 0] [.int .u8 4, .string { data := #[] }, .int .i64 0, .int .u8 0, .int .i64 0, .string { data := #[] }, .slice none 0 0, .slice none 0 0, .int .i64 0]) := Lib.hid (RSO.new S0.out _)
  have hlt1 := S0.out.b.lt
  have hsk := fun w' => slice_from a xs.length cap (A1 : Int) (by omega) (by omega) w'
  rw [Int.toNat_natCast] at hsk
  go_wp2_with fail
  generalize W1.alloc (.cells #[.int .u8 4, .string { data := #[] }, .int .i64 0, .int .u8 0, .int .i64 0, .string { data := #[] }, .slice none 0 0, .slice none 0 0, .int .i64 0] 46) = W2 at *
  clear hsk
  have hS := S1.out.e
  refine (rtextT_any 400 (by omega) (by omega) _ xs A1 (by omega) W2 ((HB.out.ext hS).drop (by omega)) (by omega)).mono ?_
  rintro e wq ⟨rfl, hq⟩
  clear hS
  rcases hq with ⟨hno, rfl⟩ | ⟨idv, kI, AI, hyes, hBk, hBl, hk0I, hil, rfl⟩
  · have HF : Hid (parseO xs = none) := Lib.hid (parseO_read_none (by rw [readP_at (k := 4) HH.out]; simp [readP2, optA, oI, oT, oV, oF, oQ, hno]))
    clear hno
    have ⟨q0, q1, q2, q3, q4, q5, q6, q7, q8⟩ := S1.out.v.nine
    have ⟨p0, p1, p2, p3, p4, p5, p6, p7, p8⟩ := S1.out.p.nine
    have r0 := S1.out.p.free 0
    have r1 := S1.out.p.free 1
    have r2 := S1.out.p.free 2
    have r3 := S1.out.p.free 3
    have r4 := S1.out.p.free 4
    have r5 := S1.out.p.free 5
    have r6 := S1.out.p.free 6
    have r7 := S1.out.p.free 7
    have r8 := S1.out.p.free 8
    go_wp2
    have y1 := S1.out.p.set9 (.int .u8 4) (.string { data := #[] }) (.int .i64 0) (.int .u8 0) (.int .i64 0) (.string { data := #[] }) (.slice none 0 0) (.slice none 0 0) (.int .i64 0)
    have y2 : RReadO xs w (.returned (.tuple #[.agg #[.int .u8 4, .string { data := #[] }, .int .i64 0, .int .u8 0, .int .i64 0, .string { data := #[] }, .slice none 0 0, .slice none 0 0, .int .i64 0], .bool false])) (set9W W2 w.heap.size (.int .u8 4) (.string { data := #[] }) (.int .i64 0) (.int .u8 0) (.int .i64 0) (.string { data := #[] }) (.slice none 0 0) (.slice none 0 0) (.int .i64 0)) := rreadO_exit S1.out.e S1.out.p (o := ⟨4, [], 0, zT, [], 0⟩) ⟨_, _, _, _, _, rfl, (OwnT.mk (k := 0) (s := []) (by unfold isI64; omega) (by simp) (OwnL.nil _ _ _)), (OwnF.nil _ _ _ _), (by simp), (by show isI64 0; unfold isI64; omega), (by show isI64 0; unfold isI64; omega)⟩ rightT_zT (fun h => by cases h) (fun _ => HF.out)
    change bodyPost _ _ _ _ _ (set9W W2 w.heap.size (.int .u8 4) (.string { data := #[] }) (.int .i64 0) (.int .u8 0) (.int .i64 0) (.string { data := #[] }) (.slice none 0 0) (.slice none 0 0) (.int .i64 0))
    generalize set9W W2 w.heap.size (.int .u8 4) (.string { data := #[] }) (.int .i64 0) (.int .u8 0) (.int .i64 0) (.string { data := #[] }) (.slice none 0 0) (.slice none 0 0) (.int .i64 0) = Wn at *
    obtain ⟨g0, g1, g2, g3, g4, g5, g6, g7, g8⟩ := y1.nine
    refine bodyPost_ret (v := .tuple #[.agg #[.int .u8 4, .string { data := #[] }, .int .i64 0, .int .u8 0, .int .i64 0, .string { data := #[] }, .slice none 0 0, .slice none 0 0, .int .i64 0], .bool false]) (by simp [results, Tryz.results72, go_sem, g0, g1, g2, g3, g4, g5, g6, g7, g8]) rfl ?_
    exact y2
  have HYI := Lib.hid hyes
  have HIL := Lib.hid hil
  clear hyes hil
  obtain ⟨A2, hA2⟩ : ∃ A2, A2 = AI := ⟨_, rfl⟩
  subst hA2
  have hadd2 : IntKind.i64.wrap ((A1 : Int) + (kI : Int)) = (A2 : Int) := by rw [IntWalk.i64_in _ (by omega)]; omega
  have hle2 : A1 ≤ A2 := by omega
  have hup2 : A2 ≤ xs.length := by omega
  clear hBk
  have ⟨q0, q1, q2, q3, q4, q5, q6, q7, q8⟩ := S1.out.v.nine
  have s0 := S1.out.v.free 0
  have s1 := S1.out.v.free 1
  have s2 := S1.out.v.free 2
  have s3 := S1.out.v.free 3
  have s4 := S1.out.v.free 4
  have s5 := S1.out.v.free 5
  have s6 := S1.out.v.free 6
  have s7 := S1.out.v.free 7
  have s8 := S1.out.v.free 8
  have T2 : Hid (RSO w (W2.setCell ⟨W1.heap.size, 1, none⟩ (.string (str idv))) W1.heap.size [.int .u8 0, .string { data := #[] }, .int .i64 0, .int .u8 0, .int .i64 0, .string { data := #[] }, .slice none 0 0, .slice none 0 0, .int .i64 0] [.int .u8 4, .string (str idv), .int .i64 0, .int .u8 0, .int .i64 0, .string { data := #[] }, .slice none 0 0, .slice none 0 0, .int .i64 0]) := Lib.hid (S1.out.set 1 (by simp) _)
  have hsk := fun w' => slice_from a xs.length cap (A2 : Int) (by omega) (by omega) w'
  rw [Int.toNat_natCast] at hsk
  go_wp2_with fail
  generalize (W2.setCell ⟨W1.heap.size, 1, none⟩ (.string (str idv))) = U2 at *
  clear hsk
  clear q0 q1 q2 q3 q4 q5 q6 q7 q8 s0 s1 s2 s3 s4 s5 s6 s7 s8
  have hS := T2.out.e
  refine (rnumN_any _ xs A2 (by omega) U2 ((HB.out.ext hS).drop (by omega))).mono ?_
  rintro e wq ⟨rfl, hq⟩
  clear hS
  rcases hq with ⟨hno, nn, rfl⟩ | ⟨tk, kT, AT, hyes, hBk, hBl, hkzT, hti, rfl⟩
  · have HF : Hid (parseO xs = none) := Lib.hid (parseO_read_none (by rw [readP_at (k := 4) HH.out]; simp [readP2, optA, oI, oT, oV, oF, oQ, HYI.out, hno]))
    clear hno
    have ⟨q0, q1, q2, q3, q4, q5, q6, q7, q8⟩ := T2.out.v.nine
    have ⟨p0, p1, p2, p3, p4, p5, p6, p7, p8⟩ := T2.out.p.nine
    have r0 := T2.out.p.free 0
    have r1 := T2.out.p.free 1
    have r2 := T2.out.p.free 2
    have r3 := T2.out.p.free 3
    have r4 := T2.out.p.free 4
    have r5 := T2.out.p.free 5
    have r6 := T2.out.p.free 6
    have r7 := T2.out.p.free 7
    have r8 := T2.out.p.free 8
    go_wp2
    have y1 := T2.out.p.set9 (.int .u8 4) (.string (str idv)) (.int .i64 0) (.int .u8 0) (.int .i64 0) (.string { data := #[] }) (.slice none 0 0) (.slice none 0 0) (.int .i64 0)
    have y2 : RReadO xs w (.returned (.tuple #[.agg #[.int .u8 4, .string (str idv), .int .i64 0, .int .u8 0, .int .i64 0, .string { data := #[] }, .slice none 0 0, .slice none 0 0, .int .i64 0], .bool false])) (set9W U2 w.heap.size (.int .u8 4) (.string (str idv)) (.int .i64 0) (.int .u8 0) (.int .i64 0) (.string { data := #[] }) (.slice none 0 0) (.slice none 0 0) (.int .i64 0)) := rreadO_exit T2.out.e T2.out.p (o := ⟨4, idv, 0, zT, [], 0⟩) ⟨_, _, _, _, _, rfl, (OwnT.mk (k := 0) (s := []) (by unfold isI64; omega) (by simp) (OwnL.nil _ _ _)), (OwnF.nil _ _ _ _), HIL.out, (by show isI64 0; unfold isI64; omega), (by show isI64 0; unfold isI64; omega)⟩ rightT_zT (fun h => by cases h) (fun _ => HF.out)
    change bodyPost _ _ _ _ _ (set9W U2 w.heap.size (.int .u8 4) (.string (str idv)) (.int .i64 0) (.int .u8 0) (.int .i64 0) (.string { data := #[] }) (.slice none 0 0) (.slice none 0 0) (.int .i64 0))
    generalize set9W U2 w.heap.size (.int .u8 4) (.string (str idv)) (.int .i64 0) (.int .u8 0) (.int .i64 0) (.string { data := #[] }) (.slice none 0 0) (.slice none 0 0) (.int .i64 0) = Wn at *
    obtain ⟨g0, g1, g2, g3, g4, g5, g6, g7, g8⟩ := y1.nine
    refine bodyPost_ret (v := .tuple #[.agg #[.int .u8 4, .string (str idv), .int .i64 0, .int .u8 0, .int .i64 0, .string { data := #[] }, .slice none 0 0, .slice none 0 0, .int .i64 0], .bool false]) (by simp [results, Tryz.results72, go_sem, g0, g1, g2, g3, g4, g5, g6, g7, g8]) rfl ?_
    exact y2
  have HYT := Lib.hid hyes
  have HTI := Lib.hid hti
  clear hyes hti
  obtain ⟨A3, hA3⟩ : ∃ A3, A3 = AT := ⟨_, rfl⟩
  subst hA3
  have hadd3 : IntKind.i64.wrap ((A2 : Int) + (kT : Int)) = (A3 : Int) := by rw [IntWalk.i64_in _ (by omega)]; omega
  have hle3 : A2 ≤ A3 := by omega
  have hup3 : A3 ≤ xs.length := by omega
  clear hBk
  have ⟨q0, q1, q2, q3, q4, q5, q6, q7, q8⟩ := T2.out.v.nine
  have s0 := T2.out.v.free 0
  have s1 := T2.out.v.free 1
  have s2 := T2.out.v.free 2
  have s3 := T2.out.v.free 3
  have s4 := T2.out.v.free 4
  have s5 := T2.out.v.free 5
  have s6 := T2.out.v.free 6
  have s7 := T2.out.v.free 7
  have s8 := T2.out.v.free 8
  have T3 : Hid (RSO w (U2.setCell ⟨W1.heap.size, 2, none⟩ (.int .i64 tk)) W1.heap.size [.int .u8 0, .string { data := #[] }, .int .i64 0, .int .u8 0, .int .i64 0, .string { data := #[] }, .slice none 0 0, .slice none 0 0, .int .i64 0] [.int .u8 4, .string (str idv), .int .i64 tk, .int .u8 0, .int .i64 0, .string { data := #[] }, .slice none 0 0, .slice none 0 0, .int .i64 0]) := Lib.hid (T2.out.set 2 (by simp) _)
  have HFp : Hid (readP xs = some ((⟨4, idv, tk, zT, [], 0⟩ : Opn), xs.drop A3)) := Lib.hid (by rw [readP_at (k := 4) HH.out]; simp [readP2, optA, oI, oT, oV, oF, oQ, HYI.out, HYT.out])
  have HEN := Lib.hid (end_ok (by omega) HFp.out)
  go_upto_region 38 with (fail)
  generalize (U2.setCell ⟨W1.heap.size, 2, none⟩ (.int .i64 tk)) = U3 at *
  clear q0 q1 q2 q3 q4 q5 q6 q7 q8 s0 s1 s2 s3 s4 s5 s6 s7 s8
  have ⟨q0, q1, q2, q3, q4, q5, q6, q7, q8⟩ := T3.out.v.nine
  have hOO : OpOwn (w.heap.size + 1) U3 (⟨4, idv, tk, zT, [], 0⟩ : Opn) [.int .u8 4, .string (str idv), .int .i64 tk, .int .u8 0, .int .i64 0, .string { data := #[] }, .slice none 0 0, .slice none 0 0, .int .i64 0] := ⟨_, _, _, _, _, rfl, (OwnT.mk (k := 0) (s := []) (by unfold isI64; omega) (by simp) (OwnL.nil _ _ _)), (OwnF.nil _ _ _ _), HIL.out, HTI.out, (by show isI64 0; unfold isI64; omega)⟩
  have HOO := Lib.hid hOO
  clear hOO
  have HEE : Hid ((∀ b, b = ((A3 : Int) == (xs.length : Int)) → (b = true → readP xs = some ((⟨4, idv, tk, zT, [], 0⟩ : Opn), [])) ∧ (b = false → parseO xs = none))) := Lib.hid (fun b hb => by rw [hb]; exact HEN.out)
  have ⟨p0, p1, p2, p3, p4, p5, p6, p7, p8⟩ := T3.out.p.nine
  have r0 := T3.out.p.free 0
  have r1 := T3.out.p.free 1
  have r2 := T3.out.p.free 2
  have r3 := T3.out.p.free 3
  have r4 := T3.out.p.free 4
  have r5 := T3.out.p.free 5
  have r6 := T3.out.p.free 6
  have r7 := T3.out.p.free 7
  have r8 := T3.out.p.free 8
  go_wp2
  have y1 := T3.out.p.set9 (.int .u8 4) (.string (str idv)) (.int .i64 tk) (.int .u8 0) (.int .i64 0) (.string { data := #[] }) (.slice none 0 0) (.slice none 0 0) (.int .i64 0)
  have y2 : RReadO xs w (.returned (.tuple #[.agg #[.int .u8 4, .string (str idv), .int .i64 tk, .int .u8 0, .int .i64 0, .string { data := #[] }, .slice none 0 0, .slice none 0 0, .int .i64 0], .bool ((A3 : Int) == (xs.length : Int))])) (set9W U3 w.heap.size (.int .u8 4) (.string (str idv)) (.int .i64 tk) (.int .u8 0) (.int .i64 0) (.string { data := #[] }) (.slice none 0 0) (.slice none 0 0) (.int .i64 0)) := rreadO_exit T3.out.e T3.out.p HOO.out rightT_zT HEN.out.1 HEN.out.2
  change bodyPost _ _ _ _ _ (set9W U3 w.heap.size (.int .u8 4) (.string (str idv)) (.int .i64 tk) (.int .u8 0) (.int .i64 0) (.string { data := #[] }) (.slice none 0 0) (.slice none 0 0) (.int .i64 0))
  generalize set9W U3 w.heap.size (.int .u8 4) (.string (str idv)) (.int .i64 tk) (.int .u8 0) (.int .i64 0) (.string { data := #[] }) (.slice none 0 0) (.slice none 0 0) (.int .i64 0) = Wn at *
  obtain ⟨g0, g1, g2, g3, g4, g5, g6, g7, g8⟩ := y1.nine
  refine bodyPost_ret (v := .tuple #[.agg #[.int .u8 4, .string (str idv), .int .i64 tk, .int .u8 0, .int .i64 0, .string { data := #[] }, .slice none 0 0, .slice none 0 0, .int .i64 0], .bool ((A3 : Int) == (xs.length : Int))]) (by simp [results, Tryz.results72, go_sem, g0, g1, g2, g3, g4, g5, g6, g7, g8]) rfl ?_
  exact y2

set_option maxRecDepth 100000 in
set_option maxHeartbeats 16000000 in
theorem rreadO_5 (v : Value) (xs : List UInt8) (w : World) (h : Bytes w v xs) (r0 : List UInt8) (hh : hdB 5 xs = some (5, r0)) :
    Calls Tryz.prog 72 #[v] w (RReadO xs w) := by
  have HB := Lib.hid h
  obtain ⟨a, cap, rfl, hcap, hcm, -⟩ := id h
  have hlm := h.length_le
  have HH := Lib.hid hh
  clear h hh
  have hE0 := (Ext.refl w).alloc (.cells #[.int .u8 0, .string { data := #[] }, .int .i64 0, .int .u8 0, .int .i64 0, .string { data := #[] }, .slice none 0 0, .slice none 0 0, .int .i64 0] 46)
  have hB0 := BoxL.new w [.int .u8 0, .string { data := #[] }, .int .i64 0, .int .u8 0, .int .i64 0, .string { data := #[] }, .slice none 0 0, .slice none 0 0, .int .i64 0] 46
  go_enter Tryz.func72, Tryz.ntmps72
  go_wp2_with fail
  generalize w.alloc (.cells #[.int .u8 0, .string { data := #[] }, .int .i64 0, .int .u8 0, .int .i64 0, .string { data := #[] }, .slice none 0 0, .slice none 0 0, .int .i64 0] 46) = W1 at *
  have S0 : Hid (OSt w W1 [.int .u8 0, .string { data := #[] }, .int .i64 0, .int .u8 0, .int .i64 0, .string { data := #[] }, .slice none 0 0, .slice none 0 0, .int .i64 0]) := Lib.hid ⟨hE0, hB0⟩
  clear hE0 hB0
  refine (rnumAt_any 5 _ xs 0 (by omega) W1 (HB.out.ext S0.out.e) (by omega)).mono ?_
  rintro e wq ⟨rfl, n, k1, A1, rfl, hBk, hBl, hni, hq⟩
  obtain ⟨hni1, hni2⟩ := hni
  rcases hq with ⟨hno, -⟩ | ⟨hkz, hn0, hn1, hyes⟩
  · have hno : hdB 5 xs = none := hno
    rw [hno] at HH; cases HH.out
  have hyes : hdB 5 xs = some (n, xs.drop A1) := hyes
  obtain ⟨rfl, hr0⟩ : n = 5 ∧ xs.drop A1 = r0 := by
    have := HH.out
    rw [hyes] at this
    injection this with this; injection this with h1 h2
    exact ⟨h1, h2⟩
  subst hr0
  have hA1 : k1 = A1 := by omega
  subst hA1
  have hk0 : 0 < k1 := by simp at hkz; omega
  obtain ⟨A1, hA1⟩ : ∃ A1, A1 = k1 := ⟨_, rfl⟩
  subst hA1
  clear hyes hBk hn0 hn1 hni1 hni2
  have S1 : Hid (RSO w (W1.alloc (.cells #[.int .u8 5, .string { data := #[] }, .int .i64 0, .int .u8 0, .int .i64 0, .string { data := #[] }, .slice none 0 0, .slice none 0 0, .int .i64 0] 46)) W1.heap.size [.int .u8 0, .string { data := #[] }, .int .i64 0, .int .u8 0, .int .i64 0, .string { data := #[] }, .slice none 0 0, .slice none 0 0, .int .i64 0] [.int .u8 5, .string { data := #[] }, .int .i64 0, .int .u8 0, .int .i64 0, .string { data := #[] }, .slice none 0 0, .slice none 0 0, .int .i64 0]) := Lib.hid (RSO.new S0.out _)
  have hlt1 := S0.out.b.lt
  have hsk := fun w' => slice_from a xs.length cap (A1 : Int) (by omega) (by omega) w'
  rw [Int.toNat_natCast] at hsk
  go_wp2_with fail
  generalize W1.alloc (.cells #[.int .u8 5, .string { data := #[] }, .int .i64 0, .int .u8 0, .int .i64 0, .string { data := #[] }, .slice none 0 0, .slice none 0 0, .int .i64 0] 46) = W2 at *
  clear hsk
  have hS := S1.out.e
  refine (rtextT_any 400 (by omega) (by omega) _ xs A1 (by omega) W2 ((HB.out.ext hS).drop (by omega)) (by omega)).mono ?_
  rintro e wq ⟨rfl, hq⟩
  clear hS
  rcases hq with ⟨hno, rfl⟩ | ⟨idv, kI, AI, hyes, hBk, hBl, hk0I, hil, rfl⟩
  · have HF : Hid (parseO xs = none) := Lib.hid (parseO_read_none (by rw [readP_at (k := 5) HH.out]; simp [readP2, optA, oI, oT, oV, oF, oQ, hno]))
    clear hno
    have ⟨q0, q1, q2, q3, q4, q5, q6, q7, q8⟩ := S1.out.v.nine
    have ⟨p0, p1, p2, p3, p4, p5, p6, p7, p8⟩ := S1.out.p.nine
    have r0 := S1.out.p.free 0
    have r1 := S1.out.p.free 1
    have r2 := S1.out.p.free 2
    have r3 := S1.out.p.free 3
    have r4 := S1.out.p.free 4
    have r5 := S1.out.p.free 5
    have r6 := S1.out.p.free 6
    have r7 := S1.out.p.free 7
    have r8 := S1.out.p.free 8
    go_wp2
    have y1 := S1.out.p.set9 (.int .u8 5) (.string { data := #[] }) (.int .i64 0) (.int .u8 0) (.int .i64 0) (.string { data := #[] }) (.slice none 0 0) (.slice none 0 0) (.int .i64 0)
    have y2 : RReadO xs w (.returned (.tuple #[.agg #[.int .u8 5, .string { data := #[] }, .int .i64 0, .int .u8 0, .int .i64 0, .string { data := #[] }, .slice none 0 0, .slice none 0 0, .int .i64 0], .bool false])) (set9W W2 w.heap.size (.int .u8 5) (.string { data := #[] }) (.int .i64 0) (.int .u8 0) (.int .i64 0) (.string { data := #[] }) (.slice none 0 0) (.slice none 0 0) (.int .i64 0)) := rreadO_exit S1.out.e S1.out.p (o := ⟨5, [], 0, zT, [], 0⟩) ⟨_, _, _, _, _, rfl, (OwnT.mk (k := 0) (s := []) (by unfold isI64; omega) (by simp) (OwnL.nil _ _ _)), (OwnF.nil _ _ _ _), (by simp), (by show isI64 0; unfold isI64; omega), (by show isI64 0; unfold isI64; omega)⟩ rightT_zT (fun h => by cases h) (fun _ => HF.out)
    change bodyPost _ _ _ _ _ (set9W W2 w.heap.size (.int .u8 5) (.string { data := #[] }) (.int .i64 0) (.int .u8 0) (.int .i64 0) (.string { data := #[] }) (.slice none 0 0) (.slice none 0 0) (.int .i64 0))
    generalize set9W W2 w.heap.size (.int .u8 5) (.string { data := #[] }) (.int .i64 0) (.int .u8 0) (.int .i64 0) (.string { data := #[] }) (.slice none 0 0) (.slice none 0 0) (.int .i64 0) = Wn at *
    obtain ⟨g0, g1, g2, g3, g4, g5, g6, g7, g8⟩ := y1.nine
    refine bodyPost_ret (v := .tuple #[.agg #[.int .u8 5, .string { data := #[] }, .int .i64 0, .int .u8 0, .int .i64 0, .string { data := #[] }, .slice none 0 0, .slice none 0 0, .int .i64 0], .bool false]) (by simp [results, Tryz.results72, go_sem, g0, g1, g2, g3, g4, g5, g6, g7, g8]) rfl ?_
    exact y2
  have HYI := Lib.hid hyes
  have HIL := Lib.hid hil
  clear hyes hil
  obtain ⟨A2, hA2⟩ : ∃ A2, A2 = AI := ⟨_, rfl⟩
  subst hA2
  have hadd2 : IntKind.i64.wrap ((A1 : Int) + (kI : Int)) = (A2 : Int) := by rw [IntWalk.i64_in _ (by omega)]; omega
  have hle2 : A1 ≤ A2 := by omega
  have hup2 : A2 ≤ xs.length := by omega
  clear hBk
  have ⟨q0, q1, q2, q3, q4, q5, q6, q7, q8⟩ := S1.out.v.nine
  have s0 := S1.out.v.free 0
  have s1 := S1.out.v.free 1
  have s2 := S1.out.v.free 2
  have s3 := S1.out.v.free 3
  have s4 := S1.out.v.free 4
  have s5 := S1.out.v.free 5
  have s6 := S1.out.v.free 6
  have s7 := S1.out.v.free 7
  have s8 := S1.out.v.free 8
  have T2 : Hid (RSO w (W2.setCell ⟨W1.heap.size, 1, none⟩ (.string (str idv))) W1.heap.size [.int .u8 0, .string { data := #[] }, .int .i64 0, .int .u8 0, .int .i64 0, .string { data := #[] }, .slice none 0 0, .slice none 0 0, .int .i64 0] [.int .u8 5, .string (str idv), .int .i64 0, .int .u8 0, .int .i64 0, .string { data := #[] }, .slice none 0 0, .slice none 0 0, .int .i64 0]) := Lib.hid (S1.out.set 1 (by simp) _)
  have HFp : Hid (readP xs = some ((⟨5, idv, 0, zT, [], 0⟩ : Opn), xs.drop A2)) := Lib.hid (by rw [readP_at (k := 5) HH.out]; simp [readP2, optA, oI, oT, oV, oF, oQ, HYI.out])
  have HEN := Lib.hid (end_ok (by omega) HFp.out)
  go_upto_region 38 with (fail)
  generalize (W2.setCell ⟨W1.heap.size, 1, none⟩ (.string (str idv))) = U2 at *
  clear q0 q1 q2 q3 q4 q5 q6 q7 q8 s0 s1 s2 s3 s4 s5 s6 s7 s8
  have ⟨q0, q1, q2, q3, q4, q5, q6, q7, q8⟩ := T2.out.v.nine
  have hOO : OpOwn (w.heap.size + 1) U2 (⟨5, idv, 0, zT, [], 0⟩ : Opn) [.int .u8 5, .string (str idv), .int .i64 0, .int .u8 0, .int .i64 0, .string { data := #[] }, .slice none 0 0, .slice none 0 0, .int .i64 0] := ⟨_, _, _, _, _, rfl, (OwnT.mk (k := 0) (s := []) (by unfold isI64; omega) (by simp) (OwnL.nil _ _ _)), (OwnF.nil _ _ _ _), HIL.out, (by show isI64 0; unfold isI64; omega), (by show isI64 0; unfold isI64; omega)⟩
  have HOO := Lib.hid hOO
  clear hOO
  have HEE : Hid ((∀ b, b = ((A2 : Int) == (xs.length : Int)) → (b = true → readP xs = some ((⟨5, idv, 0, zT, [], 0⟩ : Opn), [])) ∧ (b = false → parseO xs = none))) := Lib.hid (fun b hb => by rw [hb]; exact HEN.out)
  have ⟨p0, p1, p2, p3, p4, p5, p6, p7, p8⟩ := T2.out.p.nine
  have r0 := T2.out.p.free 0
  have r1 := T2.out.p.free 1
  have r2 := T2.out.p.free 2
  have r3 := T2.out.p.free 3
  have r4 := T2.out.p.free 4
  have r5 := T2.out.p.free 5
  have r6 := T2.out.p.free 6
  have r7 := T2.out.p.free 7
  have r8 := T2.out.p.free 8
  go_wp2
  have y1 := T2.out.p.set9 (.int .u8 5) (.string (str idv)) (.int .i64 0) (.int .u8 0) (.int .i64 0) (.string { data := #[] }) (.slice none 0 0) (.slice none 0 0) (.int .i64 0)
  have y2 : RReadO xs w (.returned (.tuple #[.agg #[.int .u8 5, .string (str idv), .int .i64 0, .int .u8 0, .int .i64 0, .string { data := #[] }, .slice none 0 0, .slice none 0 0, .int .i64 0], .bool ((A2 : Int) == (xs.length : Int))])) (set9W U2 w.heap.size (.int .u8 5) (.string (str idv)) (.int .i64 0) (.int .u8 0) (.int .i64 0) (.string { data := #[] }) (.slice none 0 0) (.slice none 0 0) (.int .i64 0)) := rreadO_exit T2.out.e T2.out.p HOO.out rightT_zT HEN.out.1 HEN.out.2
  change bodyPost _ _ _ _ _ (set9W U2 w.heap.size (.int .u8 5) (.string (str idv)) (.int .i64 0) (.int .u8 0) (.int .i64 0) (.string { data := #[] }) (.slice none 0 0) (.slice none 0 0) (.int .i64 0))
  generalize set9W U2 w.heap.size (.int .u8 5) (.string (str idv)) (.int .i64 0) (.int .u8 0) (.int .i64 0) (.string { data := #[] }) (.slice none 0 0) (.slice none 0 0) (.int .i64 0) = Wn at *
  obtain ⟨g0, g1, g2, g3, g4, g5, g6, g7, g8⟩ := y1.nine
  refine bodyPost_ret (v := .tuple #[.agg #[.int .u8 5, .string (str idv), .int .i64 0, .int .u8 0, .int .i64 0, .string { data := #[] }, .slice none 0 0, .slice none 0 0, .int .i64 0], .bool ((A2 : Int) == (xs.length : Int))]) (by simp [results, Tryz.results72, go_sem, g0, g1, g2, g3, g4, g5, g6, g7, g8]) rfl ?_
  exact y2

theorem rreadO_any (v : Value) (xs : List UInt8) (w : World) (h : Bytes w v xs) :
    Calls Tryz.prog 72 #[v] w (RReadO xs w) := by
  cases hb : hdB 5 xs with
  | none => exact rreadO_bad v xs w h (parseO_b5 hb) (.inl hb)
  | some p =>
    obtain ⟨n, r⟩ := p
    obtain ⟨h0, h1, -, -⟩ := hdB_inv hb
    rcases (by omega : n = 0 ∨ n = 1 ∨ n = 2 ∨ n = 3 ∨ n = 4 ∨ n = 5) with rfl | rfl | rfl | rfl | rfl | rfl
    · exact rreadO_bad v xs w h (parseO_b0 hb) (.inr ⟨r, hb⟩)
    · exact rreadO_1 v xs w h r hb
    · exact rreadO_2 v xs w h r hb
    · exact rreadO_3 v xs w h r hb
    · exact rreadO_4 v xs w h r hb
    · exact rreadO_5 v xs w h r hb

/-- What Parse comes to. -/
def RParseO (xs : List UInt8) (w : World) (e : Ending) (w' : World) : Prop :=
  ∃ (k : Int) (ids : ByteArray) (t vk vn : Int) (vs : ByteArray) (va : Option Addr) (vm vc : Nat) (fa : Option Addr) (fm fc : Nat) (q : Int) (ok : Bool) (o : Opn), e = .returned (.tuple #[.agg #[.int .u8 k, .string ids, .int .i64 t, .int .u8 vk, .int .i64 vn, .string vs, .slice va vm vc, .slice fa fm fc, .int .i64 q], .bool ok]) ∧ Ext w w' ∧ OpOwn w.heap.size w' o [.int .u8 k, .string ids, .int .i64 t, .int .u8 vk, .int .i64 vn, .string vs, .slice va vm vc, .slice fa fm fc, .int .i64 q] ∧
    (parseO xs = none → ok = false ∧ o = zO) ∧ (∀ o', parseO xs = some o' → ok = true ∧ o = o')
theorem rparseO_bad {xs : List UInt8} {w W : World} {us : List Value} (h : OSt w W us) (hn : parseO xs = none) :
    RParseO xs w (.returned (.tuple #[.agg #[.int .u8 0, .string { data := #[] }, .int .i64 0, .int .u8 0, .int .i64 0, .string { data := #[] }, .slice none 0 0, .slice none 0 0, .int .i64 0], .bool false])) (set9W W w.heap.size (.int .u8 0) (.string { data := #[] }) (.int .i64 0) (.int .u8 0) (.int .i64 0) (.string { data := #[] }) (.slice none 0 0) (.slice none 0 0) (.int .i64 0)) :=
  ⟨_, _, _, _, _, _, _, _, _, _, _, _, _, false, zO, rfl, h.e.grown (set9_grown _ _ _ _ _ _ _ _ _ _ _) (fun k hk => by injection hk with hk; omega), zO_own _ _, fun _ => ⟨rfl, rfl⟩, fun o' ho => by rw [hn] at ho; cases ho⟩
theorem rparseO_ok {xs : List UInt8} {w W : World} {us : List Value} (h : OSt w W us) {o : Opn} (hn : parseO xs = some o) {k : Int} {ids : ByteArray} {t vk vn : Int} {vs : ByteArray} {va : Option Addr} {vm vc : Nat} {fa : Option Addr} {fm fc : Nat} {q : Int} (hO : OpOwn (w.heap.size + 1) W o [.int .u8 k, .string ids, .int .i64 t, .int .u8 vk, .int .i64 vn, .string vs, .slice va vm vc, .slice fa fm fc, .int .i64 q]) :
    RParseO xs w (.returned (.tuple #[.agg #[.int .u8 k, .string ids, .int .i64 t, .int .u8 vk, .int .i64 vn, .string vs, .slice va vm vc, .slice fa fm fc, .int .i64 q], .bool true])) (set9W W w.heap.size (.int .u8 k) (.string ids) (.int .i64 t) (.int .u8 vk) (.int .i64 vn) (.string vs) (.slice va vm vc) (.slice fa fm fc) (.int .i64 q)) :=
  ⟨k, ids, t, vk, vn, vs, va, vm, vc, fa, fm, fc, q, true, o, rfl, h.e.grown (set9_grown _ _ _ _ _ _ _ _ _ _ _) (fun k hk => by injection hk with hk; omega), (hO.kept (set9_grown _ _ _ _ _ _ _ _ _ _ _) (fun b hb => by injection hb with hb; omega)).mono (by omega), fun h => (by rw [hn] at h; cases h), fun o' ho => by rw [hn] at ho; cases ho; exact ⟨rfl, rfl⟩⟩

set_option maxRecDepth 100000 in
set_option maxHeartbeats 16000000 in
theorem rparseO_any (v : Value) (xs : List UInt8) (w : World) (h : Bytes w v xs) :
    Calls Tryz.prog 27 #[v] w (RParseO xs w) := by
  have HB := Lib.hid h
  clear h
  have hE0 := (Ext.refl w).alloc (.cells #[.int .u8 0, .string { data := #[] }, .int .i64 0, .int .u8 0, .int .i64 0, .string { data := #[] }, .slice none 0 0, .slice none 0 0, .int .i64 0] 46)
  have hB0 := BoxL.new w [.int .u8 0, .string { data := #[] }, .int .i64 0, .int .u8 0, .int .i64 0, .string { data := #[] }, .slice none 0 0, .slice none 0 0, .int .i64 0] 46
  go_enter Tryz.func27, Tryz.ntmps27
  go_wp2_with fail
  generalize w.alloc (.cells #[.int .u8 0, .string { data := #[] }, .int .i64 0, .int .u8 0, .int .i64 0, .string { data := #[] }, .slice none 0 0, .slice none 0 0, .int .i64 0] 46) = W1 at *
  have S0 : Hid (OSt w W1 [.int .u8 0, .string { data := #[] }, .int .i64 0, .int .u8 0, .int .i64 0, .string { data := #[] }, .slice none 0 0, .slice none 0 0, .int .i64 0]) := Lib.hid ⟨hE0, hB0⟩
  clear hE0 hB0
  refine (rreadO_any v xs W1 (HB.out.ext S0.out.e)).mono ?_
  rintro e W2 ⟨k, ids, t, vk, vn, vs, va, vm, vc, fa, fm, fc, q, ok, o, rfl, hE, hO, hrt, hyes, hno⟩
  have S2 : Hid (OSt w (W2.alloc (.cells #[.int .u8 k, .string ids, .int .i64 t, .int .u8 vk, .int .i64 vn, .string vs, .slice va vm vc, .slice fa fm fc, .int .i64 q] 46)) [.int .u8 0, .string { data := #[] }, .int .i64 0, .int .u8 0, .int .i64 0, .string { data := #[] }, .slice none 0 0, .slice none 0 0, .int .i64 0]) := Lib.hid ((S0.out.ext hE).ext ((Ext.refl W2).alloc _))
  have N2 : Hid (BoxL (W2.alloc (.cells #[.int .u8 k, .string ids, .int .i64 t, .int .u8 vk, .int .i64 vn, .string vs, .slice va vm vc, .slice fa fm fc, .int .i64 q] 46)) W2.heap.size [.int .u8 k, .string ids, .int .i64 t, .int .u8 vk, .int .i64 vn, .string vs, .slice va vm vc, .slice fa fm fc, .int .i64 q]) := Lib.hid (BoxL.new W2 [.int .u8 k, .string ids, .int .i64 t, .int .u8 vk, .int .i64 vn, .string vs, .slice va vm vc, .slice fa fm fc, .int .i64 q] _)
  have HO : Hid (OpOwn W1.heap.size (W2.alloc (.cells #[.int .u8 k, .string ids, .int .i64 t, .int .u8 vk, .int .i64 vn, .string vs, .slice va vm vc, .slice fa fm fc, .int .i64 q] 46)) o [.int .u8 k, .string ids, .int .i64 t, .int .u8 vk, .int .i64 vn, .string vs, .slice va vm vc, .slice fa fm fc, .int .i64 q]) := Lib.hid (hO.ext ((Ext.refl W2).alloc _))
  have hlt1 := S0.out.b.lt
  have hlt2 : w.heap.size < W2.heap.size := by have := hE.size; omega
  clear hE hO
  cases ok with
  | false =>
    have HF := Lib.hid (hno rfl)
    clear hno hyes hrt
    go_upto_region 2 with (fail)
    generalize (W2.alloc (.cells #[.int .u8 k, .string ids, .int .i64 t, .int .u8 vk, .int .i64 vn, .string vs, .slice va vm vc, .slice fa fm fc, .int .i64 q] 46)) = W3 at *
    have ⟨p0, p1, p2, p3, p4, p5, p6, p7, p8⟩ := S2.out.b.nine
    have f0 := S2.out.b.free 0
    have f1 := S2.out.b.free 1
    have f2 := S2.out.b.free 2
    have f3 := S2.out.b.free 3
    have f4 := S2.out.b.free 4
    have f5 := S2.out.b.free 5
    have f6 := S2.out.b.free 6
    have f7 := S2.out.b.free 7
    have f8 := S2.out.b.free 8
    go_wp2
    have y1 := S2.out.b.set9 (.int .u8 0) (.string { data := #[] }) (.int .i64 0) (.int .u8 0) (.int .i64 0) (.string { data := #[] }) (.slice none 0 0) (.slice none 0 0) (.int .i64 0)
    have y2 : RParseO xs w (.returned (.tuple #[.agg #[.int .u8 0, .string { data := #[] }, .int .i64 0, .int .u8 0, .int .i64 0, .string { data := #[] }, .slice none 0 0, .slice none 0 0, .int .i64 0], .bool false])) (set9W W3 w.heap.size (.int .u8 0) (.string { data := #[] }) (.int .i64 0) (.int .u8 0) (.int .i64 0) (.string { data := #[] }) (.slice none 0 0) (.slice none 0 0) (.int .i64 0)) := rparseO_bad S2.out HF.out
    change bodyPost _ _ _ _ _ (set9W W3 w.heap.size (.int .u8 0) (.string { data := #[] }) (.int .i64 0) (.int .u8 0) (.int .i64 0) (.string { data := #[] }) (.slice none 0 0) (.slice none 0 0) (.int .i64 0))
    generalize set9W W3 w.heap.size (.int .u8 0) (.string { data := #[] }) (.int .i64 0) (.int .u8 0) (.int .i64 0) (.string { data := #[] }) (.slice none 0 0) (.slice none 0 0) (.int .i64 0) = Wn at *
    obtain ⟨g0, g1, g2, g3, g4, g5, g6, g7, g8⟩ := y1.nine
    refine bodyPost_ret (v := .tuple #[.agg #[.int .u8 0, .string { data := #[] }, .int .i64 0, .int .u8 0, .int .i64 0, .string { data := #[] }, .slice none 0 0, .slice none 0 0, .int .i64 0], .bool false]) (by simp [results, Tryz.results27, go_sem, g0, g1, g2, g3, g4, g5, g6, g7, g8]) rfl ?_
    exact y2
  | true =>
    have HRD := Lib.hid (hyes rfl)
    have HPA : Hid (parseO xs = if rightO o = true then some o else none) := Lib.hid (by unfold parseO; rw [hyes rfl, Option.bind_some]; simp)
    obtain ⟨-, hd1, hp1⟩ := rightT_iff.1 hrt
    clear hno hyes hrt
    have ⟨q0, q1, q2, q3, q4, q5, q6, q7, q8⟩ := N2.out.nine
    go_wp2_with fail
    generalize W2.alloc (.cells #[.int .u8 k, .string ids, .int .i64 t, .int .u8 vk, .int .i64 vn, .string vs, .slice va vm vc, .slice fa fm fc, .int .i64 q] 46) = W3 at *
    refine (rOpRight_any o (by omega) (by omega) W3 _ HO.out.v).mono ?_
    rintro e W4 ⟨rfl, hE4⟩
    have S4 := Lib.hid (S2.out.ext hE4)
    have HO4 := Lib.hid (HO.out.ext hE4)
    have N4 := Lib.hid (N2.out.ext hE4)
    clear hE4 S2 HO N2 q0 q1 q2 q3 q4 q5 q6 q7 q8
    cases hr : rightO o with
    | false =>
      have HF := Lib.hid (show parseO xs = none by rw [HPA.out, hr]; rfl)
      clear hr HPA
      have ⟨p0, p1, p2, p3, p4, p5, p6, p7, p8⟩ := S4.out.b.nine
      have f0 := S4.out.b.free 0
      have f1 := S4.out.b.free 1
      have f2 := S4.out.b.free 2
      have f3 := S4.out.b.free 3
      have f4 := S4.out.b.free 4
      have f5 := S4.out.b.free 5
      have f6 := S4.out.b.free 6
      have f7 := S4.out.b.free 7
      have f8 := S4.out.b.free 8
      go_wp2
      have y1 := S4.out.b.set9 (.int .u8 0) (.string { data := #[] }) (.int .i64 0) (.int .u8 0) (.int .i64 0) (.string { data := #[] }) (.slice none 0 0) (.slice none 0 0) (.int .i64 0)
      have y2 : RParseO xs w (.returned (.tuple #[.agg #[.int .u8 0, .string { data := #[] }, .int .i64 0, .int .u8 0, .int .i64 0, .string { data := #[] }, .slice none 0 0, .slice none 0 0, .int .i64 0], .bool false])) (set9W W4 w.heap.size (.int .u8 0) (.string { data := #[] }) (.int .i64 0) (.int .u8 0) (.int .i64 0) (.string { data := #[] }) (.slice none 0 0) (.slice none 0 0) (.int .i64 0)) := rparseO_bad S4.out HF.out
      change bodyPost _ _ _ _ _ (set9W W4 w.heap.size (.int .u8 0) (.string { data := #[] }) (.int .i64 0) (.int .u8 0) (.int .i64 0) (.string { data := #[] }) (.slice none 0 0) (.slice none 0 0) (.int .i64 0))
      generalize set9W W4 w.heap.size (.int .u8 0) (.string { data := #[] }) (.int .i64 0) (.int .u8 0) (.int .i64 0) (.string { data := #[] }) (.slice none 0 0) (.slice none 0 0) (.int .i64 0) = Wn at *
      obtain ⟨g0, g1, g2, g3, g4, g5, g6, g7, g8⟩ := y1.nine
      refine bodyPost_ret (v := .tuple #[.agg #[.int .u8 0, .string { data := #[] }, .int .i64 0, .int .u8 0, .int .i64 0, .string { data := #[] }, .slice none 0 0, .slice none 0 0, .int .i64 0], .bool false]) (by simp [results, Tryz.results27, go_sem, g0, g1, g2, g3, g4, g5, g6, g7, g8]) rfl ?_
      exact y2
    | true =>
      have HF := Lib.hid (show parseO xs = some o by rw [HPA.out, hr]; rfl)
      clear hr HPA
      have ⟨q0, q1, q2, q3, q4, q5, q6, q7, q8⟩ := N4.out.nine
      have ⟨p0, p1, p2, p3, p4, p5, p6, p7, p8⟩ := S4.out.b.nine
      have f0 := S4.out.b.free 0
      have f1 := S4.out.b.free 1
      have f2 := S4.out.b.free 2
      have f3 := S4.out.b.free 3
      have f4 := S4.out.b.free 4
      have f5 := S4.out.b.free 5
      have f6 := S4.out.b.free 6
      have f7 := S4.out.b.free 7
      have f8 := S4.out.b.free 8
      go_wp2
      have y1 := S4.out.b.set9 (.int .u8 k) (.string ids) (.int .i64 t) (.int .u8 vk) (.int .i64 vn) (.string vs) (.slice va vm vc) (.slice fa fm fc) (.int .i64 q)
      have y2 : RParseO xs w (.returned (.tuple #[.agg #[.int .u8 k, .string ids, .int .i64 t, .int .u8 vk, .int .i64 vn, .string vs, .slice va vm vc, .slice fa fm fc, .int .i64 q], .bool true])) (set9W W4 w.heap.size (.int .u8 k) (.string ids) (.int .i64 t) (.int .u8 vk) (.int .i64 vn) (.string vs) (.slice va vm vc) (.slice fa fm fc) (.int .i64 q)) := rparseO_ok S4.out HF.out (HO4.out.mono (by omega))
      change bodyPost _ _ _ _ _ (set9W W4 w.heap.size (.int .u8 k) (.string ids) (.int .i64 t) (.int .u8 vk) (.int .i64 vn) (.string vs) (.slice va vm vc) (.slice fa fm fc) (.int .i64 q))
      generalize set9W W4 w.heap.size (.int .u8 k) (.string ids) (.int .i64 t) (.int .u8 vk) (.int .i64 vn) (.string vs) (.slice va vm vc) (.slice fa fm fc) (.int .i64 q) = Wn at *
      obtain ⟨g0, g1, g2, g3, g4, g5, g6, g7, g8⟩ := y1.nine
      refine bodyPost_ret (v := .tuple #[.agg #[.int .u8 k, .string ids, .int .i64 t, .int .u8 vk, .int .i64 vn, .string vs, .slice va vm vc, .slice fa fm fc, .int .i64 q], .bool true]) (by simp [results, Tryz.results27, go_sem, g0, g1, g2, g3, g4, g5, g6, g7, g8]) rfl ?_
      exact y2
end Go.Proofs.YtdienbcjfljjnaaGreatDoor
