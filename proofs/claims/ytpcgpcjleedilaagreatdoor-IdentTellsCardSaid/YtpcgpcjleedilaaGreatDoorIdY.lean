/- Walks of package ident: Less, Above. -/
import Derived.Test.YtpcgpcjleedilaaGreatDoorIdC
import Derived.WalkLawsBesides
import Derived.Deep.RegionHeld3
import Derived.Deep.CutRange
import Derived.Deep.LoopGhost
open Go.RowKit Go.Shelf
namespace Go.Proofs.YtpcgpcjleedilaaGreatDoor
open Go Go.Proofs Fm
attribute [local go_sem] Oper.semAt_some

/-- What Parse hands back. -/
def PathPost (s : List UInt8) (w : World) (e : Ending) (w' : World) : Prop :=
  ∃ v, e = .returned (.tuple #[v, .bool (parseP s).isSome]) ∧ Ext w w' ∧ (parseP s = none → v = .agg #[.int .i64 0, .slice none 0 0]) ∧ ∀ p, parseP s = some p → PthOwn 27 w.heap.size w' p v

/-- Between two rounds. -/
def PRnd (w : World) (pre : List (List UInt8)) (W : World) : Prop :=
  w.heap.size + 7 ≤ W.heap.size ∧ Ext w W ∧ BoxL W w.heap.size [.int .i64 0, .slice none 0 0] ∧ BoxL W (w.heap.size + 1) [.bool false] ∧ BoxL W (w.heap.size + 3) [.bool pre.isEmpty] ∧
  ∃ (fl : Int) (a : Option Addr) (m c : Nat) (st : List Stp), BoxL W (w.heap.size + 2) [.int .i64 fl, .slice a m c] ∧ OwnSt 27 (w.heap.size + 7) W (.slice a m c) st ∧ isI64 fl ∧
    ((pre = [] ∧ fl = 0 ∧ st = []) ∨ ∃ x l, pre = x :: l ∧ numI x = some fl ∧ stepsP l = some st)
/-- Where a round has ended all. -/
def PEnd (s : List UInt8) (w : World) (c : Code) (_ : List (List UInt8)) (W : World) : Prop :=
  c = .ret ∧ Ext w W ∧ BoxL W w.heap.size [.int .i64 0, .slice none 0 0] ∧ BoxL W (w.heap.size + 1) [.bool false] ∧ parseP s = none
theorem _root_.Fm.OwnSt.far {e : TypeId} {base : Nat} {w w' : World} {v : Value} {l : List Stp} {row : Option Nat} (h : OwnSt e base w v l) (hg : w.grownBy w' row) (hr : ∀ b, row = some b → ∃ o : Obj, w.heap[b]? = some o ∧ o.isCells = false) : OwnSt e base w' v l := by
  refine ⟨World.ownsRow.kept h.1 hg ?_, h.2⟩
  rcases h.1.2 with ⟨rfl, _⟩ | ⟨g, cap, cur, rfl, _, hgb, _⟩
  · exact .inl rfl
  · right
    intro e
    obtain ⟨o, h1, h2⟩ := hr g e.symm
    rw [hgb] at h1
    cases h1
    cases h2
theorem PRnd.own (w : World) : OwnFrom (w.heap.size + 7) (PRnd w) := by
  rintro pre X Y row ⟨hz, hE, h1, h2, h3, fl, a, m, c, st, h4, h5, h6⟩ hg hr
  have hb : ∀ b, b < w.heap.size + 7 → row ≠ some b := fun b hb e => by have := (hr b e).1; omega
  exact ⟨Nat.le_trans hz hg.size, hE.grown hg (fun k e => by have := (hr k e).1; omega), h1.kept hg (hb _ (by omega)), h2.kept hg (hb _ (by omega)), h3.kept hg (hb _ (by omega)), fl, a, m, c, st, h4.kept hg (hb _ (by omega)), h5.far hg (fun b e => (hr b e).2), h6⟩
theorem PRnd.set {w X : World} {pre : List (List UInt8)} (h : PRnd w pre X) (u : Value) : PRnd w pre (X.setCell ⟨w.heap.size + 4, 0, none⟩ u) := by
  obtain ⟨hz, hE, h1, h2, h3, fl, a, m, c, st, h4, h5, h6⟩ := h
  have hg := grown_set X (w.heap.size + 4) 0 u
  have hb : ∀ b, b < w.heap.size + 4 → some (w.heap.size + 4) ≠ some b := fun b hb e => by injection e; omega
  exact ⟨Nat.le_trans hz hg.size, hE.setCell (p := ⟨w.heap.size + 4, 0, none⟩) (by show w.heap.size ≤ w.heap.size + 4; omega) u, h1.kept hg (hb _ (by omega)), h2.kept hg (hb _ (by omega)), h3.kept hg (hb _ (by omega)), fl, a, m, c, st, h4.kept hg (hb _ (by omega)), h5.kept hg (fun b e => by injection e with e; omega), h6⟩
theorem PEnd.own (s : List UInt8) (w : World) (c : Code) : OwnFrom (w.heap.size + 7) (PEnd s w c) := by
  rintro pre X Y row ⟨hc, hE, h1, h2, h3⟩ hg hr
  have hb : ∀ b, b < w.heap.size + 7 → row ≠ some b := fun b hb e => by have := (hr b e).1; omega
  exact ⟨hc, hE.grown hg (fun k e => by have := (hr k e).1; omega), h1.kept hg (hb _ (by omega)), h2.kept hg (hb _ (by omega)), h3⟩
theorem PEnd.set {s : List UInt8} {w X : World} {c : Code} {pre : List (List UInt8)} (h : PEnd s w c pre X) (u : Value) : PEnd s w c pre (X.setCell ⟨w.heap.size + 4, 0, none⟩ u) := by
  obtain ⟨hc, hE, h1, h2, h3⟩ := h
  have hg := grown_set X (w.heap.size + 4) 0 u
  have hb : ∀ b, b < w.heap.size + 4 → some (w.heap.size + 4) ≠ some b := fun b hb e => by injection e; omega
  exact ⟨hc, hE.setCell (p := ⟨w.heap.size + 4, 0, none⟩) (by show w.heap.size ≤ w.heap.size + 4; omega) u, h1.kept hg (hb _ (by omega)), h2.kept hg (hb _ (by omega)), h3⟩
/-! ### plain -/
theorem parse_bad_num {s x : List UInt8} (h : ∃ post, split47 s = [] ++ x :: post) (hn : numI x = none) : parseP s = none := by
  obtain ⟨post, h⟩ := h
  unfold parseP
  rw [h]
  show (numI x).bind _ = none
  rw [hn]; rfl
theorem parse_bad_step {s a x : List UInt8} {l : List (List UInt8)} (h : ∃ post, split47 s = (a :: l) ++ x :: post) (hx : stepP x = none) : parseP s = none := by
  obtain ⟨post, h⟩ := h
  have hd : stepsP (l ++ x :: post) = none := by
    rw [show l ++ x :: post = (l ++ [x]) ++ post by simp]
    refine stepsP_dead ?_
    rw [stepsP_snoc, hx]
    cases stepsP l <;> rfl
  unfold parseP
  rw [h]
  simp only [List.cons_append, List.headD_cons, List.tail_cons, hd]
  cases numI a <;> rfl
theorem parse_good {s a : List UInt8} {l : List (List UInt8)} {n : Int} {st : List Stp} (h : split47 s = a :: l) (hn : numI a = some n) (hl : stepsP l = some st) : parseP s = if s.length ≤ 400 then some ⟨n, st⟩ else none := by
  unfold parseP
  rw [h]
  simp only [List.headD_cons, List.tail_cons, hn, hl, Option.bind_some]
theorem join47_len : ∀ l : List (List UInt8), (join47 l).length = l.flatten.length + (l.length - 1)
  | [] => rfl
  | [p] => by simp [join47]
  | p :: q :: qs => by
    have := join47_len (q :: qs)
    rw [join47_cons _ (by simp), List.length_append, List.length_cons, this]
    simp
    omega
theorem next_len {s : List UInt8} {pre : List (List UInt8)} {x : List UInt8} (h : NextP s pre x) : x.length ≤ s.length ∧ pre.length ≤ s.length := by
  obtain ⟨post, h⟩ := h
  have := join47_len (split47 s)
  rw [join47_split, h] at this
  simp at this
  omega
theorem stepsP_len : ∀ {l : List (List UInt8)} {st : List Stp}, stepsP l = some st → st.length = l.length
  | [], st, h => by rw [stepsP] at h; cases h; rfl
  | p :: l, st, h => by
    rw [stepsP] at h
    obtain ⟨x, _, h2⟩ := Option.bind_eq_some_iff.1 h
    obtain ⟨r, h3, rfl⟩ := Option.map_eq_some_iff.1 h2
    simp [stepsP_len h3]
/-- What a round does to the world: of these blocks, and of what is no cells, nothing turns. -/
def Rnd (bs : List Nat) (X Y : World) : Prop := X.heap.size ≤ Y.heap.size ∧ ∀ k o, X.heap[k]? = some o → (k ∈ bs ∨ o.isCells = false) → Y.heap[k]? = some o
theorem Rnd.refl (bs : List Nat) (X : World) : Rnd bs X X := ⟨Nat.le_refl _, fun _ _ h _ => h⟩
theorem Rnd.trans {bs : List Nat} {X Y Z : World} (h : Rnd bs X Y) (k : Rnd bs Y Z) : Rnd bs X Z := ⟨Nat.le_trans h.1 k.1, fun i o hi ho => k.2 i o (h.2 i o hi ho) ho⟩
theorem Rnd.ext {bs : List Nat} {X Y : World} (h : Ext X Y) : Rnd bs X Y := ⟨h.size, fun k _ hk _ => (h.block k (Array.getElem?_eq_some_iff.1 hk).1).trans hk⟩
theorem Rnd.set {bs : List Nat} (X : World) (b j : Nat) (u : Value) (hb : b ∉ bs) : Rnd bs X (X.setCell ⟨b, j, none⟩ u) := by
  refine ⟨(KeepsOthers.setCell X ⟨b, j, none⟩ u).size, fun k o hk ho => ?_⟩
  rcases ho with ho | ho
  · exact (Below.heap_setCell X ⟨b, j, none⟩ u k (fun e => hb (by rw [← show k = b from e]; exact ho))).trans hk
  · exact (KeepsOthers.setCell X ⟨b, j, none⟩ u).same k o hk ho
theorem Rnd.grown {bs : List Nat} {X Y : World} {row : Option Nat} (hg : X.grownBy Y row) (hb : ∀ b, row = some b → b ∉ bs) (hc : ∀ j o, row = some j → X.heap[j]? = some o → o.isCells = true) : Rnd bs X Y := by
  refine ⟨hg.size, fun k o hk ho => ?_⟩
  rcases ho with ho | ho
  · exact (hg.block k (Array.getElem?_eq_some_iff.1 hk).1 (fun e => hb k e.symm ho)).trans hk
  · exact (KeepsOthers.of_grownBy hg hc).same k o hk ho
theorem Rnd.from {bs : List Nat} {X Y : World} (h : Rnd bs X Y) (B : Nat) : KeepsFrom B X Y := ⟨h.1, fun k o _ hk ho => h.2 k o hk (.inr ho)⟩
theorem Rnd.keeps {bs : List Nat} {X Y : World} (h : Rnd bs X Y) : KeepsB bs X Y := fun b hb o ho => h.2 b o ho (.inl hb)
theorem info_step : (Tryz.prog.info? 27).map (fun i => (i.zero, i.size, i.bytes)) = some (some (.agg #[.string { data := #[] }, .int .i64 0]), 2, 24) := by kernel_rfl
/-- The three blocks of the iterator. -/
def bs3 (w : World) : List Nat := [w.heap.size + 4, w.heap.size + 5, w.heap.size + 6]
theorem not_bs3 {w : World} {b : Nat} (h : b < w.heap.size + 4 ∨ w.heap.size + 7 ≤ b) : b ∉ bs3 w := by unfold bs3; simp; omega
/-- What a round keeps in mind: nothing that lay has turned, the iterator's blocks lie, the four boxes. -/
def PBox (w W W' : World) (c0 c1 : Value) (f : Bool) : Prop :=
  Ext w W' ∧ Rnd (bs3 w) W W' ∧ BoxL W' w.heap.size [.int .i64 0, .slice none 0 0] ∧ BoxL W' (w.heap.size + 1) [.bool false] ∧ BoxL W' (w.heap.size + 2) [c0, c1] ∧ BoxL W' (w.heap.size + 3) [.bool f]
theorem PBox.ext {w W W1 W2 : World} {c0 c1 : Value} {f : Bool} (h : PBox w W W1 c0 c1 f) (hE : Ext W1 W2) : PBox w W W2 c0 c1 f :=
  ⟨h.1.trans hE, h.2.1.trans (Rnd.ext hE), h.2.2.1.ext hE, h.2.2.2.1.ext hE, h.2.2.2.2.1.ext hE, h.2.2.2.2.2.ext hE⟩
theorem PBox.first {w W W1 : World} {c0 c1 : Value} {f : Bool} (h : PBox w W W1 c0 c1 f) (g : Bool) : PBox w W (W1.setCell ⟨w.heap.size + 3, 0, none⟩ (.bool g)) c0 c1 g := by
  obtain ⟨hE, hr, bR, bK, bP, bF⟩ := h
  have hg := grown_set W1 (w.heap.size + 3) 0 (.bool g)
  exact ⟨hE.setCell (p := ⟨w.heap.size + 3, 0, none⟩) (by show w.heap.size ≤ w.heap.size + 3; omega) _, hr.trans (Rnd.set _ _ _ _ (not_bs3 (.inl (by omega)))), bR.kept hg (by simp), bK.kept hg (by simp), bP.kept hg (by simp), bF.set 0 (by simp) _⟩
theorem PBox.num {w W W1 : World} {c0 c1 : Value} {f : Bool} (h : PBox w W W1 c0 c1 f) (u : Value) : PBox w W (W1.setCell ⟨w.heap.size + 2, 0, none⟩ u) u c1 f := by
  obtain ⟨hE, hr, bR, bK, bP, bF⟩ := h
  have hg := grown_set W1 (w.heap.size + 2) 0 u
  exact ⟨hE.setCell (p := ⟨w.heap.size + 2, 0, none⟩) (by show w.heap.size ≤ w.heap.size + 2; omega) _, hr.trans (Rnd.set _ _ _ _ (not_bs3 (.inl (by omega)))), bR.kept hg (by simp), bK.kept hg (by simp), bP.set 0 (by simp) _, bF.kept hg (by simp)⟩
theorem PBox.steps {w W W1 : World} {c0 c1 : Value} {f : Bool} (h : PBox w W W1 c0 c1 f) (u : Value) : PBox w W (W1.setCell ⟨w.heap.size + 2, 1, none⟩ u) c0 u f := by
  obtain ⟨hE, hr, bR, bK, bP, bF⟩ := h
  have hg := grown_set W1 (w.heap.size + 2) 1 u
  exact ⟨hE.setCell (p := ⟨w.heap.size + 2, 1, none⟩) (by show w.heap.size ≤ w.heap.size + 2; omega) _, hr.trans (Rnd.set _ _ _ _ (not_bs3 (.inl (by omega)))), bR.kept hg (by simp), bK.kept hg (by simp), bP.set 1 (by simp) _, bF.kept hg (by simp)⟩
theorem PBox.grown {w W W1 W2 : World} {c0 c1 : Value} {f : Bool} {row : Option Nat} (h : PBox w W W1 c0 c1 f) (hg : W1.grownBy W2 row) (hr : ∀ b, row = some b → w.heap.size + 7 ≤ b ∧ ∃ o : Obj, W1.heap[b]? = some o ∧ o.isCells = true) : PBox w W W2 c0 c1 f := by
  obtain ⟨hE, r, bR, bK, bP, bF⟩ := h
  have hb : ∀ b, b < w.heap.size + 7 → row ≠ some b := fun b hb e => by have := (hr b e).1; omega
  refine ⟨hE.grown hg (fun k e => by have := (hr k e).1; omega), r.trans (Rnd.grown hg (fun b e => not_bs3 (.inr (hr b e).1)) (fun j o e ho => ?_)), bR.kept hg (hb _ (by omega)), bK.kept hg (hb _ (by omega)), bP.kept hg (hb _ (by omega)), bF.kept hg (hb _ (by omega))⟩
  obtain ⟨o', h1, h2⟩ := (hr j e).2
  rw [ho] at h1
  cases h1
  exact h2
theorem _root_.Fm.OwnSt.cellsBlock {e : TypeId} {base : Nat} {w : World} {v : Value} {l : List Stp} (h : OwnSt e base w v l) : ∀ b, v.ownBlock = some b → base ≤ b ∧ ∃ o : Obj, w.heap[b]? = some o ∧ o.isCells = true := by
  intro b hb
  refine ⟨(h.lt b hb).1, ?_⟩
  rcases h.1.2 with ⟨rfl, _⟩ | ⟨g, cap, cur, rfl, _, hgb, _⟩
  · cases hb
  · have e : g = b := by simpa [Value.ownBlock] using hb
    subst e
    exact ⟨_, hgb, rfl⟩
theorem box_add {w : World} {b : Nat} {vs : List Value} (h : BoxL w b vs) : ∀ j u, vs[j]? = some u → w.cell? ((⟨b, 0, none⟩ : Addr).add j) = some u := by
  intro j u hj
  rw [Addr.add_lit, Nat.zero_add]
  exact h.cell j u hj
/-- The round's end where all ends: the results are written. -/
theorem round_ret {s : List UInt8} {w W W1 : World} {c0 c1 : Value} {f : Bool} {xs : List (List UInt8)} {a : Act} (h : PBox w W W1 c0 c1 f) (hp : parseP s = none) (B : Nat) :
    ownPostG B (KeepsB (bs3 w)) (PRnd w) (PEnd s w) xs W .ret a ((set2W W1 w.heap.size (.int .i64 0) (.slice none 0 0)).setCell ⟨w.heap.size + 1, 0, none⟩ (.bool false)) := by
  obtain ⟨hE, hr, bR, bK, -, -⟩ := h
  obtain ⟨h1, h2⟩ := set2_facts (x := .int .i64 0) (y := .slice none 0 0) hE bR (Nat.le_refl _)
  have k1 := set2_far (x := .int .i64 0) (y := .slice none 0 0) (b := w.heap.size) bK (by omega)
  have hr1 : Rnd (bs3 w) W (set2W W1 w.heap.size (.int .i64 0) (.slice none 0 0)) := (hr.trans (Rnd.set _ _ _ _ (not_bs3 (.inl (by omega))))).trans (Rnd.set _ _ _ _ (not_bs3 (.inl (by omega))))
  exact ⟨(hr1.trans (Rnd.set _ _ _ _ (not_bs3 (.inl (by omega))))).from B, rfl, h1.setCell (p := ⟨w.heap.size + 1, 0, none⟩) (by show w.heap.size ≤ w.heap.size + 1; omega) _, h2.kept (grown_set _ _ _ _) (by simp), k1.set 0 (by simp) _, hp⟩
/-- The round's end where it goes on. -/
theorem round_on {s : List UInt8} {w W W1 : World} {fl : Int} {a : Option Addr} {m c : Nat} {st : List Stp} {y : List UInt8} {l : List (List UInt8)} {xs : List (List UInt8)} {A : Act} (h : PBox w W W1 (.int .i64 fl) (.slice a m c) false) (hO : OwnSt 27 (w.heap.size + 7) W1 (.slice a m c) st) (hfl : isI64 fl) (hx : xs = y :: l) (hy : numI y = some fl) (hl : stepsP l = some st) (hz : w.heap.size + 7 ≤ W.heap.size) (B : Nat) :
    ownPostG B (KeepsB (bs3 w)) (PRnd w) (PEnd s w) xs W .normal A W1 := by
  obtain ⟨hE, hr, bR, bK, bP, bF⟩ := h
  subst hx
  exact ⟨hr.from B, hr.keeps, Nat.le_trans hz hr.1, hE, bR, bK, bF, fl, a, m, c, st, bP, hO, hfl, .inr ⟨y, l, rfl, hy, hl⟩⟩
/-- The return, with the mark of the rounds' deferred calls. -/
theorem parse_leave {s : List UInt8} {w W : World} {fl : Int} {sa : Option Addr} {m c : Nat} {ok : Bool} {D : Nat} (tmps : Array Value) (h2 : tmps[2]?.getD undef = .pointer (some ⟨w.heap.size, 0, none⟩)) (h3 : tmps[3]?.getD undef = .pointer (some ⟨w.heap.size + 1, 0, none⟩))
    (bR : BoxL W w.heap.size [.int .i64 fl, .slice sa m c]) (bK : BoxL W (w.heap.size + 1) [.bool ok]) (hD : w.heap.size + 7 ≤ D) (hK : W.heap[D]? = some (.deferred (some [])))
    (hP : ∀ W', W.grownBy W' (some D) → PathPost s w (.returned (.tuple #[.agg #[.int .i64 fl, .slice sa m c], .bool ok])) W') :
    bodyPostM Fence.wide 3 Tryz.prog Tryz.f9 (PathPost s w) .ret { tmps := tmps, defers := [{ target := .collected D, args := #[] }] } W := by
  refine ⟨by simp, .inl ⟨_, _, rfl, run_takeDeferred hK, ?_⟩⟩
  have hg := grownBy_putObj' W D (.deferred none)
  have e1 := bR.kept hg (fun e => by injection e with e; omega)
  have e2 := bK.kept hg (fun e => by injection e with e; omega)
  have hP := hP _ hg
  generalize W.putObj D (.deferred none) = W' at *
  have y0 := e1.cell 0 _ rfl
  have y1 := e1.cell 1 _ rfl
  have y2 := e2.cell 0 _ rfl
  exact ⟨_, by simp [results, Tryz.results9, go_sem, h2, h3, y0, y1, y2], hP⟩
/-- The seven boxes, ahead of the loop. -/
theorem parse_boxes (w : World) (s : List UInt8) (W : World) (hW : ((((((w.alloc (.cells #[.int .i64 0, .slice none 0 0] 24)).alloc (.cells #[.bool false] 4)).alloc (.cells #[.int .i64 0, .slice none 0 0] 24)).alloc (.cells #[.bool true] 4)).alloc (.cells #[.string (str s)] 9)).alloc (.cells #[.string (str [47])] 9)).alloc (.cells #[.int .i64 0] 3) = W) :
    W.heap.size = w.heap.size + 7 ∧ PRnd w [] W ∧ Boxed W (w.heap.size + 4) 9 (.string (str s)) ∧ Boxed W (w.heap.size + 5) 9 (.string (str [47])) ∧ Boxed W (w.heap.size + 6) 3 (.int .i64 0) := by
  obtain ⟨w1, h1⟩ : ∃ x, x = w.alloc (.cells #[.int .i64 0, .slice none 0 0] 24) := ⟨_, rfl⟩
  obtain ⟨w2, h2⟩ : ∃ x, x = w1.alloc (.cells #[.bool false] 4) := ⟨_, rfl⟩
  obtain ⟨w3, h3⟩ : ∃ x, x = w2.alloc (.cells #[.int .i64 0, .slice none 0 0] 24) := ⟨_, rfl⟩
  obtain ⟨w4, h4⟩ : ∃ x, x = w3.alloc (.cells #[.bool true] 4) := ⟨_, rfl⟩
  obtain ⟨w5, h5⟩ : ∃ x, x = w4.alloc (.cells #[.string (str s)] 9) := ⟨_, rfl⟩
  obtain ⟨w6, h6⟩ : ∃ x, x = w5.alloc (.cells #[.string (str [47])] 9) := ⟨_, rfl⟩
  rw [← h1, ← h2, ← h3, ← h4, ← h5, ← h6] at hW
  have z1 : w1.heap.size = w.heap.size + 1 := by rw [h1]; simp
  have z2 : w2.heap.size = w.heap.size + 2 := by rw [h2, World.size_alloc, z1]
  have z3 : w3.heap.size = w.heap.size + 3 := by rw [h3, World.size_alloc, z2]
  have z4 : w4.heap.size = w.heap.size + 4 := by rw [h4, World.size_alloc, z3]
  have z5 : w5.heap.size = w.heap.size + 5 := by rw [h5, World.size_alloc, z4]
  have z6 : w6.heap.size = w.heap.size + 6 := by rw [h6, World.size_alloc, z5]
  have z7 : W.heap.size = w.heap.size + 7 := by rw [← hW, World.size_alloc, z6]
  have e1 : Ext w w1 := by rw [h1]; exact (Ext.refl w).alloc _
  have e2 : Ext w1 w2 := by rw [h2]; exact (Ext.refl w1).alloc _
  have e3 : Ext w2 w3 := by rw [h3]; exact (Ext.refl w2).alloc _
  have e4 : Ext w3 w4 := by rw [h4]; exact (Ext.refl w3).alloc _
  have e7 : Ext w4 W := by rw [← hW, h6, h5]; exact (((Ext.refl w4).alloc _).alloc _).alloc _
  have b1 := BoxL.new w [.int .i64 0, .slice none 0 0] 24
  rw [← h1] at b1
  have b2 := BoxL.new w1 [.bool false] 4
  rw [← h2, z1] at b2
  have b3 := BoxL.new w2 [.int .i64 0, .slice none 0 0] 24
  rw [← h3, z2] at b3
  have b4 := BoxL.new w3 [.bool true] 4
  rw [← h4, z3] at b4
  refine ⟨z7, ⟨by omega, ((((e1.trans e2).trans e3).trans e4).trans e7), b1.ext (((e2.trans e3).trans e4).trans e7), b2.ext ((e3.trans e4).trans e7), b4.ext e7, 0, none, 0, 0, [], b3.ext (e4.trans e7), OwnSt.nil _ _ _, by unfold isI64; omega, .inl ⟨rfl, rfl, rfl⟩⟩, ?_, ?_, ?_⟩
  · have c := Boxed.new w4 9 (.string (str s))
    rw [← h5, z4] at c
    rw [← hW, h6]; exact (c.alloc _).alloc _
  · have c := Boxed.new w5 9 (.string (str [47]))
    rw [← h6, z5] at c
    rw [← hW]; exact c.alloc _
  · have c := Boxed.new w6 3 (.int .i64 0)
    rw [hW, z6] at c
    exact c
set_option maxRecDepth 100000 in
set_option maxHeartbeats 2000000 in
theorem idParse_any (s : List UInt8) (hs : s.length ≤ 1000000) (w : World) (hw : KW w) :
    Calls Tryz.prog 9 #[.string (str s)] w (PathPost s w) := by
  have hfn : ∀ f, Fence.wide.fn f := fun _ => trivial
  have hdp : Fence.wide.depth.isSome = false := rfl
  have HW := Lib.hid hw
  have hsz := str_size s
  clear hw
  obtain ⟨W7, hW7⟩ : ∃ x, ((((((w.alloc (.cells #[.int .i64 0, .slice none 0 0] 24)).alloc (.cells #[.bool false] 4)).alloc (.cells #[.int .i64 0, .slice none 0 0] 24)).alloc (.cells #[.bool true] 4)).alloc (.cells #[.string (str s)] 9)).alloc (.cells #[.string (str [47])] 9)).alloc (.cells #[.int .i64 0] 3) = x := ⟨_, rfl⟩
  obtain ⟨hz7, hP, b4, b5, b6⟩ := parse_boxes w s W7 hW7
  have HW7 := Lib.hid hW7
  clear hW7
  refine (callsIn_wide (n := 3)).1 ?_
  refine callsIn_of_wp_marks Tryz.func9 rfl trivial ?_ rfl
  simp only [Tryz.ntmps9, List.size_toArray, List.length_cons, List.length_nil, Nat.reduceAdd, Nat.reduceSub, Array.replicate_succ, Array.replicate_zero, List.push_toArray, List.append_toArray, List.nil_append, List.cons_append]
  gi_wp2_with (gi_at_call 48; refine (callsIn_wide.2 (splitSeq_any s _)).mono ?_; rintro e w' ⟨rfl, rfl⟩)
  rw [HW7.out]
  simp only [Nat.add_assoc, Nat.reduceAdd]
  refine wpIn_rangeFunc_ab rfl (by decide) (gf := 86) (lb := #[.pointer (some ⟨w.heap.size + 5, 0, none⟩), .pointer (some ⟨w.heap.size + 4, 0, none⟩), .pointer (some ⟨w.heap.size + 6, 0, none⟩)]) rfl trivial (enters_of Tryz.func86 (by kernel_rfl) rfl)
    (splitSeq1_stops _ _ _ _ s hs ⟨by omega, by omega⟩ W7 b4 b5 b6) (Below.refl _ _) (fun _ => rfl)
    (fun X Y ⟨u, e⟩ k o hk ho hc => ?hAb) (fun h k => KeepsB.trans h k) (fun X l o o' hl ho hc b hb o2 h2 => ?hKb)
    (PRnd w) (PEnd s w) (by rw [hz7]; exact PRnd.own w) (fun c => by rw [hz7]; exact PEnd.own s w c) (fun pre X Y h ⟨u, e⟩ => by rw [e]; exact h.set u) (fun c pre X Y h ⟨u, e⟩ => by rw [e]; exact h.set u) hP
    (fun x => { tmps := #[.string (str s), undef, .pointer (some ⟨w.heap.size, 0, none⟩), .pointer (some ⟨w.heap.size + 1, 0, none⟩), .pointer (some ⟨w.heap.size + 2, 0, none⟩), .pointer (some ⟨w.heap.size + 3, 0, none⟩), .string (str x), undef, undef, .string (str s),
      .func (.func 86) #[] #[.pointer (some ⟨w.heap.size + 5, 0, none⟩), .pointer (some ⟨w.heap.size + 4, 0, none⟩), .pointer (some ⟨w.heap.size + 6, 0, none⟩)], .string (str x), undef, undef, undef, undef, undef, undef, undef, undef, undef, undef, undef, undef, undef, undef, undef, undef, undef, undef, undef, undef, undef, undef, undef, undef, undef, undef, undef], defers := [] }) ?assign ?body ?done ?stop
  case hAb => rw [e, Below.heap_setCell _ _ _ _ (by show k ≠ w.heap.size + 4; omega)]; exact ho
  case hKb =>
    have hlt : b < w.heap.size + 7 := by
      unfold bs3 at hb
      simp only [List.mem_cons, List.not_mem_nil, or_false] at hb
      omega
    exact (World.putObj_heap_other (by omega)).trans h2
  case assign =>
    intro l x W K hK
    gi_wp2
    exact hK
  case body =>
    rintro l pre x W ⟨hBW, hE, bR, bK, bF, fl, a, m, c, st, bP, hO, hfl, hcase⟩ hnx
    rw [hz7]
    obtain ⟨i0, hi, hz0, hz1, hz2⟩ := info_parts info_step
    have hln := next_len hnx
    have HN := Lib.hid hnx
    clear b4 b5 b6 hP hnx
    have H0 := Lib.hid (show PBox w W W (.int .i64 fl) (.slice a m c) pre.isEmpty from ⟨hE, Rnd.refl _ _, bR, bK, bP, bF⟩)
    have HO := Lib.hid hO
    have HBW := Lib.hid hBW
    clear hE bR bK bF bP hO hBW
    rcases hcase with ⟨rfl, rfl, rfl⟩ | ⟨y, l0, rfl, hy, hl0⟩
    · have t0 := H0.out.2.2.2.2.2.cell 0 _ rfl
      have t1 := H0.out.2.2.2.2.2.free 0
      have H1 := Lib.hid (H0.out.first false)
      have HO1 := Lib.hid (HO.out.kept (grown_set W (w.heap.size + 3) 0 (.bool false)) (fun b e => by injection e with e; omega))
      clear H0 HO
      gi_wp2_with fail
      generalize W.setCell ⟨w.heap.size + 3, 0, none⟩ (.bool false) = W1 at *
      clear t0 t1
      refine (CallsIn.inRound l (callsIn_wide.2 (idNumber_any x (by omega) W1 (HW.out.ext H1.out.1)))).mono ?_
      rintro e w2 ⟨rfl, hE2⟩
      have H2 := Lib.hid (H1.out.ext hE2)
      have HO2 := Lib.hid (HO1.out.ext hE2)
      have p1 := H2.out.2.2.2.2.1.cell 0 _ rfl
      have p2 := H2.out.2.2.2.2.1.free 0
      have H3 := Lib.hid (H2.out.num (.int .i64 (numV x)))
      have HO3 := Lib.hid (HO2.out.kept (grown_set w2 (w.heap.size + 2) 0 (.int .i64 (numV x))) (fun b e => by injection e with e; omega))
      have q0 := H3.out.2.2.2.2.1.cell 0 _ rfl
      have HI := Lib.hid (numV_isI64 x)
      have HV := Lib.hid (@numV_eq x)
      have HVS : Hid (numV x ≠ -1 → numI x = some (numV x)) := Lib.hid (fun h => by
        cases e : numI x with
        | none => exact absurd (numV_none e) h
        | some n => rw [numV_some e])
      clear hE2 H1 HO1 H2 HO2
      have r0 := H3.out.2.2.1.cell 0 _ rfl
      have r1 := H3.out.2.2.1.cell 1 _ rfl
      have r2 := H3.out.2.2.1.free 0
      have r3 := H3.out.2.2.1.free 1
      have k0 := H3.out.2.2.2.1.cell 0 _ rfl
      have k1 := H3.out.2.2.2.1.free 0
      generalize numV x = NV at *
      by_cases hn : NV = -1
      · have HZ := Lib.hid (parse_bad_num HN.out (HV.out.1 hn))
        have ht : (NV == -1) = true := by simp [hn]
        clear hn HV HVS HI hfl
        gi_wp2_with fail
        exact round_ret H3.out HZ.out _
      · have HZ := Lib.hid (HVS.out hn)
        have ht : (NV == -1) = false := by simp [hn]
        clear hn HV HVS
        gi_wp2_with fail
        exact round_on H3.out HO3.out HI.out rfl HZ.out rfl HBW.out _
    · have t0 := H0.out.2.2.2.2.2.cell 0 _ rfl
      simp only [List.isEmpty_cons] at t0 H0
      have HL := Lib.hid (stepsP_len hl0)
      have hsl : st.length ≤ 1000000 := by have := HL.out; have := hln.2; simp at this; omega
      have HY := Lib.hid hy
      have HL0 := Lib.hid hl0
      have HF := Lib.hid hfl
      clear hy hl0 hfl
      gi_wp2_with fail
      refine (CallsIn.inRound l (callsIn_wide.2 (idStep_any x (by omega) W (HW.out.ext H0.out.1)))).mono ?_
      rintro e w2 ⟨xx, hwf, rfl, hor, hE2⟩
      have H2 := Lib.hid (H0.out.ext hE2)
      have HO2 := Lib.hid (HO.out.ext hE2)
      have HWF := Lib.hid hwf
      have HOR := Lib.hid hor
      have hE3 := (Ext.refl w2).alloc (.cells #[.string (str xx.name), .int .i64 xx.place] 27)
      have H3 := Lib.hid (H2.out.ext hE3)
      have HO3 := Lib.hid (HO2.out.ext hE3)
      have HXB := Lib.hid (BoxL.new w2 [.string (str xx.name), .int .i64 xx.place] 27)
      clear hE2 hwf hor H2 HO2 H0 HO hE3 t0

      have HXB := Lib.hid (show BoxL (w2.alloc (.cells #[.string (str xx.name), .int .i64 xx.place] 27)) w2.heap.size [.string (str xx.name), .int .i64 xx.place] from HXB.out)
      cases hsx : stepP x with
      | none =>
        have HZ := Lib.hid (parse_bad_step HN.out hsx)
        clear hsx
        have r0 := H3.out.2.2.1.cell 0 _ rfl
        have r1 := H3.out.2.2.1.cell 1 _ rfl
        have r2 := H3.out.2.2.1.free 0
        have r3 := H3.out.2.2.1.free 1
        have k0 := H3.out.2.2.2.1.cell 0 _ rfl
        have k1 := H3.out.2.2.2.1.free 0
        gi_wp2_with fail
        exact round_ret H3.out HZ.out _
      | some sx =>
        have hxs : xx = sx := by
          rcases HOR.out with h | h
          · rw [hsx] at h; cases h
          · rw [hsx] at h; injection h with h; exact h.symm
        subst hxs
        have HSX := Lib.hid (show stepsP (l0 ++ [x]) = some (st ++ [xx]) by rw [stepsP_snoc, HL0.out, Option.bind_some, hsx]; rfl)
        clear hsx HOR
        have p1 := H3.out.2.2.2.2.1.cell 1 _ rfl
        have p2 := H3.out.2.2.2.2.1.free 1
        have x0 := HXB.out.cell 0 _ rfl
        have x1 := HXB.out.cell 1 _ rfl
        have hE4 := (Ext.refl (w2.alloc (.cells #[.string (str xx.name), .int .i64 xx.place] 27))).alloc (.cells #[.string (str xx.name), .int .i64 xx.place] 27)
        have H4 := Lib.hid (H3.out.ext hE4)
        have HO4 := Lib.hid (HO3.out.ext hE4)
        have hNB := BoxL.new (w2.alloc (.cells #[.string (str xx.name), .int .i64 xx.place] 27)) [.string (str xx.name), .int .i64 xx.place] 27
        rw [show (w2.alloc (.cells #[.string (str xx.name), .int .i64 xx.place] 27)).heap.size = w2.heap.size + 1 by simp] at hNB
        have HNC := Lib.hid (box_add hNB)
        have hzl := H4.out.1.size
        have HZ7 : Hid (w.heap.size + 7 ≤ ((w2.alloc (.cells #[.string (str xx.name), .int .i64 xx.place] 27)).alloc (.cells #[.string (str xx.name), .int .i64 xx.place] 27)).heap.size) := Lib.hid (by
          have := H4.out.2.1.1
          have := HBW.out
          omega)
        clear H3 HO3 hE4 hNB hzl
        gi_wp2_with (gi_at_builtin; refine wpListIn_append_own _ rfl _ _ 22 rfl (w.heap.size + 7) 27 i0 (.agg #[.string { data := #[] }, .int .i64 0]) 2 24 Tryz.underlying22 hi hz0 hz1 hz2 rfl (by decide) _ _ _ rfl HO4.out.1 ⟨w2.heap.size + 1, 0, none⟩ 1 1 (stpCells xx) rfl rfl HNC.out (by simp [stpCells, Value.oneCell']) (by unfold maxLen; omega) (by omega) HZ7.out ?_; intro v' w5 hown' hgrow _; obtain ⟨g', cap', rfl⟩ := ownsRow_succ hown'; have H5 := Lib.hid (H4.out.grown hgrow HO4.out.cellsBlock); have HO5 := Lib.hid (OwnSt.snoc hown' HO4.out.2 HWF.out); have q1 := H5.out.2.2.2.2.1.cell 1 _ rfl; have q2 := H5.out.2.2.2.2.1.free 1; clear hown' hgrow H4 HO4)
        have H6 := Lib.hid (H5.out.steps (.slice (some ⟨g', 0, none⟩) (st.length + 1) cap'))
        have HO6 := Lib.hid (HO5.out.kept (grown_set w5 (w.heap.size + 2) 1 (.slice (some ⟨g', 0, none⟩) (st.length + 1) cap')) (fun b e => by injection e with e; omega))
        exact round_on H6.out HO6.out HF.out rfl HY.out HSX.out HBW.out _
  case done =>
    rintro D xs W hD rfl ⟨hBW, hE, bR, bK, bF, fl, a, m, c, st, bP, hO, hfl, hcase⟩ hK
    rw [hz7] at hD
    rcases hcase with ⟨h, -, -⟩ | ⟨y, l0, hsp, hy, hl0⟩
    · exact absurd h (split47_ne s)
    have HG := Lib.hid (parse_good hsp hy hl0)
    have H0 := Lib.hid (show PBox w W W (.int .i64 fl) (.slice a m c) (split47 s).isEmpty from ⟨hE, Rnd.refl _ _, bR, bK, bP, bF⟩)
    have HO := Lib.hid hO
    have HF := Lib.hid hfl
    have HK := Lib.hid hK
    clear hE bR bK bF bP hO hBW b4 b5 b6 hP hsp hy hl0 hfl hK
    have r0 := H0.out.2.2.1.cell 0 _ rfl
    have r1 := H0.out.2.2.1.cell 1 _ rfl
    have r2 := H0.out.2.2.1.free 0
    have r3 := H0.out.2.2.1.free 1
    have k0 := H0.out.2.2.2.1.cell 0 _ rfl
    have k1 := H0.out.2.2.2.1.free 0
    have p0 := H0.out.2.2.2.2.1.cell 0 _ rfl
    have p1 := H0.out.2.2.2.2.1.cell 1 _ rfl
    by_cases hl : s.length ≤ 400
    · have hl' : decide ((400 : Int) < (s.length : Int)) = false := by simp; omega
      have HG := Lib.hid (show parseP s = some ⟨fl, st⟩ by rw [HG.out, if_pos hl])
      clear hl
      gi_wp2
      have hs2 := set2_facts (x := .int .i64 fl) (y := .slice a m c) H0.out.1 H0.out.2.2.1 (Nat.le_refl _)
      have hk2 := set2_far (x := .int .i64 fl) (y := .slice a m c) (b := w.heap.size) H0.out.2.2.2.1 (by omega)
      have hr2 : Rnd (bs3 w) W (set2W W w.heap.size (.int .i64 fl) (.slice a m c)) := (Rnd.set _ _ _ _ (not_bs3 (.inl (by omega)))).trans (Rnd.set _ _ _ _ (not_bs3 (.inl (by omega))))
      have hO2 := (HO.out.kept (grown_set W w.heap.size 0 (.int .i64 fl)) (fun b e => by injection e with e; omega)).kept (grown_set _ w.heap.size 1 (.slice a m c)) (fun b e => by injection e with e; omega)
      change bodyPostM _ _ _ _ _ _ _ ((set2W W w.heap.size (.int .i64 fl) (.slice a m c)).setCell ⟨w.heap.size + 1, 0, none⟩ (.bool true))
      refine parse_leave (fl := fl) (sa := a) (m := m) (c := c) (ok := true) _ rfl rfl (hs2.2.kept (grown_set _ _ _ _) (by simp)) (hk2.set 0 (by simp) (.bool true)) hD ((hr2.trans (Rnd.set _ _ _ _ (not_bs3 (.inl (by omega))))).2 _ _ HK.out (.inr rfl)) (fun W' hg => ?_)
      have hO3 := hO2.kept (grown_set (set2W W w.heap.size (.int .i64 fl) (.slice a m c)) (w.heap.size + 1) 0 (.bool true)) (fun b e => by injection e with e; omega)
      have hKF := (hr2.trans (Rnd.set _ (w.heap.size + 1) 0 (.bool true) (not_bs3 (.inl (by omega))))).2 _ _ HK.out (.inr rfl)
      have hO4 := hO3.far hg (fun b e => by injection e with e; subst e; exact ⟨_, hKF, rfl⟩)
      refine ⟨.agg #[.int .i64 fl, .slice a m c], by rw [HG.out]; rfl, (hs2.1.setCell (p := ⟨w.heap.size + 1, 0, none⟩) (by show w.heap.size ≤ w.heap.size + 1; omega) _).grown hg (fun k e => by injection e with e; omega), (fun h => by rw [HG.out] at h; cases h), fun p hp => ?_⟩
      rw [HG.out] at hp
      injection hp with hp
      subst hp
      exact ⟨a, m, c, rfl, hO4.mono (by omega), HF.out⟩
    · have hl' : decide ((400 : Int) < (s.length : Int)) = true := by simp; omega
      have HG := Lib.hid (show parseP s = none by rw [HG.out, if_neg hl])
      clear hl
      gi_wp2
      have hs2 := set2_facts (x := .int .i64 0) (y := .slice none 0 0) H0.out.1 H0.out.2.2.1 (Nat.le_refl _)
      have hk2 := set2_far (x := .int .i64 0) (y := .slice none 0 0) (b := w.heap.size) H0.out.2.2.2.1 (by omega)
      have hr2 : Rnd (bs3 w) W (set2W W w.heap.size (.int .i64 0) (.slice none 0 0)) := (Rnd.set _ _ _ _ (not_bs3 (.inl (by omega)))).trans (Rnd.set _ _ _ _ (not_bs3 (.inl (by omega))))
      change bodyPostM _ _ _ _ _ _ _ ((set2W W w.heap.size (.int .i64 0) (.slice none 0 0)).setCell ⟨w.heap.size + 1, 0, none⟩ (.bool false))
      refine parse_leave (fl := 0) (sa := none) (m := 0) (c := 0) (ok := false) _ rfl rfl (hs2.2.kept (grown_set _ _ _ _) (by simp)) (hk2.set 0 (by simp) (.bool false)) hD ((hr2.trans (Rnd.set _ _ _ _ (not_bs3 (.inl (by omega))))).2 _ _ HK.out (.inr rfl)) (fun W' hg => ?_)
      exact ⟨.agg #[.int .i64 0, .slice none 0 0], by rw [HG.out]; rfl, (hs2.1.setCell (p := ⟨w.heap.size + 1, 0, none⟩) (by show w.heap.size ≤ w.heap.size + 1; omega) _).grown hg (fun k e => by injection e with e; omega), fun _ => rfl, fun p hp => by rw [HG.out] at hp; cases hp⟩
  case stop =>
    rintro D cd pre W hD - ⟨rfl, hE, bR, bK, hp⟩ hK
    rw [hz7] at hD
    have HG := Lib.hid hp
    clear hp b4 b5 b6 hP
    gi_wp2
    refine parse_leave (fl := 0) (sa := none) (m := 0) (c := 0) (ok := false) _ rfl rfl bR bK hD hK (fun W' hg => ?_)
    exact ⟨.agg #[.int .i64 0, .slice none 0 0], by rw [HG.out]; rfl, hE.grown hg (fun k e => by injection e with e; omega), fun _ => rfl, fun p hp => by rw [HG.out] at hp; cases hp⟩
end Go.Proofs.YtpcgpcjleedilaaGreatDoor

open Go.RowKit Go.Shelf
namespace Go.Proofs.YtpcgpcjleedilaaGreatDoor
open Go Go.Proofs Fm

theorem str_cat (a b : List UInt8) : str a ++ str b = str (a ++ b) := by
  have : (str a ++ str b).data = (str (a ++ b)).data := by simp [str]
  exact congrArg ByteArray.mk this
theorem _root_.Fm.BoxL.same {w w' : World} {b : Nat} {vs : List Value} (h : BoxL w b vs) (e : w'.heap[b]? = w.heap[b]?) : BoxL w' b vs := by
  refine ⟨?_, fun j u hu => (World.cell?_of_block (a := ⟨b, j, none⟩) e).trans (h.cell j u hu), fun j => (World.frozen?_of_block (a := ⟨b, j, none⟩) e).trans (h.free j)⟩
  have := h.lt
  rw [Array.getElem?_eq_getElem this] at e
  exact (Array.getElem?_eq_some_iff.1 e).1
theorem itoa_len {n : Int} (h : 0 ≤ n ∧ n ≤ 999999) : (Lib.itoa n).length ≤ 6 := by
  rw [itoa_decD h.1]
  have key : ∀ (k u : Nat), u < 10 ^ (k + 1) → (Lib.decDigits u).length ≤ k + 1 := by
    intro k
    induction k with
    | zero => intro u h; rw [Lib.decDigits, dif_pos (by simpa using h)]; simp
    | succ k ih =>
      intro u h
      rw [Lib.decDigits]
      split
      · simp
      · have := ih (u / 10) (by rw [Nat.pow_succ] at h; omega)
        rw [List.length_append, List.length_singleton]; omega
  exact key 5 n.toNat (by omega)
theorem stpS_len {x : Stp} (h : stpB x = true) : (stpS x).length ≤ 29 := by
  obtain ⟨h1, h2⟩ := stpB_iff.1 h
  have := (nameB_iff.1 h1).2.2
  unfold stpS placeS
  by_cases hp : x.place = -1
  · rw [if_pos hp]; simp; omega
  · rw [if_neg hp]
    have := itoa_len (n := x.place) (by omega)
    simp; omega
theorem stepsS_len : ∀ (l : List Stp), (∀ x, x ∈ l → stpB x = true) → (stepsS l).length ≤ l.length * 29
  | [], _ => by simp [stepsS]
  | x :: l, h => by
    have h1 := stpS_len (h x (List.mem_cons_self ..))
    have h2 := stepsS_len l (fun y hy => h y (List.mem_cons_of_mem _ hy))
    rw [stepsS_cons, List.length_append, List.length_cons]; omega
theorem pthS_len {p : Pth} (h : pthB p = true) : (pthS p).length ≤ 6 + p.steps.length * 29 := by
  obtain ⟨h1, h2⟩ := pthB_iff.1 h
  have := itoa_len h1
  have := stepsS_len p.steps h2
  unfold pthS
  rw [List.length_append]; omega
set_option maxRecDepth 100000 in
set_option maxHeartbeats 2000000 in
theorem idShow_right (p : Pth) (hp : pthB p = true) (hl : p.steps.length ≤ 10000) (w : World) (hw : KW w) (v : Value) (h : PthV w p v) :
    Calls Tryz.prog 15 #[v] w fun e w' => e = .returned (.string (str (pthS p))) ∧ Ext w w' := by
  obtain ⟨a, m, c, rfl, hr, hi⟩ := h
  obtain ⟨a', c', e, hc1, hc2⟩ := hr.slice
  injection e with e1 e2 e3
  subst e1 e2 e3
  have HV := Lib.hid (show PthV w p (.agg #[.int .i64 p.flow, .slice a p.steps.length c]) from ⟨a, p.steps.length, c, rfl, hr, hi⟩)
  have HF := Lib.hid (pthB_iff.1 hp)
  have HR := Lib.hid hr
  have HW := Lib.hid hw
  have HP := Lib.hid hp
  have HI := Lib.hid hi
  have hb := BoxL.new w [.int .i64 p.flow, .slice a p.steps.length c] 24
  have HE0 := Lib.hid ((Ext.refl w).alloc (.cells #[.int .i64 p.flow, .slice a p.steps.length c] 24))
  clear hr hw hp hi
  go_enter Tryz.func15, Tryz.ntmps15
  go_upto_region 1 with (fail)
  generalize w.alloc (.cells #[.int .i64 p.flow, .slice a p.steps.length c] 24) = W1 at *
  have p0 := hb.cell 0 _ rfl
  have p1 := hb.cell 1 _ rfl
  have hz1 := hb.lt
  have HB := Lib.hid hb
  clear hb
  go_wp2_with fail
  refine (idRight_any p W1 _ (HV.out.ext HE0.out)).mono ?_
  rw [HP.out]
  rintro e w2 ⟨rfl, hE2⟩
  have hB2 := HB.out.ext hE2
  have HE2 := Lib.hid hE2
  have hE3 := hE2.alloc (.cells #[.pointer none, .slice none 0 0] 90)
  have hfb := Lib.fresh_isBuilder 90 5 w2
  have hB3 := hB2.ext ((Ext.refl w2).alloc (.cells #[.pointer none, .slice none 0 0] 90))
  have hz3 : W1.heap.size ≤ w2.heap.size := hE2.size
  have HBD := Lib.hid (show Bld w2.heap.size w2.heap.size [] (w2.alloc (.cells #[.pointer none, .slice none 0 0] 90)) from hfb)
  clear p0 p1 hE2 hB2 hfb
  go_upto_region 4 with (fail)
  generalize hBB : w2.heap.size = B at *
  have HE3 := Lib.hid hE3
  have HB3 := Lib.hid hB3
  generalize w2.alloc (.cells #[.pointer none, .slice none 0 0] 90) = W3 at *
  have p0 := hB3.cell 0 _ rfl
  have p1 := hB3.cell 1 _ rfl
  have HBB := Lib.hid hBB
  clear hE3 hB3 hBB
  go_wp2_with fail
  refine (itoa_any HI.out (HW.out.ext (HE0.out.trans HE3.out))).mono ?_
  rintro e w4 ⟨rfl, hE4⟩
  have hlf := itoa_len HF.out.1
  have HBD4 := Lib.hid (HBD.out.ext hE4)
  have HE4 := Lib.hid (HE3.out.trans hE4)
  have hz4 : B ≤ w4.heap.size := by have := HBD4.out.lt.2; omega
  clear hE4 p0 p1 HBD
  go_wp2_with fail
  refine (wstring_any HBD4.out (Lib.itoa p.flow) (by simp) (by omega) hz4).mono ?_
  rintro e w5 ⟨rfl, hu, hB5, hK5⟩
  rw [List.nil_append] at hu
  have HU := Lib.hid hu
  have HE5 := Lib.hid (HE4.out.then (hB5.mono hz3))
  have p1 := (HB.out.ext HE5.out).cell 1 _ rfl
  clear hu hB5 hK5 HBD4 HE4 hz4
  go_wp2_with fail
  go_loopw [16, 5] (fun i _ wr => ∃ k : Nat, k ≤ p.steps.length ∧ i = .int .i64 k ∧ Hid (BldU B B (Lib.itoa p.flow ++ stepsS (p.steps.take k)) wr) ∧ Hid (Ext W1 wr)) (fun i _ _ => p.steps.length - (intOf i).toNat)
  case atStart => exact ⟨0, by omega, rfl, Lib.hid (by simpa [stepsS_nil] using HU.out), HE5⟩
  case round =>
    obtain ⟨k, hk, rfl, HUk, HEk⟩ := hrel
    clear p1 HU HE5
    by_cases hlt : k < p.steps.length
    · obtain ⟨b, off, rfl, hb, c0, c1, hs⟩ := stp_at HR.out (HE0.out.trans HEk.out) k hlt
      have hx := HF.out.2 _ (List.getElem_mem hlt)
      obtain ⟨hx1, hx2⟩ := stpB_iff.1 hx
      have hx3 := (nameB_iff.1 hx1).2.2
      have HT := Lib.hid (show stepsS (p.steps.take (k + 1)) = stepsS (p.steps.take k) ++ (47 :: (p.steps[k].name ++ placeS p.steps[k].place)) by
        rw [List.take_succ_eq_append_getElem hlt, stepsS_snoc]; rfl)
      have hln : (stepsS (p.steps.take k)).length ≤ 290000 := by
        have := stepsS_len (p.steps.take k) (fun x hx => HF.out.2 x (List.mem_of_mem_take hx))
        have := List.length_take_le k p.steps
        omega
      have HX2 := Lib.hid hx2
      generalize p.steps[k] = x at *
      obtain ⟨nm, pl⟩ := x
      simp only at c0 c1 hx3 HT HX2
      have hEa := (Ext.refl wr).alloc (.cells #[.string (str nm), .int .i64 pl] 27)
      have hxb := BoxL.new wr [.string (str nm), .int .i64 pl] 27
      have hUa := HUk.out.ext hEa
      have HEa := Lib.hid (HEk.out.trans hEa)
      have hlf := itoa_len HF.out.1
      have HAP := Lib.hid (HUk.out.apart (.cells #[.string (str nm), .int .i64 pl] 27))
      clear HUk HEk hx hx1 hx2 hs hEa
      have hcat : (⟨#[47]⟩ : ByteArray) ++ str nm = str (47 :: nm) := str_cat [47] nm
      have hs1 : (⟨#[47]⟩ : ByteArray).size = 1 := rfl
      have hs2 := str_size nm
      go_upto_region 8 with (fail)
      generalize hXB : wr.heap.size = XB at *
      generalize wr.alloc (.cells #[.string (str nm), .int .i64 pl] 27) = Wa at *
      clear c0 c1 hXB
      have x0 := hxb.cell 0 _ rfl
      have x1 := hxb.cell 1 _ rfl
      have HXB := Lib.hid hxb
      have HUa := Lib.hid hUa
      have hza : B ≤ Wa.heap.size := by have := hUa.lt; omega
      clear hxb hUa
      go_wp2_with fail
      refine (wstring_any HUa.out.bld (47 :: nm) (by simp; omega) (by simp; omega) hza).mono ?_
      rintro e w6 ⟨rfl, hu, hB6, hK6⟩
      have HU6 := Lib.hid hu
      have HE6 := Lib.hid (HEa.out.then (hB6.mono hz3))
      have HX6 := Lib.hid (HXB.out.same (hK6 XB HAP.out).1)
      have x0 := HX6.out.cell 0 _ rfl
      have x1 := HX6.out.cell 1 _ rfl
      clear hu hB6 hK6 HUa HXB HEa hza HAP
      by_cases hp : pl = -1
      · have HT := Lib.hid (show stepsS (p.steps.take (k + 1)) = stepsS (p.steps.take k) ++ (47 :: nm) by rw [HT.out, hp]; simp [placeS])
        have ht : (pl != -1) = false := by simp [hp]
        clear hp HX2
        go_wp2_with fail
        go_roundw
        case rel => exact ⟨k + 1, by omega, by go_num, Lib.hid (by have := HU6.out; rw [HT.out, ← List.append_assoc]; exact this), HE6⟩
        case measure => simp [intOf]; omega
      · have HT := Lib.hid (show stepsS (p.steps.take (k + 1)) = (stepsS (p.steps.take k) ++ (47 :: nm)) ++ (91 :: (Lib.itoa pl ++ [93])) by rw [HT.out]; simp [placeS, hp])
        have ht : (pl != -1) = true := by simp [hp]
        have hm : 0 ≤ pl ∧ pl ≤ 999999 := by
          rcases HX2.out with h | h
          · exact absurd h hp
          · exact h
        have hpl := itoa_len hm
        have HPL : Hid (isI64 pl) := Lib.hid (by unfold isI64; omega)
        clear hp HX2
        go_wp2_with fail
        refine (itoa_any HPL.out (HW.out.ext (HE0.out.trans HE6.out))).mono ?_
        rintro e w7 ⟨rfl, hE7⟩
        have HU7 := Lib.hid (HU6.out.ext hE7)
        have HE7 := Lib.hid (HE6.out.trans hE7)
        have hz7 : B ≤ w7.heap.size := by have := HU7.out.lt; omega
        have k1 : (⟨#[91]⟩ : ByteArray) ++ str (Lib.itoa pl) = str (91 :: Lib.itoa pl) := str_cat [91] _
        have k2 : str (91 :: Lib.itoa pl) ++ (⟨#[93]⟩ : ByteArray) = str (91 :: (Lib.itoa pl ++ [93])) := str_cat _ [93]
        have k3 : (⟨#[91]⟩ : ByteArray).size = 1 := rfl
        have k4 : (⟨#[93]⟩ : ByteArray).size = 1 := rfl
        have k5 := str_size (Lib.itoa pl)
        have k6 : (str (91 :: Lib.itoa pl)).size = (Lib.itoa pl).length + 1 := by rw [str_size]; simp
        clear hE7 HU6 HE6 x0 x1
        go_wp2_with fail
        refine (wstring_any HU7.out.bld (91 :: (Lib.itoa pl ++ [93])) (by simp; omega) (by simp; omega) hz7).mono ?_
        rintro e w8 ⟨rfl, hu, hB8, hK8⟩
        have HU8 := Lib.hid hu
        have HE8 := Lib.hid (HE7.out.then (hB8.mono hz3))
        clear hu hB8 hK8 HU7 HE7 k1 k2 k3 k4 k5 k6
        go_wp2_with fail
        go_roundw
        case rel => exact ⟨k + 1, by omega, by go_num, Lib.hid (by have := HU8.out; rw [HT.out, ← List.append_assoc, ← List.append_assoc]; simpa using this), HE8⟩
        case measure => simp [intOf]; omega
    · obtain rfl : k = p.steps.length := by omega
      have HX := Lib.hid (show BldU B B (pthS p) wr by have := HUk.out; rw [List.take_length] at this; exact this)
      clear HUk
      go_wp2_with fail
      refine (bstring_any HX.out.bld (by have := HX.out.lt; omega)).mono ?_
      rintro e w6 ⟨rfl, hB6⟩
      have HE6 := Lib.hid (HE0.out.trans (HEk.out.then (hB6.mono hz3)))
      clear hB6
      go_wp2
      go_ret
      exact ⟨rfl, HE6.out⟩
set_option maxHeartbeats 1000000 in
theorem idShow_any (p : Pth) (hl : p.steps.length ≤ 10000) (w : World) (hw : KW w) (v : Value) (h : PthV w p v) :
    Calls Tryz.prog 15 #[v] w fun e w' => e = .returned (.string (str (showP p))) ∧ Ext w w' := by
  cases hp : pthB p with
  | true =>
    rw [showP_right hp]
    exact idShow_right p hp hl w hw v h
  | false =>
    have HX := Lib.hid (show showP p = [] from showP_wrong hp)
    have HP := Lib.hid hp
    obtain ⟨a, m, c, rfl, hr, hi⟩ := h
    have HV := Lib.hid (show PthV w p (.agg #[.int .i64 p.flow, .slice a m c]) from ⟨a, m, c, rfl, hr, hi⟩)
    have hb := BoxL.new w [.int .i64 p.flow, .slice a m c] 24
    have HE0 := Lib.hid ((Ext.refl w).alloc (.cells #[.int .i64 p.flow, .slice a m c] 24))
    clear hp hr hi hw
    go_enter Tryz.func15, Tryz.ntmps15
    go_upto_region 1 with (fail)
    generalize w.alloc (.cells #[.int .i64 p.flow, .slice a m c] 24) = W1 at *
    have p0 := hb.cell 0 _ rfl
    have p1 := hb.cell 1 _ rfl
    clear hb
    go_wp2_with fail
    refine (idRight_any p W1 _ (HV.out.ext HE0.out)).mono ?_
    rw [HP.out]
    rintro e w2 ⟨rfl, hE2⟩
    have HE2 := Lib.hid (HE0.out.trans hE2)
    clear hE2
    go_wp2
    go_ret
    exact ⟨by rw [HX.out]; rfl, HE2.out⟩
theorem showP_len {p : Pth} (hl : p.steps.length ≤ 10000) : (showP p).length ≤ 1000000 := by
  cases hp : pthB p with
  | true =>
    have := pthS_len hp
    rw [showP_right hp]; omega
  | false => rw [showP_wrong hp]; simp
set_option maxHeartbeats 1000000 in
theorem idId_any (p : Pth) (hl : p.steps.length ≤ 10000) (w : World) (hw : KW w) (v : Value) (h : PthV w p v) :
    Calls Tryz.prog 62 #[v] w fun e w' => e = .returned (.string (str (idP p))) ∧ Ext w w' := by
  have HX := Lib.hid (show idP p = if (showP p).length ≤ 400 then showP p else [] from rfl)
  have hsz := str_size (showP p)
  have hln := showP_len hl
  have HW := Lib.hid hw
  obtain ⟨a, m, c, rfl, hr, hi⟩ := h
  have HV := Lib.hid (show PthV w p (.agg #[.int .i64 p.flow, .slice a m c]) from ⟨a, m, c, rfl, hr, hi⟩)
  have hb := BoxL.new w [.int .i64 p.flow, .slice a m c] 24
  have HE0 := Lib.hid ((Ext.refl w).alloc (.cells #[.int .i64 p.flow, .slice a m c] 24))
  clear hr hi hw
  go_enter Tryz.func62, Tryz.ntmps62
  go_upto_region 1 with (fail)
  generalize w.alloc (.cells #[.int .i64 p.flow, .slice a m c] 24) = W1 at *
  have p0 := hb.cell 0 _ rfl
  have p1 := hb.cell 1 _ rfl
  clear hb
  go_wp2_with fail
  refine (idShow_any p hl W1 (HW.out.ext HE0.out) _ (HV.out.ext HE0.out)).mono ?_
  rintro e w2 ⟨rfl, hE2⟩
  have HE2 := Lib.hid (HE0.out.trans hE2)
  clear hE2
  by_cases hc : (showP p).length ≤ 400
  · have hd : decide ((400 : Int) < ((showP p).length : Int)) = false := by simp; omega
    have HY := Lib.hid (show idP p = showP p by rw [HX.out, if_pos hc])
    clear hc
    go_wp2
    go_ret
    exact ⟨by rw [HY.out]; rfl, HE2.out⟩
  · have hd : decide ((400 : Int) < ((showP p).length : Int)) = true := by simp; omega
    have HY := Lib.hid (show idP p = [] by rw [HX.out, if_neg hc])
    clear hc
    go_wp2
    go_ret
    exact ⟨by rw [HY.out]; rfl, HE2.out⟩
end Go.Proofs.YtpcgpcjleedilaaGreatDoor

open Go.RowKit Go.Shelf
namespace Go.Proofs.YtpcgpcjleedilaaGreatDoor
open Go Go.Proofs Fm

theorem stpsCells_one (l : List Stp) : ∀ u ∈ stpsCells l, u.oneCell' = true := by
  intro u hu
  unfold stpsCells at hu
  obtain ⟨L, h1, h2⟩ := List.mem_flatten.1 hu
  obtain ⟨x, _, rfl⟩ := List.mem_map.1 h1
  simp only [stpCells, List.mem_cons, List.not_mem_nil, or_false] at h2
  rcases h2 with rfl | rfl <;> rfl
/-- The cells of a row of steps. -/
theorem stpRow_cells {w wr : World} {l : List Stp} {b off n cap : Nat} (h : stpE.Row w l (.slice (some ⟨b, off, none⟩) n cap)) (hE : Ext w wr) : ∀ j u, (stpsCells l)[j]? = some u → wr.cell? ((⟨b, off, none⟩ : Addr).add j) = some u := by
  intro j u hj
  have hlt : j < (stpsCells l).length := (List.getElem?_eq_some_iff.1 hj).1
  rw [stpsCells_len] at hlt
  obtain ⟨b', off', e, _, c0, c1, _⟩ := stp_at h hE (j / 2) (by omega)
  cases e
  have hd := stpsCells_at l (j / 2) (j % 2) (by omega) (by omega)
  rw [show j / 2 * 2 + j % 2 = j by omega, hj] at hd
  rw [Addr.add_lit]
  rcases Nat.mod_two_eq_zero_or_one j with h0 | h0
  · rw [h0] at hd
    simp [stpCells] at hd
    rw [hd, ← c0, show off + j / 2 * 2 = off + j by omega]
  · rw [h0] at hd
    simp [stpCells] at hd
    rw [hd, ← c1, show off + j / 2 * 2 + 1 = off + j by omega]
set_option maxHeartbeats 1000000 in
theorem cloneSt_any (l : List Stp) (hl : l.length ≤ 1000000) (w : World) (v : Value) (h : stpE.Row w l v) :
    Calls Tryz.prog 79 #[v] w fun e w' => ∃ v', e = .returned v' ∧ OwnSt 27 w.heap.size w' v' l ∧ Ext w w' := by
  obtain ⟨i0, hi, hz0, hz1, hz2⟩ := info_parts info_step
  have hq := fun a n c => Lib.run_eql_slice_nil (P := Tryz.prog) w 22 27 a n c 0 0 Tryz.underlying22
  obtain ⟨a, c, rfl, hc1, hc2⟩ := h.slice
  have HWF := Lib.hid (stpRow_wf h)
  cases a with
  | none =>
    have h0 : l = [] := by
      cases l with
      | nil => rfl
      | cons x l =>
        obtain ⟨b, off, e, _⟩ := stp_at h (Ext.refl w) 0 (by simp)
        cases e
    subst h0
    clear h
    go_enter Tryz.func79, Tryz.ntmps79
    go_wp2
    go_ret
    exact ⟨_, rfl, OwnSt.nil _ _ _, Ext.refl _⟩
  | some ad =>
    obtain ⟨b, off, ae⟩ := ad
    have hae : l ≠ [] → ae = none := fun hne => by
      obtain ⟨b', off', e, _⟩ := stp_at h (Ext.refl w) 0 (List.length_pos_iff.2 hne)
      cases e; rfl
    have HC : Hid (∀ j u, (stpsCells l)[j]? = some u → (w.alloc (.cells #[] 27)).cell? ((⟨b, off, ae⟩ : Addr).add j) = some u) := Lib.hid (fun j u hj => by
      have hne : l ≠ [] := by rintro rfl; simp [stpsCells] at hj
      obtain rfl := hae hne
      exact stpRow_cells h ((Ext.refl w).alloc _) j u hj)
    have HO := Lib.hid (World.ownsRow_made w #[] 0 (base := w.heap.size) (e := 27) (size := 2) (Nat.le_refl _) (by simp) rfl)
    have hcl := stpsCells_len l
    clear h hae
    go_enter Tryz.func79, Tryz.ntmps79
    go_wp2_with (at_builtin; refine wpList_append_own _ rfl _ _ 22 rfl w.heap.size 27 i0 (.agg #[.string { data := #[] }, .int .i64 0]) 2 24 Tryz.underlying22 hi hz0 hz1 hz2 rfl (by decide) _ _ _ rfl HO.out ⟨b, off, ae⟩ l.length c (stpsCells l) rfl hcl HC.out (stpsCells_one l) ?c1 ?c2 ?c3 ?_)
    case c1 => unfold maxLen; omega
    case c2 => omega
    case c3 => simp
    intro v' w1 hown' hgrow _
    have hE : Ext w w1 := ((Ext.refl w).alloc _).grown hgrow (fun k e => by simp [Value.ownBlock] at e; omega)
    clear hi hz0 hz1 hz2
    go_wp2
    go_ret
    exact ⟨v', rfl, ⟨hown', HWF.out⟩, hE⟩
/-- All but the last one. -/
theorem _root_.Fm.OwnSt.front {e : TypeId} {base : Nat} {w : World} {g n cap : Nat} {l : List Stp} {x : Stp} (h : OwnSt e base w (.slice (some ⟨g, 0, none⟩) n cap) (l ++ [x])) : OwnSt e base w (.slice (some ⟨g, 0, none⟩) l.length cap) l := by
  obtain ⟨⟨h1, h2⟩, h3⟩ := h
  refine ⟨⟨stpsCells_len l, ?_⟩, fun y hy => h3 y (List.mem_append_left _ hy)⟩
  rcases h2 with ⟨e, _⟩ | ⟨g', cap', cur, e, hb, hg, k1, k2, k3, k4⟩
  · cases e
  · cases e
    refine .inr ⟨g, cap, cur, rfl, hb, hg, ?_, k2, k3, ?_⟩
    · simp at k1; omega
    · have : stpsCells l = (stpsCells (l ++ [x])).take (l.length * 2) := by
        rw [stpsCells_snoc, List.take_left' (stpsCells_len l)]
      rw [this, ← k4, List.take_take, Nat.min_eq_left (by simp; omega)]
theorem _root_.Fm.OwnSt.len {e : TypeId} {base : Nat} {w : World} {a : Option Addr} {n cap : Nat} {l : List Stp} (h : OwnSt e base w (.slice a n cap) l) : n = l.length := by
  obtain ⟨a', c', e⟩ := h.slice
  cases e; rfl
/-- The last one's place is written. -/
theorem _root_.Fm.OwnSt.setLast {e : TypeId} {base : Nat} {w : World} {g cap : Nat} {l : List Stp} {x : Stp} (h : OwnSt e base w (.slice (some ⟨g, 0, none⟩) (l.length + 1) cap) (l ++ [x])) (k : Int) (hk : isI64 k) :
    w.cell? ⟨g, l.length * 2 + 1, none⟩ = some (.int .i64 x.place) ∧ w.frozen? ⟨g, l.length * 2 + 1, none⟩ = false ∧ OwnSt e base (w.setCell ⟨g, l.length * 2 + 1, none⟩ (.int .i64 k)) (.slice (some ⟨g, 0, none⟩) (l.length + 1) cap) (l ++ [⟨x.name, k⟩]) := by
  have h1 : w.ownsRow base e 2 (.slice (some ⟨g, 0, none⟩) (l.length + 1) cap) (l.length + 1) (stpsCells (l ++ [x])) := by have := h.1; rwa [List.length_append, List.length_singleton] at this
  have hx := h.2 x (by simp)
  have hc := h1.cellAt (l.length * 2 + 1) (by omega)
  have hj : (stpsCells (l ++ [x]))[l.length * 2 + 1]? = some (.int .i64 x.place) := by
    rw [stpsCells_at (l ++ [x]) l.length 1 (by simp) (by omega)]
    simp [stpCells]
  rw [hj] at hc
  refine ⟨hc, h1.frozenAt _, ⟨?_, fun y hy => ?_⟩⟩
  · have hs := (h1.stored (l.length * 2 + 1) (.int .i64 k)).1
    have e : (stpsCells (l ++ [x])).set (l.length * 2 + 1) (.int .i64 k) = stpsCells (l ++ [⟨x.name, k⟩]) := by
      rw [stpsCells_snoc, stpsCells_snoc, List.set_append_right _ _ (by rw [stpsCells_len]; omega), stpsCells_len, show l.length * 2 + 1 - l.length * 2 = 1 by omega]
      rfl
    rw [e] at hs
    rw [List.length_append, List.length_singleton]
    exact hs
  · rcases List.mem_append.1 hy with hy | hy
    · exact h.2 y (List.mem_append_left _ hy)
    · rw [List.mem_singleton] at hy
      subst hy
      exact ⟨hx.1, hk⟩
end Go.Proofs.YtpcgpcjleedilaaGreatDoor

open Go.RowKit Go.Shelf
namespace Go.Proofs.YtpcgpcjleedilaaGreatDoor
open Go Go.Proofs Fm

/-- What up hands back. -/
def UpPost (p : Pth) (v : Value) (w : World) (e : Ending) (w' : World) : Prop :=
  ∃ v', e = .returned (.tuple #[v', .bool (upP p).isSome]) ∧ Ext w w' ∧ (upP p = none → v' = v) ∧ ∀ q, upP p = some q → PthOwn 27 w.heap.size w' q v'
theorem up_end {p q : Pth} {v : Value} {w w' : World} {a : Option Addr} {m c : Nat} {base : Nat} (hu : upP p = some q) (hE : Ext w w') (hO : OwnSt 27 base w' (.slice a m c) q.steps) (hb : w.heap.size ≤ base) (hf : isI64 q.flow) :
    UpPost p v w (.returned (.tuple #[.agg #[.int .i64 q.flow, .slice a m c], .bool true])) w' :=
  ⟨_, by rw [hu]; rfl, hE, (fun h => by rw [hu] at h; cases h), fun q' h => by rw [hu] at h; injection h with h; subst h; exact ⟨a, m, c, rfl, hO.mono hb, hf⟩⟩
set_option maxRecDepth 100000 in
set_option maxHeartbeats 2000000 in
theorem idUp_any (p : Pth) (hl : p.steps.length ≤ 1000000) (w : World) (v : Value) (h : PthV w p v) :
    Calls Tryz.prog 52 #[v] w (UpPost p v w) := by
  obtain ⟨a, m, c, rfl, hr, hi⟩ := h
  obtain ⟨a', c', e, hc1, hc2⟩ := hr.slice
  injection e with e1 e2 e3
  subst e1 e2 e3
  have hb1 := BoxL.new w [.int .i64 p.flow, .slice a p.steps.length c] 24
  have hb2 := BoxL.new (w.alloc (.cells #[.int .i64 p.flow, .slice a p.steps.length c] 24)) [.int .i64 0, .slice none 0 0] 24
  have hE0 : Ext w ((w.alloc (.cells #[.int .i64 p.flow, .slice a p.steps.length c] 24)).alloc (.cells #[.int .i64 0, .slice none 0 0] 24)) := ((Ext.refl w).alloc _).alloc _
  have hb1 := hb1.ext ((Ext.refl (w.alloc (.cells #[.int .i64 p.flow, .slice a p.steps.length c] 24))).alloc (.cells #[.int .i64 0, .slice none 0 0] 24))
  rw [show (w.alloc (.cells #[.int .i64 p.flow, .slice a p.steps.length c] 24)).heap.size = w.heap.size + 1 by simp] at hb2
  have HR := Lib.hid hr
  have HI := Lib.hid hi
  clear hr hi
  go_enter Tryz.func52, Tryz.ntmps52
  go_upto_region 1 with (fail)
  generalize (w.alloc (.cells #[.int .i64 p.flow, .slice a p.steps.length c] 24)).alloc (.cells #[.int .i64 0, .slice none 0 0] 24) = W1 at *
  have p0 := hb1.cell 0 _ rfl
  have p1 := hb1.cell 1 _ rfl
  have p2 := hb1.free 1
  have hz1 := hb2.lt
  have HE0 := Lib.hid hE0
  have HB1 := Lib.hid hb1
  have HB2 := Lib.hid hb2
  clear hE0 hb1 hb2
  rcases snoc_cases p.steps with hs | ⟨l, x, hs⟩
  · have HU := Lib.hid (upP_nil hs)
    have HL := Lib.hid (show p.steps.length = 0 by rw [hs]; rfl)
    rw [hs] at p1 hc1 hl
    have r0 := HB2.out.cell 0 _ rfl
    have r1 := HB2.out.cell 1 _ rfl
    have r2 := HB2.out.free 0
    have r3 := HB2.out.free 1
    rw [hs]
    clear hs
    have hs2 := set2_facts (x := .int .i64 p.flow) (y := .slice a ([] : List Stp).length c) HE0.out HB2.out (by omega)
    have c0 := hs2.2.cell 0 _ rfl
    have c1 := hs2.2.cell 1 _ rfl
    have HZ := Lib.hid (show UpPost p (.agg #[.int .i64 p.flow, .slice a p.steps.length c]) w (.returned (.tuple #[.agg #[.int .i64 p.flow, .slice a 0 c], .bool false])) _ from ⟨_, by rw [HU.out]; rfl, hs2.1, fun _ => by rw [HL.out], fun q h => by rw [HU.out] at h; cases h⟩)
    clear hs2
    simp only [List.length_nil] at p1 c0 c1 HZ
    go_wp2
    change bodyPost _ _ _ _ _ (set2W W1 (w.heap.size + 1) (.int .i64 p.flow) (.slice a 0 c))
    generalize set2W W1 (w.heap.size + 1) (.int .i64 p.flow) (.slice a 0 c) = Wn at *
    exact bodyPost_ret (v := .tuple #[.agg #[.int .i64 p.flow, .slice a 0 c], .bool false]) (by simp [results, Tryz.results52, go_sem, c0, c1]) rfl HZ.out
  · have hsl : p.steps.length = l.length + 1 := by rw [hs]; simp
    rw [hsl] at p1 hc1 hl HR HB1
    rw [hsl]
    have HS := Lib.hid hs
    clear hs hsl
    go_wp2_with fail
    refine (cloneSt_any p.steps (by rw [HS.out]; simp; omega) W1 _ (HR.out.ext HE0.out)).mono ?_
    rintro e w2 ⟨v', rfl, hO, hE2⟩
    rw [HS.out] at hO
    obtain ⟨g, cap, rfl⟩ := ownsRow_succ (show w2.ownsRow W1.heap.size 27 2 v' (l.length + 1) (stpsCells (l ++ [x])) by have := hO.1; rwa [List.length_append, List.length_singleton] at this)
    have hg := (hO.lt g rfl)
    obtain ⟨hcap, hcap2⟩ : l.length + 1 ≤ cap ∧ cap ≤ 9223372036854775807 := by
      rcases hO.1.2 with ⟨e, _⟩ | ⟨g', cap', cur, e, _, _, h1, h2, _⟩
      · cases e
      · injection e with e1 e2 e3
        subst e3
        rw [List.length_append, List.length_singleton] at h1
        unfold maxLen at h2
        exact ⟨h1, by omega⟩
    have HB1' := Lib.hid (show BoxL w2 w.heap.size [.int .i64 p.flow, .slice a (l.length + 1) c] from HB1.out.ext hE2)
    have HB2' := Lib.hid (HB2.out.ext hE2)
    have HE2 := Lib.hid (HE0.out.trans hE2)
    have p0 := HB1'.out.cell 0 _ rfl
    have p1 := HB1'.out.cell 1 _ rfl
    have p2 := HB1'.out.free 1
    have hB3 := HB1'.out.set 1 (by simp) (.slice (some ⟨g, 0, none⟩) (l.length + 1) cap)
    have hgs := grown_set w2 w.heap.size 1 (.slice (some ⟨g, 0, none⟩) (l.length + 1) cap)
    have hR3 := HB2'.out.kept hgs (by simp)
    have hE3 := HE2.out.setCell (p := ⟨w.heap.size, 1, none⟩) (Nat.le_refl _) (.slice (some ⟨g, 0, none⟩) (l.length + 1) cap)
    have hO3 := hO.kept hgs (fun b e => by injection e with e; omega)
    clear HB1 HB1' HB2 HB2' HE2 HE0 hO hE2 hgs HR
    go_upto_region 5 with (fail)
    generalize w2.setCell ⟨w.heap.size, 1, none⟩ (.slice (some ⟨g, 0, none⟩) (l.length + 1) cap) = W3 at *
    clear p0 p1 p2
    have p0 := hB3.cell 0 _ rfl
    have p1 := hB3.cell 1 _ rfl
    have p2 := hB3.free 1
    obtain ⟨x0, x1, hO4⟩ := hO3.setLast (-1) (by unfold isI64; omega)
    have HB3 := Lib.hid hB3
    have HR3 := Lib.hid hR3
    have HE3 := Lib.hid hE3
    have HO3 := Lib.hid hO3
    clear hB3 hR3 hE3 hO3
    by_cases hp : x.place = -1
    · have HU := Lib.hid (show upP p = some ⟨p.flow, l⟩ by rw [upP_snoc HS.out]; simp [upS, hp])
      have ht : (x.place != -1) = false := by simp [hp]
      clear hO4 hp
      have HB4 := Lib.hid (HB3.out.set 1 (by simp) (.slice (some ⟨g, 0, none⟩) l.length cap))
      have hgs := grown_set W3 w.heap.size 1 (.slice (some ⟨g, 0, none⟩) l.length cap)
      have HR4 := Lib.hid (HR3.out.kept hgs (by simp))
      have HO4 := Lib.hid (HO3.out.front.kept hgs (fun b e => by injection e with e; omega))
      have HE4 := Lib.hid (HE3.out.setCell (p := ⟨w.heap.size, 1, none⟩) (Nat.le_refl _) (.slice (some ⟨g, 0, none⟩) l.length cap))
      clear hgs HB3 HR3 HO3 HE3
      go_upto_region 8 with (fail)
      generalize W3.setCell ⟨w.heap.size, 1, none⟩ (.slice (some ⟨g, 0, none⟩) l.length cap) = W4 at *
      clear p0 p1 p2 x0 x1 ht
      have p0 := HB4.out.cell 0 _ rfl
      have p1 := HB4.out.cell 1 _ rfl
      have r0 := HR4.out.cell 0 _ rfl
      have r1 := HR4.out.cell 1 _ rfl
      have r2 := HR4.out.free 0
      have r3 := HR4.out.free 1
      have hs2 := set2_facts (x := .int .i64 p.flow) (y := .slice (some ⟨g, 0, none⟩) l.length cap) HE4.out HR4.out (by omega)
      have c0 := hs2.2.cell 0 _ rfl
      have c1 := hs2.2.cell 1 _ rfl
      have hO5 := (HO4.out.kept (grown_set W4 (w.heap.size + 1) 0 (.int .i64 p.flow)) (fun b e => by injection e with e; omega)).kept (grown_set _ (w.heap.size + 1) 1 (.slice (some ⟨g, 0, none⟩) l.length cap)) (fun b e => by injection e with e; omega)
      have HZ := Lib.hid (up_end (v := .agg #[.int .i64 p.flow, .slice a p.steps.length c]) HU.out hs2.1 hO5 (by omega) HI.out)
      clear hs2 hO5 HB4 HR4 HO4 HE4
      go_wp2
      change bodyPost _ _ _ _ _ (set2W W4 (w.heap.size + 1) (.int .i64 p.flow) (.slice (some ⟨g, 0, none⟩) l.length cap))
      change Hid (UpPost _ _ _ _ (set2W W4 (w.heap.size + 1) (.int .i64 p.flow) (.slice (some ⟨g, 0, none⟩) l.length cap))) at HZ
      generalize set2W W4 (w.heap.size + 1) (.int .i64 p.flow) (.slice (some ⟨g, 0, none⟩) l.length cap) = Wn at *
      exact bodyPost_ret (v := .tuple #[.agg #[.int .i64 p.flow, .slice (some ⟨g, 0, none⟩) l.length cap], .bool true]) (by simp [results, Tryz.results52, go_sem, c0, c1]) rfl HZ.out
    · have HU := Lib.hid (show upP p = some ⟨p.flow, l ++ [⟨x.name, -1⟩]⟩ by rw [upP_snoc HS.out]; simp [upS, hp])
      have ht : (x.place != -1) = true := by simp [hp]
      clear hp
      have hgs := grown_set W3 g (l.length * 2 + 1) (.int .i64 (-1))
      have HB4 := Lib.hid (HB3.out.kept hgs (fun e => by injection e; omega))
      have HR4 := Lib.hid (HR3.out.kept hgs (fun e => by injection e; omega))
      have HO4 := Lib.hid hO4
      have HE4 := Lib.hid (HE3.out.setCell (p := ⟨g, l.length * 2 + 1, none⟩) (by show w.heap.size ≤ g; omega) (.int .i64 (-1)))
      clear hgs HB3 HR3 HO3 HE3 hO4
      go_upto_region 8 with (fail)
      generalize W3.setCell ⟨g, l.length * 2 + 1, none⟩ (.int .i64 (-1)) = W4 at *
      clear p0 p1 p2 x0 x1 ht
      have p0 := HB4.out.cell 0 _ rfl
      have p1 := HB4.out.cell 1 _ rfl
      have r0 := HR4.out.cell 0 _ rfl
      have r1 := HR4.out.cell 1 _ rfl
      have r2 := HR4.out.free 0
      have r3 := HR4.out.free 1
      have hs2 := set2_facts (x := .int .i64 p.flow) (y := .slice (some ⟨g, 0, none⟩) (l.length + 1) cap) HE4.out HR4.out (by omega)
      have c0 := hs2.2.cell 0 _ rfl
      have c1 := hs2.2.cell 1 _ rfl
      have hO5 := (HO4.out.kept (grown_set W4 (w.heap.size + 1) 0 (.int .i64 p.flow)) (fun b e => by injection e with e; omega)).kept (grown_set _ (w.heap.size + 1) 1 (.slice (some ⟨g, 0, none⟩) (l.length + 1) cap)) (fun b e => by injection e with e; omega)
      have HZ := Lib.hid (up_end (v := .agg #[.int .i64 p.flow, .slice a p.steps.length c]) HU.out hs2.1 hO5 (by omega) HI.out)
      clear hs2 hO5 HB4 HR4 HO4 HE4
      go_wp2
      change bodyPost _ _ _ _ _ (set2W W4 (w.heap.size + 1) (.int .i64 p.flow) (.slice (some ⟨g, 0, none⟩) (l.length + 1) cap))
      change Hid (UpPost _ _ _ _ (set2W W4 (w.heap.size + 1) (.int .i64 p.flow) (.slice (some ⟨g, 0, none⟩) (l.length + 1) cap))) at HZ
      generalize set2W W4 (w.heap.size + 1) (.int .i64 p.flow) (.slice (some ⟨g, 0, none⟩) (l.length + 1) cap) = Wn at *
      exact bodyPost_ret (v := .tuple #[.agg #[.int .i64 p.flow, .slice (some ⟨g, 0, none⟩) (l.length + 1) cap], .bool true]) (by simp [results, Tryz.results52, go_sem, c0, c1]) rfl HZ.out
end Go.Proofs.YtpcgpcjleedilaaGreatDoor

open Go.RowKit Go.Shelf
namespace Go.Proofs.YtpcgpcjleedilaaGreatDoor
open Go Go.Proofs Fm

theorem parse_steps {s : List UInt8} {p : Pth} (h : parseP s = some p) : p.steps.length ≤ 400 := by
  have h1 := deepP_le h
  have h2 : p.steps.length ≤ deepP p := by
    unfold deepP
    generalize p.steps = l
    induction l with
    | nil => simp
    | cons x l ih =>
      have : 1 ≤ stpW x := by unfold stpW; split <;> omega
      simp only [List.map_cons, List.sum_cons, List.length_cons]
      omega
  omega
theorem ownSt_bounds {e : TypeId} {base : Nat} {w : World} {a : Option Addr} {m c : Nat} {l : List Stp} (h : OwnSt e base w (.slice a m c) l) : m = l.length ∧ l.length ≤ c ∧ c ≤ 9223372036854775807 := by
  obtain ⟨a', c', e1, h1, h2⟩ := h.row.slice
  cases e1
  exact ⟨rfl, h1, h2⟩
theorem elem_step : ElemOf Tryz.prog 22 27 (.agg #[.string { data := #[] }, .int .i64 0]) 2 24 := ⟨Tryz.underlying22, info_step, rfl, by decide⟩
set_option maxRecDepth 100000 in
set_option maxHeartbeats 2000000 in
theorem idChild_any (s n : List UInt8) (hs : s.length ≤ 1000000) (hn : n.length ≤ 1000000) (w : World) (hw : KW w) :
    Calls Tryz.prog 18 #[.string (str s), .string (str n)] w fun e w' => e = .returned (.string (str (childS s n))) ∧ Ext w w' := by
  have HW := Lib.hid hw
  have HC := Lib.hid (idParse_any s hs w hw)
  clear hw
  go_enter Tryz.func18, Tryz.ntmps18
  go_wp2_with fail
  refine HC.out.mono ?_
  rintro e w1 ⟨v, rfl, hE1, hN, hS⟩
  cases hp : parseP s with
  | none =>
    have HX := Lib.hid (show childS s n = [] by unfold childS; rw [hp])
    obtain rfl := hN hp
    have HE1 := Lib.hid (hE1.alloc (.cells #[.int .i64 0, .slice none 0 0] 24))
    clear hN hS hp hE1
    go_wp2
    go_ret
    exact ⟨by rw [HX.out]; rfl, HE1.out⟩
  | some p =>
    have HX := Lib.hid (show childS s n = idP ⟨p.flow, p.steps ++ [⟨n, -1⟩]⟩ by unfold childS; rw [hp])
    obtain ⟨a, m, c, rfl, hO, hfl⟩ := hS p hp
    have hlen := parse_steps hp
    obtain ⟨rfl, hb1, hb2⟩ := ownSt_bounds hO
    have hlt := hO.lt
    have hb := BoxL.new w1 [.int .i64 p.flow, .slice a p.steps.length c] 24
    have hE2 := hE1.alloc (.cells #[.int .i64 p.flow, .slice a p.steps.length c] 24)
    have hO2 := hO.ext ((Ext.refl w1).alloc (.cells #[.int .i64 p.flow, .slice a p.steps.length c] 24))
    have HF := Lib.hid hfl
    have hzw := hE1.size
    clear hN hS hp hE1 hO hfl
    go_upto_region 2 with (fail)
    generalize w1.alloc (.cells #[.int .i64 p.flow, .slice a p.steps.length c] 24) = W2 at *
    have hz2' := hb.lt
    have hEn := (Ext.refl W2).alloc (.cells #[.string (str n), .int .i64 (-1)] 27)
    have HB := Lib.hid (hb.ext hEn)
    have HE := Lib.hid (hE2.trans hEn)
    have HO := Lib.hid (hO2.ext hEn)
    have hnb := BoxL.new W2 [.string (str n), .int .i64 (-1)] 27
    have HNB := Lib.hid (box_add hnb)
    have HLT := Lib.hid hlt
    have p0 := hb.cell 0 _ rfl
    have p1 := hb.cell 1 _ rfl
    have p2 := hb.free 1
    clear hb hE2 hO2 hEn hnb hlt
    have HZ : Hid (w.heap.size ≤ (W2.alloc (.cells #[.string (str n), .int .i64 (-1)] 27)).heap.size) := Lib.hid HE.out.size
    go_wp2_with (at_builtin; refine wpList_appAt _ elem_step rfl _ _ 22 rfl w.heap.size _ p.steps.length (stpsCells p.steps) rfl HO.out.1 _ 1 (stpCells ⟨n, -1⟩) rfl (Src.ofSlice _ Tryz.underlying22 ⟨W2.heap.size, 0, none⟩ 1 1 (stpCells ⟨n, -1⟩) rfl HNB.out (by simp [stpCells, Value.oneCell'])) ?c1 ?c2 HZ.out ?_)
    case c1 => unfold maxLen; omega
    case c2 => omega
    intro v' w5 hown' hgrow hat
    obtain ⟨g', cap', rfl⟩ := ownsRow_succ hown'
    have hrow : ∀ b, (Value.slice a p.steps.length c).ownBlock = some b → w.heap.size ≤ b ∧ b < w1.heap.size := HLT.out
    have hg' : g' ≠ w1.heap.size := by
      rcases hat with h | h
      · have := hrow g' h.symm; omega
      · have : g' = W2.heap.size + 1 := by simpa [Value.ownBlock] using h
        omega
    have HB5 := Lib.hid (HB.out.kept hgrow (fun e => by have := (hrow _ e).2; omega))
    have HE5 := Lib.hid (HE.out.grown hgrow (fun k e => (hrow _ e).1))
    have HO5 := Lib.hid (OwnSt.snoc hown' HO.out.2 (x := ⟨n, -1⟩) ⟨by show n.length ≤ _; omega, by show isI64 (-1); unfold isI64; omega⟩)
    have q0 := HB5.out.cell 0 _ rfl
    have q1 := HB5.out.cell 1 _ rfl
    have q2 := HB5.out.free 1
    have hgs := grown_set w5 w1.heap.size 1 (.slice (some ⟨g', 0, none⟩) (p.steps.length + 1) cap')
    have HB6 := Lib.hid (HB5.out.set 1 (by simp) (.slice (some ⟨g', 0, none⟩) (p.steps.length + 1) cap'))
    have HE6 := Lib.hid (HE5.out.setCell (p := ⟨w1.heap.size, 1, none⟩) (by show w.heap.size ≤ w1.heap.size; omega) (.slice (some ⟨g', 0, none⟩) (p.steps.length + 1) cap'))
    have hO6 := (show OwnSt 27 w.heap.size (w5.setCell ⟨w1.heap.size, 1, none⟩ (.slice (some ⟨g', 0, none⟩) (p.steps.length + 1) cap')) (.slice (some ⟨g', 0, none⟩) (p.steps.length + 1) cap') (p.steps ++ [⟨n, -1⟩]) from
      ⟨World.ownsRow.kept HO5.out.1 hgs (.inr (fun e => by injection e with e; exact hg' e)), HO5.out.2⟩)
    have HV := Lib.hid (show PthV (w5.setCell ⟨w1.heap.size, 1, none⟩ (.slice (some ⟨g', 0, none⟩) (p.steps.length + 1) cap')) ⟨p.flow, p.steps ++ [⟨n, -1⟩]⟩ (.agg #[.int .i64 p.flow, .slice (some ⟨g', 0, none⟩) (p.steps.length + 1) cap']) from ⟨_, _, _, rfl, hO6.row, HF.out⟩)
    clear p0 p1 p2 hown' hgrow hat hrow hgs hO6 HO5 HB5 HE5 HB HE HO HNB HLT HZ
    go_upto_region 5 with (fail)
    generalize w5.setCell ⟨w1.heap.size, 1, none⟩ (.slice (some ⟨g', 0, none⟩) (p.steps.length + 1) cap') = W6 at *
    clear q0 q1 q2
    have q0 := HB6.out.cell 0 _ rfl
    have q1 := HB6.out.cell 1 _ rfl
    go_wp2_with fail
    refine (idId_any ⟨p.flow, p.steps ++ [⟨n, -1⟩]⟩ (by simp; omega) _ (HW.out.ext HE6.out) _ HV.out).mono ?_
    rintro e w7 ⟨rfl, hE7⟩
    have HE7 := Lib.hid (HE6.out.trans hE7)
    clear hE7
    go_wp2
    go_ret
    exact ⟨by rw [HX.out]; rfl, HE7.out⟩
set_option maxRecDepth 100000 in
set_option maxHeartbeats 2000000 in
theorem idEach_any (s : List UInt8) (k : Int) (hk : isI64 k) (hs : s.length ≤ 1000000) (w : World) (hw : KW w) :
    Calls Tryz.prog 20 #[.string (str s), .int .i64 k] w fun e w' => e = .returned (.string (str (eachS s k))) ∧ Ext w w' := by
  have HW := Lib.hid hw
  have HC := Lib.hid (idParse_any s hs w hw)
  have HK := Lib.hid hk
  clear hw hk
  go_enter Tryz.func20, Tryz.ntmps20
  go_wp2_with fail
  refine HC.out.mono ?_
  rintro e w1 ⟨v, rfl, hE1, hN, hS⟩
  cases hp : parseP s with
  | none =>
    have HX := Lib.hid (show eachS s k = [] by unfold eachS; rw [hp])
    obtain rfl := hN hp
    have HE1 := Lib.hid (hE1.alloc (.cells #[.int .i64 0, .slice none 0 0] 24))
    have hb := BoxL.new w1 [.int .i64 0, .slice none 0 0] 24
    clear hN hS hp hE1
    go_upto_region 2 with (fail)
    generalize w1.alloc (.cells #[.int .i64 0, .slice none 0 0] 24) = W2 at *
    have p0 := hb.cell 0 _ rfl
    have p1 := hb.cell 1 _ rfl
    clear hb
    go_wp2
    go_ret
    exact ⟨by rw [HX.out]; rfl, HE1.out⟩
  | some p =>
    have HX := Lib.hid (show eachS s k = match p.steps.getLast? with
      | none => []
      | some x => if x.place = -1 ∧ k ≠ -1 then idP ⟨p.flow, p.steps.dropLast ++ [⟨x.name, k⟩]⟩ else [] by unfold eachS; rw [hp]; rfl)
    obtain ⟨a, m, c, rfl, hO, hfl⟩ := hS p hp
    have hlen := parse_steps hp
    obtain ⟨rfl, hb1, hb2⟩ := ownSt_bounds hO
    have hb := BoxL.new w1 [.int .i64 p.flow, .slice a p.steps.length c] 24
    have hE2 := hE1.alloc (.cells #[.int .i64 p.flow, .slice a p.steps.length c] 24)
    have hO2 := hO.ext ((Ext.refl w1).alloc (.cells #[.int .i64 p.flow, .slice a p.steps.length c] 24))
    have HF := Lib.hid hfl
    have HLT := Lib.hid hO.lt
    have hzw := hE1.size
    clear hN hS hp hE1 hO hfl
    go_upto_region 2 with (fail)
    generalize w1.alloc (.cells #[.int .i64 p.flow, .slice a p.steps.length c] 24) = W2 at *
    have p0 := hb.cell 0 _ rfl
    have p1 := hb.cell 1 _ rfl
    have HB := Lib.hid hb
    have HE := Lib.hid hE2
    have HO := Lib.hid hO2
    clear hb hE2 hO2
    rcases snoc_cases p.steps with hst | ⟨l, x, hst⟩
    · have HY := Lib.hid (show eachS s k = [] by rw [HX.out, hst]; rfl)
      have h0 : p.steps.length = 0 := by rw [hst]; rfl
      rw [h0] at p1 hb1
      clear HX hst h0 HO HB HLT
      go_wp2
      go_ret
      exact ⟨by rw [HY.out]; rfl, HE.out⟩
    · have h1 : p.steps.length = l.length + 1 := by rw [hst]; simp
      have HXs := Lib.hid (show eachS s k = if x.place = -1 ∧ k ≠ -1 then idP ⟨p.flow, l ++ [⟨x.name, k⟩]⟩ else [] by rw [HX.out, hst]; simp)
      have hO := HO.out
      rw [h1, hst] at hO
      rw [h1] at p1 hb1 HB HLT hlen
      clear HX h1 hst HO
      obtain ⟨g, cap, he⟩ := ownsRow_succ (show W2.ownsRow w.heap.size 27 2 (.slice a (l.length + 1) c) (l.length + 1) (stpsCells (l ++ [x])) by have := hO.1; rwa [List.length_append, List.length_singleton] at this)
      injection he with e1 e2 e3
      subst e1 e3
      obtain ⟨x0, x1, hO4⟩ := hO.setLast k HK.out
      have hg := HLT.out g rfl
      by_cases hpl : x.place = -1
      · have ht : (x.place != -1) = false := by simp [hpl]
        by_cases hkk : k = -1
        · have HY := Lib.hid (show eachS s k = [] by rw [HXs.out, if_neg (by simp [hkk])])
          have hu : (k == -1) = true := by simp [hkk]
          clear hpl hkk HXs hO4 hO
          go_wp2
          go_ret
          exact ⟨by rw [HY.out]; rfl, HE.out⟩
        · have HY := Lib.hid (show eachS s k = idP ⟨p.flow, l ++ [⟨x.name, k⟩]⟩ by rw [HXs.out, if_pos ⟨hpl, hkk⟩])
          have hu : (k == -1) = false := by simp [hkk]
          have HV := Lib.hid (show PthV (W2.setCell ⟨g, l.length * 2 + 1, none⟩ (.int .i64 k)) ⟨p.flow, l ++ [⟨x.name, k⟩]⟩ (.agg #[.int .i64 p.flow, .slice (some ⟨g, 0, none⟩) (l.length + 1) c]) from ⟨_, _, _, rfl, hO4.row, HF.out⟩)
          have HB6 := Lib.hid (HB.out.kept (grown_set W2 g (l.length * 2 + 1) (.int .i64 k)) (fun e => by injection e; omega))
          have HE6 := Lib.hid (HE.out.setCell (p := ⟨g, l.length * 2 + 1, none⟩) hg.1 (.int .i64 k))
          clear hpl hkk HXs hO4 hO
          go_upto_region 6 with (fail)
          generalize W2.setCell ⟨g, l.length * 2 + 1, none⟩ (.int .i64 k) = W6 at *
          clear p0 p1 x0 x1
          have p0 := HB6.out.cell 0 _ rfl
          have p1 := HB6.out.cell 1 _ rfl
          go_wp2_with fail
          refine (idId_any ⟨p.flow, l ++ [⟨x.name, k⟩]⟩ (by simp; omega) _ (HW.out.ext HE6.out) _ HV.out).mono ?_
          rintro e w7 ⟨rfl, hE7⟩
          have HE7 := Lib.hid (HE6.out.trans hE7)
          clear hE7
          go_wp2
          go_ret
          exact ⟨by rw [HY.out]; rfl, HE7.out⟩
      · have HY := Lib.hid (show eachS s k = [] by rw [HXs.out, if_neg (by simp [hpl])])
        have ht : (x.place != -1) = true := by simp [hpl]
        clear hpl HXs hO4 hO
        go_wp2
        go_ret
        exact ⟨by rw [HY.out]; rfl, HE.out⟩
end Go.Proofs.YtpcgpcjleedilaaGreatDoor

open Go.RowKit Go.Shelf
namespace Go.Proofs.YtpcgpcjleedilaaGreatDoor
open Go Go.Proofs Fm

/-- The path as Parse hands it back: of what is none, the one without steps. -/
def pthOr (s : List UInt8) : Pth := (parseP s).getD ⟨0, []⟩
/-- Its value: in memory of one's own. -/
theorem PathPost.path {s : List UInt8} {w : World} {e : Ending} {w' : World} (h : PathPost s w e w') :
    ∃ v, e = .returned (.tuple #[v, .bool (parseP s).isSome]) ∧ Ext w w' ∧ PthOwn 27 w.heap.size w' (pthOr s) v := by
  obtain ⟨v, h1, h2, h3, h4⟩ := h
  refine ⟨v, h1, h2, ?_⟩
  unfold pthOr
  cases hp : parseP s with
  | none =>
    rw [h3 hp]
    exact ⟨none, 0, 0, rfl, OwnSt.nil _ _ _, by show isI64 0; unfold isI64; omega⟩
  | some p => exact h4 p hp
theorem pthOr_len (s : List UInt8) : (pthOr s).steps.length ≤ 400 := by
  unfold pthOr
  cases hp : parseP s with
  | none => simp
  | some p => exact parse_steps hp
theorem ownerS_or (s : List UInt8) : ownerS s = if (parseP s).isSome then (upP (pthOr s)).map showP else none := by
  unfold ownerS pthOr
  cases parseP s <;> rfl
theorem PthOwn.kept {e : TypeId} {base : Nat} {w w' : World} {p : Pth} {v : Value} {row : Option Nat} (h : PthOwn e base w p v) (hg : w.grownBy w' row) (hr : ∀ b, row = some b → b < base) : PthOwn e base w' p v := by
  obtain ⟨a, m, c, h1, h2, h3⟩ := h
  exact ⟨a, m, c, h1, h2.kept hg hr, h3⟩
theorem PthOwn.mono {e : TypeId} {base base' : Nat} {w : World} {p : Pth} {v : Value} (h : PthOwn e base w p v) (hb : base' ≤ base) : PthOwn e base' w p v := by
  obtain ⟨a, m, c, h1, h2, h3⟩ := h
  exact ⟨a, m, c, h1, h2.mono hb, h3⟩
/-- What Owner hands back. -/
def OwnerPost (s : List UInt8) (w : World) (e : Ending) (w' : World) : Prop := e = .returned (.tuple #[.string (str ((ownerS s).getD [])), .bool (ownerS s).isSome]) ∧ Ext w w'
set_option maxRecDepth 100000 in
set_option maxHeartbeats 2000000 in
theorem idOwner_any (s : List UInt8) (hs : s.length ≤ 1000000) (w : World) (hw : KW w) :
    Calls Tryz.prog 11 #[.string (str s)] w (OwnerPost s w) := by
  have HW := Lib.hid hw
  have HC := Lib.hid (idParse_any s hs w hw)
  have HX := Lib.hid (ownerS_or s)
  have HL := Lib.hid (pthOr_len s)
  clear hw
  go_enter Tryz.func11, Tryz.ntmps11
  go_wp2_with fail
  refine HC.out.mono ?_
  intro e w1 hpo
  obtain ⟨v, rfl, hE1, a, m, c, rfl, hO, hfl⟩ := PathPost.path hpo
  generalize pthOr s = p at *
  have HB := Lib.hid (BoxL.new w1 [.int .i64 p.flow, .slice a m c] 24)
  have HE := Lib.hid (hE1.alloc (.cells #[.int .i64 p.flow, .slice a m c] 24))
  have hO2 := hO.ext ((Ext.refl w1).alloc (.cells #[.int .i64 p.flow, .slice a m c] 24))
  have HV := Lib.hid (show PthV (w1.alloc (.cells #[.int .i64 p.flow, .slice a m c] 24)) p (.agg #[.int .i64 p.flow, .slice a m c]) from ⟨a, m, c, rfl, hO2.row, hfl⟩)
  clear hpo hE1 hO hO2 hfl HC
  go_upto_region 2 with (fail)
  generalize w1.alloc (.cells #[.int .i64 p.flow, .slice a m c] 24) = W2 at *
  have p0 := HB.out.cell 0 _ rfl
  have p1 := HB.out.cell 1 _ rfl
  go_wp2_with fail
  refine (idUp_any p (by have := HL.out; omega) W2 _ HV.out).mono ?_
  rintro e w3 ⟨v', rfl, hE3, hN, hS⟩
  cases hu : upP p with
  | none =>
    obtain rfl := hN hu
    have HY := Lib.hid (show ownerS s = none by rw [HX.out, hu]; simp)
    have HE3 := Lib.hid ((HE.out.trans hE3).alloc (.cells #[.int .i64 p.flow, .slice a m c] 24))
    clear hN hS hu hE3
    cases hs : (parseP s).isSome
    all_goals
      clear hs
      go_wp2
      go_ret2
      exact ⟨by rw [HY.out]; rfl, HE3.out⟩
  | some q =>
    obtain ⟨a', m', c', rfl, hO', hfl'⟩ := hS q hu
    have hql : q.steps.length ≤ 10000 := by
      obtain ⟨l, x, h1, rfl⟩ := upP_some hu
      have := HL.out
      rw [h1] at this
      have h2 : (upS x).length ≤ 1 := by unfold upS; split <;> simp
      simp at this ⊢
      omega
    have hB := BoxL.new w3 [.int .i64 q.flow, .slice a' m' c'] 24
    have hE4 := (HE.out.trans hE3).alloc (.cells #[.int .i64 q.flow, .slice a' m' c'] 24)
    have hO4 := hO'.ext ((Ext.refl w3).alloc (.cells #[.int .i64 q.flow, .slice a' m' c'] 24))
    have hV4 : PthV (w3.alloc (.cells #[.int .i64 q.flow, .slice a' m' c'] 24)) q (.agg #[.int .i64 q.flow, .slice a' m' c']) := ⟨a', m', c', rfl, hO4.row, hfl'⟩
    cases hs : (parseP s).isSome with
    | false =>
      have HY := Lib.hid (show ownerS s = none by rw [HX.out, hs]; simp)
      have HE4 := Lib.hid hE4
      clear hN hS hu hE3 hE4 hO4 hV4 hO' hB hs
      go_wp2
      go_ret2
      exact ⟨by rw [HY.out]; rfl, HE4.out⟩
    | true =>
      have HY := Lib.hid (show ownerS s = some (showP q) by rw [HX.out, hs, hu]; simp)
      have HE4 := Lib.hid hE4
      have HV4 := Lib.hid hV4
      clear hN hS hu hE3 hE4 hO4 hV4 hO' hs
      go_upto_region 3 with (fail)
      generalize w3.alloc (.cells #[.int .i64 q.flow, .slice a' m' c'] 24) = W4 at *
      have q0 := hB.cell 0 _ rfl
      have q1 := hB.cell 1 _ rfl
      clear hB p0 p1
      go_wp2_with fail
      refine (idShow_any q hql W4 (HW.out.ext HE4.out) _ HV4.out).mono ?_
      rintro e w5 ⟨rfl, hE5⟩
      have HE5 := Lib.hid (HE4.out.trans hE5)
      clear hE5
      go_wp2
      go_ret2
      exact ⟨by rw [HY.out]; rfl, HE5.out⟩
/-- A path in the box P. -/
def InBox (P : Nat) (w : World) (q : Pth) : Prop := ∃ a m c, BoxL w P [.int .i64 q.flow, .slice a m c] ∧ PthV w q (.agg #[.int .i64 q.flow, .slice a m c])
theorem up_len {p q : Pth} (h : upP p = some q) : q.steps.length ≤ p.steps.length := by
  obtain ⟨l, x, h1, rfl⟩ := upP_some h
  have h2 : (upS x).length ≤ 1 := by unfold upS; split <;> simp
  rw [h1]; simp; omega
/-- A path is put into the box. -/
theorem put_path {P base : Nat} {w0 w : World} {q : Pth} {a : Option Addr} {m c : Nat} {c0 c1 : Value} (hE : Ext w0 w) (hP : w0.heap.size ≤ P) (hb : BoxL w P [c0, c1]) (hO : OwnSt 27 base w (.slice a m c) q.steps) (hf : isI64 q.flow) (hlt : P < base) :
    Ext w0 (set2W w P (.int .i64 q.flow) (.slice a m c)) ∧ InBox P (set2W w P (.int .i64 q.flow) (.slice a m c)) q := by
  obtain ⟨h1, h2⟩ := set2_facts (x := .int .i64 q.flow) (y := .slice a m c) hE hb hP
  have h3 := (hO.kept (grown_set w P 0 (.int .i64 q.flow)) (fun b e => by injection e with e; omega)).kept (grown_set _ P 1 (.slice a m c)) (fun b e => by injection e with e; omega)
  exact ⟨h1, a, m, c, h2, a, m, c, rfl, OwnSt.row h3, hf⟩
/-- Deep's loop: so many rounds are done. -/
def DeepR (P : Nat) (p : Pth) (k : Nat) (i : Value) (w : World) : Prop :=
  (i = .bool true ∧ ∃ q, deepP q + k = deepP p ∧ q.steps.length ≤ 400 ∧ InBox P w q) ∨ (i = .bool false ∧ k = deepP p + 1)
theorem deepS_some {s : List UInt8} {p : Pth} (h : parseP s = some p) : deepS s = deepP p := by unfold deepS; rw [h]
theorem deepS_none {s : List UInt8} (h : parseP s = none) : deepS s = 0 := by unfold deepS; rw [h]
set_option maxRecDepth 100000 in
set_option maxHeartbeats 2000000 in
theorem idDeep_any (s : List UInt8) (hs : s.length ≤ 1000000) (w : World) (hw : KW w) :
    Calls Tryz.prog 22 #[.string (str s)] w fun e w' => e = .returned (.int .i64 (deepS s : Nat)) ∧ Ext w w' := by
  have HC := Lib.hid (idParse_any s hs w hw)
  clear hw
  go_enter Tryz.func22, Tryz.ntmps22
  go_wp2_with fail
  refine HC.out.mono ?_
  rintro e w1 ⟨v, rfl, hE1, hN, hS⟩
  cases hp : parseP s with
  | none =>
    have HX := Lib.hid (show ((deepS s : Nat) : Int) = 0 by rw [deepS_none hp]; rfl)
    obtain rfl := hN hp
    have HE1 := Lib.hid (hE1.alloc (.cells #[.int .i64 0, .slice none 0 0] 24))
    clear hN hS hp hE1
    go_wp2
    refine wp_loop_rounds 1 ?_
    rw [rounds_succ]
    go_wp2
    go_ret
    exact ⟨by rw [HX.out]; rfl, HE1.out⟩
  | some p =>
    have HX := Lib.hid (deepS_some hp)
    have HD := Lib.hid (deepP_le hp)
    obtain ⟨a, m, c, rfl, hO, hfl⟩ := hS p hp
    have hlen := parse_steps hp
    have hb := BoxL.new w1 [.int .i64 p.flow, .slice a m c] 24
    have HE := Lib.hid (hE1.alloc (.cells #[.int .i64 p.flow, .slice a m c] 24))
    have hO2 := hO.ext ((Ext.refl w1).alloc (.cells #[.int .i64 p.flow, .slice a m c] 24))
    have HI := Lib.hid (show InBox w1.heap.size (w1.alloc (.cells #[.int .i64 p.flow, .slice a m c] 24)) p from ⟨a, m, c, hb, a, m, c, rfl, hO2.row, hfl⟩)
    have hzw := hE1.size
    clear hN hS hp hE1 hO hfl hO2 hb
    go_upto_region 2 with (fail)
    generalize w1.alloc (.cells #[.int .i64 p.flow, .slice a m c] 24) = W2 at *
    generalize w1.heap.size = P at *
    go_wp2_with fail
    go_loopw [5, 6] (fun n i wr => ∃ k : Nat, n = .int .i64 k ∧ Hid (DeepR P p k i wr) ∧ Hid (Ext w wr) ∧ Hid (w.heap.size ≤ P)) (fun n _ _ => deepP p + 2 - (intOf n).toNat)
    case atStart => exact ⟨0, rfl, Lib.hid (.inl ⟨rfl, p, by omega, hlen, HI.out⟩), HE, Lib.hid hzw⟩
    case round =>
      clear HE HI hlen
      obtain ⟨k, rfl, HR, HEr, HP⟩ := hrel
      rcases HR.out with ⟨rfl, q, hq, hql, aq, mq, cq, hb, hv⟩ | ⟨rfl, hk⟩
      · have HQ := Lib.hid hq
        have hdk : k ≤ deepP p := by omega
        have hd4 : deepP p ≤ 400 := HD.out
        have p0 := hb.cell 0 _ rfl
        have p1 := hb.cell 1 _ rfl
        have HB := Lib.hid hb
        have HV := Lib.hid hv
        clear hq hb hv HR
        go_wp2_with fail
        refine (idUp_any q (by omega) wr _ HV.out).mono ?_
        rintro e w3 ⟨v', rfl, hE3, hN, hS⟩
        have hb3 := HB.out.ext hE3
        have hlt := HB.out.lt
        have r0 := hb3.cell 0 _ rfl
        have r1 := hb3.cell 1 _ rfl
        have r2 := hb3.free 0
        have r3 := hb3.free 1
        cases hu : upP q with
        | none =>
          obtain rfl := hN hu
          have hq0 : deepP q = 0 := deepP_zero.2 (upP_none.1 hu)
          have HF := Lib.hid (set2_facts (x := .int .i64 q.flow) (y := .slice aq mq cq) (HEr.out.trans hE3) hb3 HP.out).1
          have HKK := Lib.hid (show k + 1 = deepP p + 1 by have := HQ.out; omega)
          clear hN hS hu hE3 hb3 p0 p1 hq0
          go_wp2_with fail
          go_roundw
          case rel => exact ⟨k + 1, by go_num, Lib.hid (.inr ⟨rfl, HKK.out⟩), HF, HP⟩
          case measure => simp [intOf]; omega
        | some r =>
          obtain ⟨a', m', c', rfl, hO', hfl'⟩ := hS r hu
          obtain ⟨h1, h2⟩ := put_path (HEr.out.trans hE3) HP.out hb3 hO' hfl' hlt
          have HF := Lib.hid h1
          have HR := Lib.hid (show DeepR P p (k + 1) (.bool true) _ from .inl ⟨rfl, r, by have := HQ.out; have := upP_deep hu; omega, by have := up_len hu; omega, h2⟩)
          clear hN hS hu hE3 hb3 p0 p1 h1 h2 hO' hfl'
          go_wp2_with fail
          go_roundw
          case rel => exact ⟨k + 1, by go_num, HR, HF, HP⟩
          case measure => simp [intOf]; omega
      · subst hk
        have hd4 : deepP p ≤ 400 := HD.out
        clear HR
        go_wp2_with fail
        go_ret
        exact ⟨by rw [HX.out]; rfl, HEr.out⟩
end Go.Proofs.YtpcgpcjleedilaaGreatDoor

open Go.RowKit Go.Shelf
namespace Go.Proofs.YtpcgpcjleedilaaGreatDoor
open Go Go.Proofs Fm

theorem cmpInt_any (x y : Int) (w : World) : Calls Tryz.prog 105 #[.int .i64 x, .int .i64 y] w fun e w' => e = .returned (.int .i64 (cmpI x y)) ∧ w = w' :=
  (Tryz.cmp_Compare_int x y w).mono fun e w' ⟨h1, h2⟩ => ⟨by rw [h1]; unfold Lib.compareInt cmpI; rfl, h2.symm⟩
set_option maxHeartbeats 1000000 in
theorem cmpOr_any (b : Nat) (x y : Int) (w : World) (h0 : w.cell? ⟨b, 0, none⟩ = some (.int .i64 x)) (h1 : w.cell? ⟨b, 1, none⟩ = some (.int .i64 y)) :
    Calls Tryz.prog 103 #[.slice (some ⟨b, 0, none⟩) 2 2] w fun e w' => e = .returned (.int .i64 (orI x y)) ∧ w = w' := by
  have HX := Lib.hid (show orI x y = if x = 0 then y else x from rfl)
  by_cases hx : x = 0
  · have HY := Lib.hid (show orI x y = y by rw [HX.out, if_pos hx])
    have ht : (x != 0) = false := by simp [hx]
    clear hx
    by_cases hy : y = 0
    · have HY := Lib.hid (show orI x y = 0 by rw [HY.out, hy])
      have hu : (y != 0) = false := by simp [hy]
      clear hy
      go_enter Tryz.func103, Tryz.ntmps103
      go_wp2
      refine wp_loop_rounds 3 ?_
      rw [rounds_succ]
      go_wp2
      rw [rounds_succ]
      go_wp2
      rw [rounds_succ]
      go_wp2
      go_ret
      exact ⟨by rw [HY.out]; rfl, rfl⟩
    · have hu : (y != 0) = true := by simp [hy]
      clear hy
      go_enter Tryz.func103, Tryz.ntmps103
      go_wp2
      refine wp_loop_rounds 2 ?_
      rw [rounds_succ]
      go_wp2
      rw [rounds_succ]
      go_wp2
      go_ret
      exact ⟨by rw [HY.out]; rfl, rfl⟩
  · have HY := Lib.hid (show orI x y = x by rw [HX.out, if_neg hx])
    have ht : (x != 0) = true := by simp [hx]
    clear hx
    go_enter Tryz.func103, Tryz.ntmps103
    go_wp2
    refine wp_loop_rounds 1 ?_
    rw [rounds_succ]
    go_wp2
    go_ret
    exact ⟨by rw [HY.out]; rfl, rfl⟩
theorem bytesLt (x y : List UInt8) : Op.bytesLess (str x).toList (str y).toList = decide (x < y) := by
  rw [str_toList, str_toList]
  induction x generalizing y with
  | nil => cases y <;> simp [Op.bytesLess]
  | cons a x ih =>
    cases y with
    | nil => simp [Op.bytesLess]
    | cons b y =>
      rw [Op.bytesLess, ih]
      by_cases h2 : a = b <;> simp [List.cons_lt_cons_iff, h2]
set_option maxHeartbeats 1000000 in
theorem cmpStr_any (x y : List UInt8) (w : World) : Calls Tryz.prog 104 #[.string (str x), .string (str y)] w fun e w' => e = .returned (.int .i64 (cmpB x y)) ∧ w = w' := by
  have hN : ∀ (s : List UInt8) (w : World), Calls Tryz.prog 122 #[.string (str s)] w fun e w' => e = .returned (.bool false) ∧ w = w' := fun s w => by
    go_enter Tryz.func122, Tryz.ntmps122
    go_wp2
    go_ret
    exact ⟨rfl, rfl⟩
  have hN := Lib.hid hN
  have HX := Lib.hid (show cmpB x y = if x < y then -1 else if y < x then 1 else 0 from rfl)
  have eL := bytesLt x y
  have eE : ((str x).toList == (str y).toList) = decide (x = y) := str_beq _ _
  by_cases h1 : x < y
  · have HY := Lib.hid (show cmpB x y = -1 by rw [HX.out, if_pos h1])
    have fL : Op.bytesLess (str x).toList (str y).toList = true := by rw [eL]; simpa using h1
    clear eL eE h1
    go_enter Tryz.func104, Tryz.ntmps104
    go_wp2_with (go_at_call 122; refine (hN.out _ _).mono ?_; rintro e w1 ⟨rfl, rfl⟩)
    go_ret
    exact ⟨by rw [HY.out]; rfl, rfl⟩
  · have fL : Op.bytesLess (str x).toList (str y).toList = false := by rw [eL]; simpa using h1
    by_cases h2 : x = y
    · have HY := Lib.hid (show cmpB x y = 0 by rw [HX.out, if_neg h1, if_neg (by rw [h2] at h1 ⊢; exact h1)])
      have fE : ((str x).toList == (str y).toList) = true := by rw [eE]; simpa using h2
      clear eL eE h1 h2
      go_enter Tryz.func104, Tryz.ntmps104
      go_wp2_with (go_at_call 122; refine (hN.out _ _).mono ?_; rintro e w1 ⟨rfl, rfl⟩)
      go_ret
      exact ⟨by rw [HY.out]; rfl, rfl⟩
    · have h3 : y < x := by
        rcases lt_tri x y with h | h | h
        · exact absurd h h1
        · exact absurd h h2
        · exact h
      have HY := Lib.hid (show cmpB x y = 1 by rw [HX.out, if_neg h1, if_pos h3])
      have fE : ((str x).toList == (str y).toList) = false := by rw [eE]; simpa using h2
      clear eL eE h1 h2 h3
      go_enter Tryz.func104, Tryz.ntmps104
      go_wp2_with (go_at_call 122; refine (hN.out _ _).mono ?_; rintro e w1 ⟨rfl, rfl⟩)
      go_ret
      exact ⟨by rw [HY.out]; rfl, rfl⟩
theorem cmpOr_new (W : World) (x y : Int) (W' : World) (hE : Ext (W.alloc (.cells #[.int .i64 x, .int .i64 y] 3)) W') :
    Calls Tryz.prog 103 #[.slice (some ⟨W.heap.size, 0, none⟩) 2 2] W' fun e w' => e = .returned (.int .i64 (orI x y)) ∧ W' = w' := by
  have hb := (BoxL.new W [.int .i64 x, .int .i64 y] 3).ext hE
  exact cmpOr_any _ x y W' (hb.cell 0 _ rfl) (hb.cell 1 _ rfl)
set_option maxRecDepth 100000 in
set_option maxHeartbeats 2000000 in
theorem thanStep_any (x y : Stp) (w : World) :
    Calls Tryz.prog 102 #[.agg #[.string (str x.name), .int .i64 x.place], .agg #[.string (str y.name), .int .i64 y.place]] w fun e w' => e = .returned (.int .i64 (cmpS x y)) ∧ Ext w w' := by
  have HX := Lib.hid (show cmpS x y = orI (cmpB x.name y.name) (cmpI x.place y.place) from rfl)
  have hb2 := BoxL.new (w.alloc (.cells #[.string (str x.name), .int .i64 x.place] 27)) [.string (str y.name), .int .i64 y.place] 27
  have hb1 := (BoxL.new w [.string (str x.name), .int .i64 x.place] 27).ext ((Ext.refl _).alloc (.cells #[.string (str y.name), .int .i64 y.place] 27))
  have hE : Ext w ((w.alloc (.cells #[.string (str x.name), .int .i64 x.place] 27)).alloc (.cells #[.string (str y.name), .int .i64 y.place] 27)) := ((Ext.refl w).alloc _).alloc _
  rw [show (w.alloc (.cells #[.string (str x.name), .int .i64 x.place] 27)).heap.size = w.heap.size + 1 by simp] at hb2
  go_enter Tryz.func102, Tryz.ntmps102
  go_upto_region 1 with (fail)
  generalize (w.alloc (.cells #[.string (str x.name), .int .i64 x.place] 27)).alloc (.cells #[.string (str y.name), .int .i64 y.place] 27) = W1 at *
  have hSC : ∀ w', Ext W1 w' → (w'.cell? ⟨w.heap.size, 0, none⟩ = some (.string (str x.name)) ∧ w'.cell? ⟨w.heap.size, 1, none⟩ = some (.int .i64 x.place) ∧ w'.cell? ⟨w.heap.size + 1, 0, none⟩ = some (.string (str y.name)) ∧ w'.cell? ⟨w.heap.size + 1, 1, none⟩ = some (.int .i64 y.place)) := fun w' h =>
    ⟨(hb1.ext h).cell 0 _ rfl, (hb1.ext h).cell 1 _ rfl, (hb2.ext h).cell 0 _ rfl, (hb2.ext h).cell 1 _ rfl⟩
  have HSC := Lib.hid hSC
  have HE := Lib.hid hE
  have hz := hb2.lt
  clear hb1 hb2 hSC hE
  go_region_held3 (fun w' => w'.cell? ⟨w.heap.size, 0, none⟩ = some (.string (str x.name)) ∧ w'.cell? ⟨w.heap.size, 1, none⟩ = some (.int .i64 x.place) ∧ w'.cell? ⟨w.heap.size + 1, 0, none⟩ = some (.string (str y.name)) ∧ w'.cell? ⟨w.heap.size + 1, 1, none⟩ = some (.int .i64 y.place))
    ((refine HSC.out _ ?_; repeat (first | exact Ext.refl _ | refine Ext.drew ?_ | refine Ext.alloc ?_ _)))
    (first
      | (go_at_call 104; refine (cmpStr_any x.name y.name _).mono ?_; rintro e w4 ⟨rfl, rfl⟩)
      | (go_at_call 105; refine (cmpInt_any x.place y.place _).mono ?_; rintro e w4 ⟨rfl, rfl⟩)
      | (go_at_call 103; refine (cmpOr_new W1 _ _ _ (Ext.refl _).drew).mono ?_; rintro e w4 ⟨rfl, rfl⟩))
  all_goals go_wp2
  all_goals go_ret
  all_goals exact ⟨by rw [HX.out]; rfl, HE.out.trans ((Ext.refl W1).alloc _).drew⟩
theorem cmpL_lt {l m : List Stp} {k : Nat} (h1 : k < l.length) (h2 : k < m.length) : cmpL (l.drop k) (m.drop k) = orI (cmpS l[k] m[k]) (cmpL (l.drop (k + 1)) (m.drop (k + 1))) := by
  rw [List.drop_eq_getElem_cons h1, List.drop_eq_getElem_cons h2]; rfl
theorem cmpL_long {l m : List Stp} {k : Nat} (h1 : k < l.length) (h2 : m.length ≤ k) : cmpL (l.drop k) (m.drop k) = 1 := by
  rw [List.drop_eq_getElem_cons h1, List.drop_eq_nil_of_le h2]; rfl
theorem cmpL_short {l m : List Stp} {k : Nat} (h1 : l.length ≤ k) (h2 : k < m.length) : cmpL (l.drop k) (m.drop k) = -1 := by
  rw [List.drop_eq_nil_of_le h1, List.drop_eq_getElem_cons h2]; rfl
theorem cmpL_both {l m : List Stp} {k : Nat} (h1 : l.length ≤ k) (h2 : m.length ≤ k) : cmpL (l.drop k) (m.drop k) = 0 := by
  rw [List.drop_eq_nil_of_le h1, List.drop_eq_nil_of_le h2]; rfl
set_option maxRecDepth 100000 in
set_option maxHeartbeats 2000000 in
theorem compareSteps_any (l m : List Stp) (w : World) (v v' : Value) (h : stpE.Row w l v) (h' : stpE.Row w m v') :
    Calls Tryz.prog 106 #[v, v', .func (.func 102) #[] #[]] w fun e w' => e = .returned (.int .i64 (cmpL l m)) ∧ Ext w w' := by
  obtain ⟨a, c, rfl, hc1, hc2⟩ := h.slice
  obtain ⟨a', c', rfl, hc1', hc2'⟩ := h'.slice
  have HR := Lib.hid h
  have HR' := Lib.hid h'
  clear h h'
  go_enter Tryz.func106, Tryz.ntmps106
  go_wp2_with fail
  go_loopw [13] (fun i wr => ∃ k : Nat, k ≤ l.length ∧ i = .int .i64 k ∧ Hid (cmpL l m = cmpL (l.drop k) (m.drop k)) ∧ Hid (Ext w wr)) (fun i _ => l.length - (intOf i).toNat)
  case atStart => exact ⟨0, by omega, rfl, Lib.hid rfl, Lib.hid (Ext.refl w)⟩
  case round =>
    obtain ⟨k, hk, rfl, HL, HE⟩ := hrel
    by_cases hlt : k < l.length
    · obtain ⟨b, off, rfl, hb, c0, c1, hs⟩ := stp_at HR.out HE.out k hlt
      by_cases hlt' : k < m.length
      · have HL := Lib.hid (HL.out.trans (cmpL_lt hlt hlt'))
        have hE1 := (Ext.refl wr).alloc (.cells #[.string (str l[k].name), .int .i64 l[k].place] 27)
        have hb1 := BoxL.new wr [.string (str l[k].name), .int .i64 l[k].place] 27
        obtain ⟨b', off', rfl, hb', d0, d1, hs'⟩ := stp_at HR'.out (HE.out.trans hE1) k hlt'
        have hE2 := hE1.alloc (.cells #[.string (str m[k].name), .int .i64 m[k].place] 27)
        have hb2 := BoxL.new (wr.alloc (.cells #[.string (str l[k].name), .int .i64 l[k].place] 27)) [.string (str m[k].name), .int .i64 m[k].place] 27
        have hb1 := hb1.ext ((Ext.refl (wr.alloc (.cells #[.string (str l[k].name), .int .i64 l[k].place] 27))).alloc (.cells #[.string (str m[k].name), .int .i64 m[k].place] 27))
        rw [show (wr.alloc (.cells #[.string (str l[k].name), .int .i64 l[k].place] 27)).heap.size = wr.heap.size + 1 by simp] at hb2
        have HE2 := Lib.hid (HE.out.trans hE2)
        have HC := Lib.hid (thanStep_any l[k] m[k])
        clear hE1 hE2 hs hs' HE
        generalize l[k] = x at *
        generalize m[k] = y at *
        go_upto_region 7 with (fail)
        generalize (wr.alloc (.cells #[.string (str x.name), .int .i64 x.place] 27)).alloc (.cells #[.string (str y.name), .int .i64 y.place] 27) = W2 at *
        have p0 := hb1.cell 0 _ rfl
        have p1 := hb1.cell 1 _ rfl
        have p2 := hb2.cell 0 _ rfl
        have p3 := hb2.cell 1 _ rfl
        clear hb1 hb2 c0 c1 d0 d1
        go_wp2_with fail
        refine (HC.out W2).mono ?_
        rintro e w3 ⟨rfl, hE3⟩
        have HE3 := Lib.hid (HE2.out.trans hE3)
        clear hE3 HC p0 p1 p2 p3
        generalize cmpS x y = r at *
        by_cases hr : r = 0
        · have HL := Lib.hid (show cmpL l m = cmpL (l.drop (k + 1)) (m.drop (k + 1)) by rw [HL.out, hr]; rfl)
          have ht : (r != 0) = false := by simp [hr]
          clear hr
          go_wp2_with fail
          go_roundw
          case rel => exact ⟨k + 1, by omega, by go_num, HL, HE3⟩
          case measure => simp [intOf]; omega
        · have HL := Lib.hid (show cmpL l m = r by rw [HL.out]; unfold orI; rw [if_neg hr])
          have ht : (r != 0) = true := by simp [hr]
          clear hr
          go_wp2_with fail
          go_ret
          exact ⟨by rw [HL.out]; rfl, HE3.out⟩
      · have HL := Lib.hid (HL.out.trans (cmpL_long hlt (by omega)))
        have HE2 := Lib.hid (HE.out.alloc (.cells #[.string (str l[k].name), .int .i64 l[k].place] 27))
        have hge : decide ((m.length : Int) ≤ (k : Int)) = true := by simp; omega
        clear hs
        generalize l[k] = x at *
        go_wp2_with fail
        go_ret
        exact ⟨by rw [HL.out]; rfl, HE2.out⟩
    · by_cases hlt' : k < m.length
      · have HL := Lib.hid (HL.out.trans (cmpL_short (by omega) hlt'))
        have hll : decide ((l.length : Int) < (m.length : Int)) = true := by simp; omega
        have hll2 : decide (l.length < m.length) = true := by simp; omega
        go_wp2_with fail
        go_ret
        exact ⟨by rw [HL.out]; rfl, HE.out⟩
      · have HL := Lib.hid (HL.out.trans (cmpL_both (by omega) (by omega)))
        have hll : decide ((l.length : Int) < (m.length : Int)) = false := by simp; omega
        have hll2 : decide (l.length < m.length) = false := by simp; omega
        go_wp2_with fail
        go_ret
        exact ⟨by rw [HL.out]; rfl, HE.out⟩
set_option maxRecDepth 100000 in
set_option maxHeartbeats 2000000 in
theorem idThan_any (p q : Pth) (w : World) (v v' : Value) (h : PthV w p v) (h' : PthV w q v') :
    Calls Tryz.prog 84 #[v, v'] w fun e w' => e = .returned (.int .i64 (thanP p q)) ∧ Ext w w' := by
  have HX := Lib.hid (show thanP p q = orI (cmpI p.flow q.flow) (cmpL p.steps q.steps) from rfl)
  obtain ⟨a, m, c, rfl, hr, hi⟩ := h
  obtain ⟨a', m', c', rfl, hr', hi'⟩ := h'
  have hb2 := BoxL.new (w.alloc (.cells #[.int .i64 p.flow, .slice a m c] 98)) [.int .i64 q.flow, .slice a' m' c'] 98
  have hb1 := (BoxL.new w [.int .i64 p.flow, .slice a m c] 98).ext ((Ext.refl _).alloc (.cells #[.int .i64 q.flow, .slice a' m' c'] 98))
  have hE : Ext w ((w.alloc (.cells #[.int .i64 p.flow, .slice a m c] 98)).alloc (.cells #[.int .i64 q.flow, .slice a' m' c'] 98)) := ((Ext.refl w).alloc _).alloc _
  rw [show (w.alloc (.cells #[.int .i64 p.flow, .slice a m c] 98)).heap.size = w.heap.size + 1 by simp] at hb2
  have HR := Lib.hid hr
  have HR' := Lib.hid hr'
  clear hr hr' hi hi'
  go_enter Tryz.func84, Tryz.ntmps84
  go_upto_region 2 with (fail)
  generalize (w.alloc (.cells #[.int .i64 p.flow, .slice a m c] 98)).alloc (.cells #[.int .i64 q.flow, .slice a' m' c'] 98) = W1 at *
  have HSC : Hid (∀ w', Ext W1 w' → (w'.cell? ⟨w.heap.size, 0, none⟩ = some (.int .i64 p.flow) ∧ w'.cell? ⟨w.heap.size, 1, none⟩ = some (.slice a m c) ∧ w'.cell? ⟨w.heap.size + 1, 0, none⟩ = some (.int .i64 q.flow) ∧ w'.cell? ⟨w.heap.size + 1, 1, none⟩ = some (.slice a' m' c'))) := Lib.hid (fun w' h =>
    ⟨(hb1.ext h).cell 0 _ rfl, (hb1.ext h).cell 1 _ rfl, (hb2.ext h).cell 0 _ rfl, (hb2.ext h).cell 1 _ rfl⟩)
  have HE := Lib.hid hE
  have HDr : Hid (Ext W1 W1.drew) := Lib.hid (Ext.refl W1).drew
  have hz := hb2.lt
  clear hb1 hb2 hE
  go_region_held3 (fun w' => w'.cell? ⟨w.heap.size, 0, none⟩ = some (.int .i64 p.flow) ∧ w'.cell? ⟨w.heap.size, 1, none⟩ = some (.slice a m c) ∧ w'.cell? ⟨w.heap.size + 1, 0, none⟩ = some (.int .i64 q.flow) ∧ w'.cell? ⟨w.heap.size + 1, 1, none⟩ = some (.slice a' m' c'))
    ((refine HSC.out _ ?_; repeat (first | exact Ext.refl _ | exact HDr.out | exact E4.out | refine Ext.drew ?_ | refine Ext.alloc ?_ _)))
    (first
      | (go_at_call 105; refine (cmpInt_any p.flow q.flow _).mono ?_; rintro e w3 ⟨rfl, rfl⟩)
      | (go_at_call 106
         refine (compareSteps_any p.steps q.steps _ _ _ (HR.out.ext (HE.out.trans HDr.out)) (HR'.out.ext (HE.out.trans HDr.out))).mono ?_
         rintro e w4 ⟨rfl, hE4⟩
         have E4 := Lib.hid (HDr.out.trans hE4)
         clear hE4)
      | (go_at_call 103; refine (cmpOr_new w4 _ _ _ (Ext.refl _)).mono ?_; rintro e w5 ⟨rfl, rfl⟩))
  all_goals go_wp2
  all_goals go_ret
  all_goals exact ⟨by rw [HX.out]; rfl, HE.out.trans (E4.out.alloc _)⟩
set_option maxHeartbeats 1000000 in
theorem idCompared_any (p q : Pth) (w : World) (v v' : Value) (h : PthV w p v) (h' : PthV w q v') :
    Calls Tryz.prog 64 #[v, v'] w fun e w' => e = .returned (.int .i64 (thanP p q)) ∧ Ext w w' := by
  obtain ⟨a, m, c, rfl, hr, hi⟩ := h
  obtain ⟨a', m', c', rfl, hr', hi'⟩ := h'
  have hb2 := BoxL.new (w.alloc (.cells #[.int .i64 p.flow, .slice a m c] 98)) [.int .i64 q.flow, .slice a' m' c'] 98
  have hb1 := (BoxL.new w [.int .i64 p.flow, .slice a m c] 98).ext ((Ext.refl _).alloc (.cells #[.int .i64 q.flow, .slice a' m' c'] 98))
  have hE : Ext w ((w.alloc (.cells #[.int .i64 p.flow, .slice a m c] 98)).alloc (.cells #[.int .i64 q.flow, .slice a' m' c'] 98)) := ((Ext.refl w).alloc _).alloc _
  rw [show (w.alloc (.cells #[.int .i64 p.flow, .slice a m c] 98)).heap.size = w.heap.size + 1 by simp] at hb2
  have HV := Lib.hid (show PthV w p (.agg #[.int .i64 p.flow, .slice a m c]) from ⟨a, m, c, rfl, hr, hi⟩)
  have HV' := Lib.hid (show PthV w q (.agg #[.int .i64 q.flow, .slice a' m' c']) from ⟨a', m', c', rfl, hr', hi'⟩)
  clear hr hr' hi hi'
  go_enter Tryz.func64, Tryz.ntmps64
  go_upto_region 1 with (fail)
  generalize (w.alloc (.cells #[.int .i64 p.flow, .slice a m c] 98)).alloc (.cells #[.int .i64 q.flow, .slice a' m' c'] 98) = W1 at *
  have p0 := hb1.cell 0 _ rfl
  have p1 := hb1.cell 1 _ rfl
  have q0 := hb2.cell 0 _ rfl
  have q1 := hb2.cell 1 _ rfl
  have HE := Lib.hid hE
  clear hb1 hb2 hE
  go_wp2_with fail
  refine (idThan_any p q W1 _ _ (HV.out.ext HE.out) (HV'.out.ext HE.out)).mono ?_
  rintro e w2 ⟨rfl, hE2⟩
  have HE2 := Lib.hid (HE.out.trans hE2)
  clear hE2
  go_wp2
  go_ret
  exact ⟨rfl, HE2.out⟩
end Go.Proofs.YtpcgpcjleedilaaGreatDoor

open Go.RowKit Go.Shelf
namespace Go.Proofs.YtpcgpcjleedilaaGreatDoor
open Go Go.Proofs Fm

theorem lessS_some {a b : List UInt8} {p q : Pth} (hp : parseP a = some p) (hq : parseP b = some q) : lessS a b = decide (thanP p q < 0) := by unfold lessS; rw [hp, hq]
theorem lessS_left {a b : List UInt8} (hp : parseP a = none) : lessS a b = false := by unfold lessS; rw [hp]
theorem lessS_right {a b : List UInt8} (hq : parseP b = none) : lessS a b = false := by
  unfold lessS; rw [hq]; cases parseP a <;> rfl
theorem aboveS_some {a b : List UInt8} {p q : Pth} (hp : parseP a = some p) (hq : parseP b = some q) : aboveS a b = aboveP p q := by unfold aboveS; rw [hp, hq]
theorem aboveS_left {a b : List UInt8} (hp : parseP a = none) : aboveS a b = false := by unfold aboveS; rw [hp]
theorem aboveS_right {a b : List UInt8} (hq : parseP b = none) : aboveS a b = false := by
  unfold aboveS; rw [hq]; cases parseP a <;> rfl
theorem isSome_of {α : Type} {o : Option α} (h : o.isSome = true) : ∃ x, o = some x := Option.isSome_iff_exists.1 h
theorem pthOr_some {s : List UInt8} {p : Pth} (h : parseP s = some p) : pthOr s = p := by unfold pthOr; rw [h]; rfl
set_option maxRecDepth 100000 in
set_option maxHeartbeats 2000000 in
theorem idLess_any (a b : List UInt8) (ha : a.length ≤ 1000000) (hb : b.length ≤ 1000000) (w : World) (hw : KW w) :
    Calls Tryz.prog 26 #[.string (str a), .string (str b)] w fun e w' => e = .returned (.bool (lessS a b)) ∧ Ext w w' := by
  have HC := Lib.hid (idParse_any a ha w hw)
  have HC2 := Lib.hid (fun w' (h : Ext w w') => idParse_any b hb w' (hw.ext h))
  clear hw
  go_enter Tryz.func26, Tryz.ntmps26
  go_wp2_with fail
  refine HC.out.mono ?_
  intro e w1 hpo
  obtain ⟨v, rfl, hE1, a1, m1, c1, rfl, hO, hfl⟩ := PathPost.path hpo
  have hB1 := BoxL.new w1 [.int .i64 (pthOr a).flow, .slice a1 m1 c1] 24
  have hE2 := hE1.alloc (.cells #[.int .i64 (pthOr a).flow, .slice a1 m1 c1] 24)
  have hO2 := hO.ext ((Ext.refl w1).alloc (.cells #[.int .i64 (pthOr a).flow, .slice a1 m1 c1] 24))
  have hV1 : PthV (w1.alloc (.cells #[.int .i64 (pthOr a).flow, .slice a1 m1 c1] 24)) (pthOr a) (.agg #[.int .i64 (pthOr a).flow, .slice a1 m1 c1]) := ⟨a1, m1, c1, rfl, hO2.row, hfl⟩
  have HB1 := Lib.hid hB1
  have HE2 := Lib.hid hE2
  have HV1 := Lib.hid hV1
  clear hpo hE1 hO hfl hB1 hE2 hO2 hV1 HC
  generalize hfa : (pthOr a).flow = fa at *
  go_upto_region 2 with (fail)
  generalize w1.alloc (.cells #[.int .i64 fa, .slice a1 m1 c1] 24) = W2 at *
  generalize w1.heap.size = P at *
  go_wp2_with fail
  refine (HC2.out W2 HE2.out).mono ?_
  intro e w3 hpo
  obtain ⟨v, rfl, hE3, a2, m2, c2, rfl, hO, hfl⟩ := PathPost.path hpo
  have hB2 := BoxL.new w3 [.int .i64 (pthOr b).flow, .slice a2 m2 c2] 24
  have hE4 := hE3.alloc (.cells #[.int .i64 (pthOr b).flow, .slice a2 m2 c2] 24)
  have hO4 := hO.ext ((Ext.refl w3).alloc (.cells #[.int .i64 (pthOr b).flow, .slice a2 m2 c2] 24))
  have hV2 : PthV (w3.alloc (.cells #[.int .i64 (pthOr b).flow, .slice a2 m2 c2] 24)) (pthOr b) (.agg #[.int .i64 (pthOr b).flow, .slice a2 m2 c2]) := ⟨a2, m2, c2, rfl, hO4.row, hfl⟩
  have HB1' := Lib.hid (HB1.out.ext hE4)
  have HV1' := Lib.hid (HV1.out.ext hE4)
  have HB2 := Lib.hid hB2
  have HE4 := Lib.hid (HE2.out.trans hE4)
  have HV2 := Lib.hid hV2
  clear hpo hE3 hO hfl hB2 hE4 hO4 hV2 HC2 HB1 HV1 HE2
  generalize hfb : (pthOr b).flow = fb at *
  go_upto_region 3 with (fail)
  generalize w3.alloc (.cells #[.int .i64 fb, .slice a2 m2 c2] 24) = W4 at *
  generalize w3.heap.size = Q at *
  have p0 := HB1'.out.cell 0 _ rfl
  have p1 := HB1'.out.cell 1 _ rfl
  have q0 := HB2.out.cell 0 _ rfl
  have q1 := HB2.out.cell 1 _ rfl
  have HV1' := Lib.hid (show PthV W4 (pthOr a) (.agg #[.int .i64 fa, .slice a1 m1 c1]) from HV1'.out)
  have HV2 := Lib.hid (show PthV W4 (pthOr b) (.agg #[.int .i64 fb, .slice a2 m2 c2]) from HV2.out)
  clear hfa hfb HB1' HB2
  cases hsa : (parseP a).isSome with
  | false =>
    have HY := Lib.hid (lessS_left (b := b) (Option.isNone_iff_eq_none.1 (by simpa using hsa)))
    cases hsb : (parseP b).isSome
    all_goals
      clear hsa hsb
      go_wp2
      go_ret
      exact ⟨by rw [HY.out]; rfl, HE4.out⟩
  | true =>
    cases hsb : (parseP b).isSome with
    | false =>
      have HY := Lib.hid (lessS_right (a := a) (Option.isNone_iff_eq_none.1 (by simpa using hsb)))
      clear hsa hsb
      go_wp2
      go_ret
      exact ⟨by rw [HY.out]; rfl, HE4.out⟩
    | true =>
      obtain ⟨p, hp⟩ := isSome_of hsa
      obtain ⟨q, hq⟩ := isSome_of hsb
      have HY := Lib.hid (show lessS a b = decide (thanP (pthOr a) (pthOr b) < 0) by rw [lessS_some hp hq, pthOr_some hp, pthOr_some hq])
      clear hsa hsb hp hq
      go_wp2_with fail
      refine (idCompared_any (pthOr a) (pthOr b) W4 _ _ HV1'.out HV2.out).mono ?_
      rintro e w5 ⟨rfl, hE5⟩
      have HE5 := Lib.hid (HE4.out.trans hE5)
      clear hE5
      go_wp2
      go_ret
      exact ⟨by rw [HY.out]; rfl, HE5.out⟩
/-- Above's loop. -/
def AboveR (Q : Nat) (p q0 : Pth) (k : Nat) (i : Value) (w : World) : Prop :=
  (i = .bool true ∧ ∃ q, deepP q < k ∧ q.steps.length ≤ 400 ∧ InBox Q w q ∧ (aboveP p q0 = true ↔ (p = q ∨ aboveP p q = true))) ∨ (i = .bool false ∧ aboveP p q0 = false)
theorem above_iff {p q r : Pth} (h : upP q = some r) : aboveP p q = true ↔ (p = r ∨ aboveP p r = true) := by
  rw [aboveP_iff, aboveP_iff, chainP_some h, List.mem_cons]
set_option maxRecDepth 100000 in
set_option maxHeartbeats 2000000 in
theorem idAbove_any (a b : List UInt8) (ha : a.length ≤ 1000000) (hb : b.length ≤ 1000000) (w : World) (hw : KW w) :
    Calls Tryz.prog 24 #[.string (str a), .string (str b)] w fun e w' => e = .returned (.bool (aboveS a b)) ∧ Ext w w' := by
  have HC := Lib.hid (idParse_any a ha w hw)
  have HC2 := Lib.hid (fun w' (h : Ext w w') => idParse_any b hb w' (hw.ext h))
  clear hw
  go_enter Tryz.func24, Tryz.ntmps24
  go_wp2_with fail
  refine HC.out.mono ?_
  intro e w1 hpo
  obtain ⟨v, rfl, hE1, a1, m1, c1, rfl, hO, hfl⟩ := PathPost.path hpo
  have hB1 := BoxL.new w1 [.int .i64 (pthOr a).flow, .slice a1 m1 c1] 24
  have hE2 := hE1.alloc (.cells #[.int .i64 (pthOr a).flow, .slice a1 m1 c1] 24)
  have hO2 := hO.ext ((Ext.refl w1).alloc (.cells #[.int .i64 (pthOr a).flow, .slice a1 m1 c1] 24))
  have hV1 : PthV (w1.alloc (.cells #[.int .i64 (pthOr a).flow, .slice a1 m1 c1] 24)) (pthOr a) (.agg #[.int .i64 (pthOr a).flow, .slice a1 m1 c1]) := ⟨a1, m1, c1, rfl, hO2.row, hfl⟩
  have HB1 := Lib.hid hB1
  have HE2 := Lib.hid hE2
  have HVp := Lib.hid (show PthV w1 (pthOr a) (.agg #[.int .i64 (pthOr a).flow, .slice a1 m1 c1]) from ⟨a1, m1, c1, rfl, hO.row, hfl⟩)
  have HE1 := Lib.hid hE1
  have HE12 := Lib.hid ((Ext.refl w1).alloc (.cells #[.int .i64 (pthOr a).flow, .slice a1 m1 c1] 24))
  have HV1 := Lib.hid hV1
  clear hpo hE1 hO hfl hB1 hE2 hO2 hV1 HC
  generalize hfa : (pthOr a).flow = fa at *
  go_upto_region 2 with (fail)
  generalize w1.alloc (.cells #[.int .i64 fa, .slice a1 m1 c1] 24) = W2 at *
  generalize hzP : w1.heap.size = P at *
  have HZP := Lib.hid hzP
  clear hzP
  go_wp2_with fail
  refine (HC2.out W2 HE2.out).mono ?_
  intro e w3 hpo
  obtain ⟨v, rfl, hE3, a2, m2, c2, rfl, hO, hfl⟩ := PathPost.path hpo
  have hPQ : P < w3.heap.size := (HB1.out.ext hE3).lt
  have HE14 := Lib.hid (HE12.out.trans (hE3.alloc (.cells #[.int .i64 (pthOr b).flow, .slice a2 m2 c2] 24)))
  have hB2 := BoxL.new w3 [.int .i64 (pthOr b).flow, .slice a2 m2 c2] 24
  have hE4 := hE3.alloc (.cells #[.int .i64 (pthOr b).flow, .slice a2 m2 c2] 24)
  have hO4 := hO.ext ((Ext.refl w3).alloc (.cells #[.int .i64 (pthOr b).flow, .slice a2 m2 c2] 24))
  have hV2 : PthV (w3.alloc (.cells #[.int .i64 (pthOr b).flow, .slice a2 m2 c2] 24)) (pthOr b) (.agg #[.int .i64 (pthOr b).flow, .slice a2 m2 c2]) := ⟨a2, m2, c2, rfl, hO4.row, hfl⟩
  have HB1' := Lib.hid (HB1.out.ext hE4)
  have HV1' := Lib.hid (HV1.out.ext hE4)
  have HB2 := Lib.hid hB2
  have HE4 := Lib.hid (HE2.out.trans hE4)
  have HV2 := Lib.hid hV2
  clear hpo hE3 hO hfl hB2 hE4 hO4 hV2 HC2 HB1 HV1 HE2
  generalize hfb : (pthOr b).flow = fb at *
  go_upto_region 3 with (fail)
  generalize w3.alloc (.cells #[.int .i64 fb, .slice a2 m2 c2] 24) = W4 at *
  generalize w3.heap.size = Q at *
  have p0 := HB1'.out.cell 0 _ rfl
  have p1 := HB1'.out.cell 1 _ rfl
  have q0 := HB2.out.cell 0 _ rfl
  have q1 := HB2.out.cell 1 _ rfl
  have HV1' := Lib.hid (show PthV W4 (pthOr a) (.agg #[.int .i64 fa, .slice a1 m1 c1]) from HV1'.out)
  have HV2 := Lib.hid (show PthV W4 (pthOr b) (.agg #[.int .i64 fb, .slice a2 m2 c2]) from HV2.out)
  have q2 := HB2.out.free 0
  have q3 := HB2.out.free 1
  clear hfa hfb
  cases hsa : (parseP a).isSome with
  | false =>
    have HY := Lib.hid (aboveS_left (b := b) (Option.isNone_iff_eq_none.1 (by simpa using hsa)))
    cases hsb : (parseP b).isSome
    all_goals
      clear hsa hsb
      go_wp2
      go_ret
      exact ⟨by rw [HY.out]; rfl, HE4.out⟩
  | true =>
    cases hsb : (parseP b).isSome with
    | false =>
      have HY := Lib.hid (aboveS_right (a := a) (Option.isNone_iff_eq_none.1 (by simpa using hsb)))
      clear hsa hsb
      go_wp2
      go_ret
      exact ⟨by rw [HY.out]; rfl, HE4.out⟩
    | true =>
      obtain ⟨p, hp⟩ := isSome_of hsa
      obtain ⟨q, hq⟩ := isSome_of hsb
      have HY := Lib.hid (aboveS_some hp hq)
      have hlq := parse_steps hq
      rw [pthOr_some hp] at HVp
      rw [pthOr_some hq] at HV2
      have hfa : fa = p.flow := by obtain ⟨_, _, _, e, _⟩ := HVp.out; injection e with e; simp at e; exact e.1
      have hfb : fb = q.flow := by obtain ⟨_, _, _, e, _⟩ := HV2.out; injection e with e; simp at e; exact e.1
      subst hfa hfb
      have HPQ := Lib.hid hPQ
      clear hsa hsb hp hq HV1' hPQ
      go_wp2_with fail
      refine (idUp_any q (by omega) W4 _ HV2.out).mono ?_
      rintro e w5 ⟨v', rfl, hE5, hN, hS⟩
      have HB1 := Lib.hid (HB1'.out.ext hE5)
      have hB2 := HB2.out.ext hE5
      have HE5 := Lib.hid (HE14.out.trans hE5)
      have hltQ := HB2.out.lt
      have hwP : w.heap.size ≤ w1.heap.size := HE1.out.size
      have hQ : w1.heap.size ≤ Q := by have := HZP.out; have := HPQ.out; omega
      have r0 := hB2.cell 0 _ rfl
      have r1 := hB2.cell 1 _ rfl
      have r2 := hB2.free 0
      have r3 := hB2.free 1
      clear hE5 HE14 HB1' HB2 HE4 p0 p1 q0 q1 q2 q3
      cases hu : upP q with
      | none =>
        obtain rfl := hN hu
        have HZ := Lib.hid (show aboveS a b = false by rw [HY.out, aboveP_none hu])
        have HF := Lib.hid (set2_facts (x := .int .i64 q.flow) (y := .slice a2 m2 c2) HE5.out hB2 hQ).1
        clear hN hS hu hB2
        go_wp2_with fail
        refine wp_loop_rounds 1 ?_
        rw [rounds_succ]
        go_wp2
        go_ret
        exact ⟨by rw [HZ.out]; rfl, HE1.out.trans HF.out⟩
      | some r =>
        obtain ⟨a', m', c', rfl, hO', hfl'⟩ := hS r hu
        obtain ⟨h1, h2⟩ := put_path HE5.out hQ hB2 hO' hfl' hltQ
        have HF := Lib.hid h1
        have hrl := up_len hu
        have HR := Lib.hid (show AboveR Q p q (deepP r + 1) (.bool true) _ from .inl ⟨rfl, r, by omega, by omega, h2, above_iff hu⟩)
        have HBP := Lib.hid (set2_far (x := .int .i64 r.flow) (y := .slice a' m' c') (b := Q) HB1.out (by have := HPQ.out; omega))
        clear hN hS hu hB2 h1 h2 hO' hfl' HB1 hrl
        go_wp2_with fail
        change Code.wp _ _ _ _ (set2W w5 Q (.int .i64 r.flow) (.slice a' m' c'))
        generalize set2W w5 Q (.int .i64 r.flow) (.slice a' m' c') = W6 at *
        clear r0 r1 r2 r3
        go_loopg [8] (deepP r + 1) (fun k i wr => Hid (AboveR Q p q k i wr) ∧ Hid (Ext w1 wr) ∧ Hid (BoxL wr P [.int .i64 p.flow, .slice a1 m1 c1]))
        case atStart => exact ⟨HR, HF, HBP⟩
        case round =>
          clear HR HF HBP
          obtain ⟨HR, HEr, HBr⟩ := hrel
          rcases HR.out with ⟨rfl, q', hk, hql, hbx, hiff⟩ | ⟨rfl, hno⟩
          · obtain ⟨aq, mq, cq, hbq, hvq⟩ := hbx
            have HK := Lib.hid hk
            have HIF := Lib.hid hiff
            have p0 := HBr.out.cell 0 _ rfl
            have p1 := HBr.out.cell 1 _ rfl
            have q0 := hbq.cell 0 _ rfl
            have q1 := hbq.cell 1 _ rfl
            have HBQ := Lib.hid hbq
            have HVQ := Lib.hid hvq
            have hltQ := hbq.lt
            clear hk hiff hbq hvq HR
            go_wp2_with fail
            refine (idCompared_any p q' wr _ _ (HVp.out.ext HEr.out) HVQ.out).mono ?_
            rintro e w7 ⟨rfl, hE7⟩
            have hz := thanP_good.zero p q'
            by_cases hpq : p = q'
            · have ht : (thanP p q' == 0) = true := by simpa using hz.2 hpq
              have HZ := Lib.hid (show aboveS a b = true by rw [HY.out, HIF.out]; exact .inl hpq)
              have HE7 := Lib.hid (HE1.out.trans (HEr.out.trans hE7))
              clear hz hpq hE7 p0 p1 q0 q1
              go_wp2
              go_ret
              exact ⟨by rw [HZ.out]; rfl, HE7.out⟩
            · have ht : (thanP p q' == 0) = false := by simp [hz, hpq]
              have HIF := Lib.hid (show aboveP p q = true ↔ aboveP p q' = true by rw [HIF.out]; exact ⟨fun h => h.resolve_left hpq, .inr⟩)
              have HE7 := Lib.hid (HEr.out.trans hE7)
              have HBP := Lib.hid (HBr.out.ext hE7)
              have hb7 := HBQ.out.ext hE7
              have HV7 := Lib.hid (HVQ.out.ext hE7)
              clear hz hpq hE7 p0 p1 q0 q1 HEr HBr HBQ HVQ
              have q0 := hb7.cell 0 _ rfl
              have q1 := hb7.cell 1 _ rfl
              go_wp2_with fail
              refine (idUp_any q' (by omega) w7 _ HV7.out).mono ?_
              rintro e w8 ⟨v8, rfl, hE8, hN, hS⟩
              have hb8 := hb7.ext hE8
              have hlt8 := hb7.lt
              have HE8 := Lib.hid (HE7.out.trans hE8)
              have HBP := Lib.hid (HBP.out.ext hE8)
              have r0 := hb8.cell 0 _ rfl
              have r1 := hb8.cell 1 _ rfl
              have r2 := hb8.free 0
              have r3 := hb8.free 1
              clear hE8 hb7 q0 q1
              cases hu : upP q' with
              | none =>
                obtain rfl := hN hu
                have HF := Lib.hid (set2_facts (x := .int .i64 q'.flow) (y := .slice aq mq cq) HE8.out hb8 hQ).1
                have HBF := Lib.hid (set2_far (x := .int .i64 q'.flow) (y := .slice aq mq cq) (b := Q) HBP.out (by have := HPQ.out; omega))
                have hno : aboveP p q = false := by
                  cases e : aboveP p q with
                  | false => rfl
                  | true => have := HIF.out.1 e; rw [aboveP_none hu] at this; cases this
                have HR := Lib.hid (show AboveR Q p q 0 (.bool false) (set2W w8 Q (.int .i64 q'.flow) (.slice aq mq cq)) from .inr ⟨rfl, hno⟩)
                clear hN hS hu hb8 hno HBP
                go_wp2_with fail
                go_roundg 0
                case rel => exact ⟨HR, HF, HBF⟩
                case measure => have := HK.out; omega
              | some r' =>
                obtain ⟨a8, m8, c8, rfl, hO8, hfl8⟩ := hS r' hu
                obtain ⟨h1, h2⟩ := put_path HE8.out hQ hb8 hO8 hfl8 hlt8
                have HF := Lib.hid h1
                have HBF := Lib.hid (set2_far (x := .int .i64 r'.flow) (y := .slice a8 m8 c8) (b := Q) HBP.out (by have := HPQ.out; omega))
                have hrl := up_len hu
                have hrd := upP_deep hu
                have HR := Lib.hid (show AboveR Q p q (deepP r' + 1) (.bool true) (set2W w8 Q (.int .i64 r'.flow) (.slice a8 m8 c8)) from .inl ⟨rfl, r', by omega, by omega, h2, HIF.out.trans (above_iff hu)⟩)
                have HK := Lib.hid (show deepP r' + 1 < gk by have := HK.out; omega)
                clear hN hS hu hb8 h1 h2 hO8 hfl8 HBP hrl hrd
                go_wp2_with fail
                go_roundg (deepP r' + 1)
                case rel => exact ⟨HR, HF, HBF⟩
                case measure => exact HK.out
          · have HZ := Lib.hid (show aboveS a b = false by rw [HY.out, hno])
            clear HR hno
            go_wp2
            go_ret
            exact ⟨by rw [HZ.out]; rfl, HE1.out.trans HEr.out⟩
end Go.Proofs.YtpcgpcjleedilaaGreatDoor
