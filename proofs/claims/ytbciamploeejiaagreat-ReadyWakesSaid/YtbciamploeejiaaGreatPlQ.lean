/- Nodes and states in memory of their own; what Parse reads: plain facts. No program is imported. -/
import Derived.Test.YtbciamploeejiaaGreatIdC
import Derived.WalkLawsBesides
import Derived.Deep.RegionHeld3
import Derived.Deep.CutRange
import Derived.Deep.LoopGhost
import Derived.Test.YtbciamploeejiaaGreatPlO
import Derived.Deep.MidRow
open Go.RowKit Go.Shelf
namespace Go.Proofs.YtbciamploeejiaaGreat
open Go Go.Proofs Fm
attribute [local go_sem] Oper.semAt_some

/-- What Parse hands back. -/
def PathPost (s : List UInt8) (w : World) (e : Ending) (w' : World) : Prop :=
  ∃ v, e = .returned (.tuple #[v, .bool (parseP s).isSome]) ∧ Ext w w' ∧ (parseP s = none → v = .agg #[.int .i64 0, .slice none 0 0]) ∧ ∀ p, parseP s = some p → PthOwn 125 w.heap.size w' p v

/-- Between two rounds. -/
def PRnd (w : World) (pre : List (List UInt8)) (W : World) : Prop :=
  w.heap.size + 7 ≤ W.heap.size ∧ Ext w W ∧ BoxL W w.heap.size [.int .i64 0, .slice none 0 0] ∧ BoxL W (w.heap.size + 1) [.bool false] ∧ BoxL W (w.heap.size + 3) [.bool pre.isEmpty] ∧
  ∃ (fl : Int) (a : Option Addr) (m c : Nat) (st : List Stp), BoxL W (w.heap.size + 2) [.int .i64 fl, .slice a m c] ∧ OwnSt 125 (w.heap.size + 7) W (.slice a m c) st ∧ isI64 fl ∧
    ((pre = [] ∧ fl = 0 ∧ st = []) ∨ ∃ x l, pre = x :: l ∧ numI x = some fl ∧ stepsP l = some st)
/-- Where a round has ended all. -/
def PEnd (s : List UInt8) (w : World) (c : Code) (_ : List (List UInt8)) (W : World) : Prop :=
  c = .ret ∧ Ext w W ∧ BoxL W w.heap.size [.int .i64 0, .slice none 0 0] ∧ BoxL W (w.heap.size + 1) [.bool false] ∧ parseP s = none
theorem _root_.Fm.OwnSt.far {e : TypeId} {base : Nat} {w w' : World} {v : Value} {l : List Stp} {row : Option Nat} (h : OwnSt e base w v l) (hg : w.grownBy w' row) (hr : ∀ b, row = some b → ∃ o : Obj, w.heap[b]? = some o ∧ o.isCells = false) : OwnSt e base w' v l := by
  refine ⟨World.ownsRow.kept h.1 hg ?_, h.2⟩
  rcases h.1.2 with ⟨rfl, _⟩ | ⟨g, cap, cur, rfl, _, hgb, _⟩
  · exact .inl rfl
  · right
    intro e
    obtain ⟨o, h1, h2⟩ := hr g e.symm
    rw [hgb] at h1
    cases h1
    cases h2
theorem PRnd.own (w : World) : OwnFrom (w.heap.size + 7) (PRnd w) := by
  rintro pre X Y row ⟨hz, hE, h1, h2, h3, fl, a, m, c, st, h4, h5, h6⟩ hg hr
  have hb : ∀ b, b < w.heap.size + 7 → row ≠ some b := fun b hb e => by have := (hr b e).1; omega
  exact ⟨Nat.le_trans hz hg.size, hE.grown hg (fun k e => by have := (hr k e).1; omega), h1.kept hg (hb _ (by omega)), h2.kept hg (hb _ (by omega)), h3.kept hg (hb _ (by omega)), fl, a, m, c, st, h4.kept hg (hb _ (by omega)), h5.far hg (fun b e => (hr b e).2), h6⟩
theorem PRnd.set {w X : World} {pre : List (List UInt8)} (h : PRnd w pre X) (u : Value) : PRnd w pre (X.setCell ⟨w.heap.size + 4, 0, none⟩ u) := by
  obtain ⟨hz, hE, h1, h2, h3, fl, a, m, c, st, h4, h5, h6⟩ := h
  have hg := grown_set X (w.heap.size + 4) 0 u
  have hb : ∀ b, b < w.heap.size + 4 → some (w.heap.size + 4) ≠ some b := fun b hb e => by injection e; omega
  exact ⟨Nat.le_trans hz hg.size, hE.setCell (p := ⟨w.heap.size + 4, 0, none⟩) (by show w.heap.size ≤ w.heap.size + 4; omega) u, h1.kept hg (hb _ (by omega)), h2.kept hg (hb _ (by omega)), h3.kept hg (hb _ (by omega)), fl, a, m, c, st, h4.kept hg (hb _ (by omega)), h5.kept hg (fun b e => by injection e with e; omega), h6⟩
theorem PEnd.own (s : List UInt8) (w : World) (c : Code) : OwnFrom (w.heap.size + 7) (PEnd s w c) := by
  rintro pre X Y row ⟨hc, hE, h1, h2, h3⟩ hg hr
  have hb : ∀ b, b < w.heap.size + 7 → row ≠ some b := fun b hb e => by have := (hr b e).1; omega
  exact ⟨hc, hE.grown hg (fun k e => by have := (hr k e).1; omega), h1.kept hg (hb _ (by omega)), h2.kept hg (hb _ (by omega)), h3⟩
theorem PEnd.set {s : List UInt8} {w X : World} {c : Code} {pre : List (List UInt8)} (h : PEnd s w c pre X) (u : Value) : PEnd s w c pre (X.setCell ⟨w.heap.size + 4, 0, none⟩ u) := by
  obtain ⟨hc, hE, h1, h2, h3⟩ := h
  have hg := grown_set X (w.heap.size + 4) 0 u
  have hb : ∀ b, b < w.heap.size + 4 → some (w.heap.size + 4) ≠ some b := fun b hb e => by injection e; omega
  exact ⟨hc, hE.setCell (p := ⟨w.heap.size + 4, 0, none⟩) (by show w.heap.size ≤ w.heap.size + 4; omega) u, h1.kept hg (hb _ (by omega)), h2.kept hg (hb _ (by omega)), h3⟩
/-! ### plain -/
theorem parse_bad_num {s x : List UInt8} (h : ∃ post, split47 s = [] ++ x :: post) (hn : numI x = none) : parseP s = none := by
  obtain ⟨post, h⟩ := h
  unfold parseP
  rw [h]
  show (numI x).bind _ = none
  rw [hn]; rfl
theorem parse_bad_step {s a x : List UInt8} {l : List (List UInt8)} (h : ∃ post, split47 s = (a :: l) ++ x :: post) (hx : stepP x = none) : parseP s = none := by
  obtain ⟨post, h⟩ := h
  have hd : stepsP (l ++ x :: post) = none := by
    rw [show l ++ x :: post = (l ++ [x]) ++ post by simp]
    refine stepsP_dead ?_
    rw [stepsP_snoc, hx]
    cases stepsP l <;> rfl
  unfold parseP
  rw [h]
  simp only [List.cons_append, List.headD_cons, List.tail_cons, hd]
  cases numI a <;> rfl
theorem parse_good {s a : List UInt8} {l : List (List UInt8)} {n : Int} {st : List Stp} (h : split47 s = a :: l) (hn : numI a = some n) (hl : stepsP l = some st) : parseP s = if s.length ≤ 400 then some ⟨n, st⟩ else none := by
  unfold parseP
  rw [h]
  simp only [List.headD_cons, List.tail_cons, hn, hl, Option.bind_some]
theorem join47_len : ∀ l : List (List UInt8), (join47 l).length = l.flatten.length + (l.length - 1)
  | [] => rfl
  | [p] => by simp [join47]
  | p :: q :: qs => by
    have := join47_len (q :: qs)
    rw [join47_cons _ (by simp), List.length_append, List.length_cons, this]
    simp
    omega
theorem next_len {s : List UInt8} {pre : List (List UInt8)} {x : List UInt8} (h : NextP s pre x) : x.length ≤ s.length ∧ pre.length ≤ s.length := by
  obtain ⟨post, h⟩ := h
  have := join47_len (split47 s)
  rw [join47_split, h] at this
  simp at this
  omega
theorem stepsP_len : ∀ {l : List (List UInt8)} {st : List Stp}, stepsP l = some st → st.length = l.length
  | [], st, h => by rw [stepsP] at h; cases h; rfl
  | p :: l, st, h => by
    rw [stepsP] at h
    obtain ⟨x, _, h2⟩ := Option.bind_eq_some_iff.1 h
    obtain ⟨r, h3, rfl⟩ := Option.map_eq_some_iff.1 h2
    simp [stepsP_len h3]
/-- What a round does to the world: of these blocks, and of what is no cells, nothing turns. -/
def Rnd (bs : List Nat) (X Y : World) : Prop := X.heap.size ≤ Y.heap.size ∧ ∀ k o, X.heap[k]? = some o → (k ∈ bs ∨ o.isCells = false) → Y.heap[k]? = some o
theorem Rnd.refl (bs : List Nat) (X : World) : Rnd bs X X := ⟨Nat.le_refl _, fun _ _ h _ => h⟩
theorem Rnd.trans {bs : List Nat} {X Y Z : World} (h : Rnd bs X Y) (k : Rnd bs Y Z) : Rnd bs X Z := ⟨Nat.le_trans h.1 k.1, fun i o hi ho => k.2 i o (h.2 i o hi ho) ho⟩
theorem Rnd.ext {bs : List Nat} {X Y : World} (h : Ext X Y) : Rnd bs X Y := ⟨h.size, fun k _ hk _ => (h.block k (Array.getElem?_eq_some_iff.1 hk).1).trans hk⟩
theorem Rnd.set {bs : List Nat} (X : World) (b j : Nat) (u : Value) (hb : b ∉ bs) : Rnd bs X (X.setCell ⟨b, j, none⟩ u) := by
  refine ⟨(KeepsOthers.setCell X ⟨b, j, none⟩ u).size, fun k o hk ho => ?_⟩
  rcases ho with ho | ho
  · exact (Below.heap_setCell X ⟨b, j, none⟩ u k (fun e => hb (by rw [← show k = b from e]; exact ho))).trans hk
  · exact (KeepsOthers.setCell X ⟨b, j, none⟩ u).same k o hk ho
theorem Rnd.grown {bs : List Nat} {X Y : World} {row : Option Nat} (hg : X.grownBy Y row) (hb : ∀ b, row = some b → b ∉ bs) (hc : ∀ j o, row = some j → X.heap[j]? = some o → o.isCells = true) : Rnd bs X Y := by
  refine ⟨hg.size, fun k o hk ho => ?_⟩
  rcases ho with ho | ho
  · exact (hg.block k (Array.getElem?_eq_some_iff.1 hk).1 (fun e => hb k e.symm ho)).trans hk
  · exact (KeepsOthers.of_grownBy hg hc).same k o hk ho
theorem Rnd.from {bs : List Nat} {X Y : World} (h : Rnd bs X Y) (B : Nat) : KeepsFrom B X Y := ⟨h.1, fun k o _ hk ho => h.2 k o hk (.inr ho)⟩
theorem Rnd.keeps {bs : List Nat} {X Y : World} (h : Rnd bs X Y) : KeepsB bs X Y := fun b hb o ho => h.2 b o ho (.inl hb)
theorem info_step : (Tryz.prog.info? 125).map (fun i => (i.zero, i.size, i.bytes)) = some (some (.agg #[.string { data := #[] }, .int .i64 0]), 2, 24) := by kernel_rfl
/-- The three blocks of the iterator. -/
def bs3 (w : World) : List Nat := [w.heap.size + 4, w.heap.size + 5, w.heap.size + 6]
theorem not_bs3 {w : World} {b : Nat} (h : b < w.heap.size + 4 ∨ w.heap.size + 7 ≤ b) : b ∉ bs3 w := by unfold bs3; simp; omega
/-- What a round keeps in mind: nothing that lay has turned, the iterator's blocks lie, the four boxes. -/
def PBox (w W W' : World) (c0 c1 : Value) (f : Bool) : Prop :=
  Ext w W' ∧ Rnd (bs3 w) W W' ∧ BoxL W' w.heap.size [.int .i64 0, .slice none 0 0] ∧ BoxL W' (w.heap.size + 1) [.bool false] ∧ BoxL W' (w.heap.size + 2) [c0, c1] ∧ BoxL W' (w.heap.size + 3) [.bool f]
theorem PBox.ext {w W W1 W2 : World} {c0 c1 : Value} {f : Bool} (h : PBox w W W1 c0 c1 f) (hE : Ext W1 W2) : PBox w W W2 c0 c1 f :=
  ⟨h.1.trans hE, h.2.1.trans (Rnd.ext hE), h.2.2.1.ext hE, h.2.2.2.1.ext hE, h.2.2.2.2.1.ext hE, h.2.2.2.2.2.ext hE⟩
theorem PBox.first {w W W1 : World} {c0 c1 : Value} {f : Bool} (h : PBox w W W1 c0 c1 f) (g : Bool) : PBox w W (W1.setCell ⟨w.heap.size + 3, 0, none⟩ (.bool g)) c0 c1 g := by
  obtain ⟨hE, hr, bR, bK, bP, bF⟩ := h
  have hg := grown_set W1 (w.heap.size + 3) 0 (.bool g)
  exact ⟨hE.setCell (p := ⟨w.heap.size + 3, 0, none⟩) (by show w.heap.size ≤ w.heap.size + 3; omega) _, hr.trans (Rnd.set _ _ _ _ (not_bs3 (.inl (by omega)))), bR.kept hg (by simp), bK.kept hg (by simp), bP.kept hg (by simp), bF.set 0 (by simp) _⟩
theorem PBox.num {w W W1 : World} {c0 c1 : Value} {f : Bool} (h : PBox w W W1 c0 c1 f) (u : Value) : PBox w W (W1.setCell ⟨w.heap.size + 2, 0, none⟩ u) u c1 f := by
  obtain ⟨hE, hr, bR, bK, bP, bF⟩ := h
  have hg := grown_set W1 (w.heap.size + 2) 0 u
  exact ⟨hE.setCell (p := ⟨w.heap.size + 2, 0, none⟩) (by show w.heap.size ≤ w.heap.size + 2; omega) _, hr.trans (Rnd.set _ _ _ _ (not_bs3 (.inl (by omega)))), bR.kept hg (by simp), bK.kept hg (by simp), bP.set 0 (by simp) _, bF.kept hg (by simp)⟩
theorem PBox.steps {w W W1 : World} {c0 c1 : Value} {f : Bool} (h : PBox w W W1 c0 c1 f) (u : Value) : PBox w W (W1.setCell ⟨w.heap.size + 2, 1, none⟩ u) c0 u f := by
  obtain ⟨hE, hr, bR, bK, bP, bF⟩ := h
  have hg := grown_set W1 (w.heap.size + 2) 1 u
  exact ⟨hE.setCell (p := ⟨w.heap.size + 2, 1, none⟩) (by show w.heap.size ≤ w.heap.size + 2; omega) _, hr.trans (Rnd.set _ _ _ _ (not_bs3 (.inl (by omega)))), bR.kept hg (by simp), bK.kept hg (by simp), bP.set 1 (by simp) _, bF.kept hg (by simp)⟩
theorem PBox.grown {w W W1 W2 : World} {c0 c1 : Value} {f : Bool} {row : Option Nat} (h : PBox w W W1 c0 c1 f) (hg : W1.grownBy W2 row) (hr : ∀ b, row = some b → w.heap.size + 7 ≤ b ∧ ∃ o : Obj, W1.heap[b]? = some o ∧ o.isCells = true) : PBox w W W2 c0 c1 f := by
  obtain ⟨hE, r, bR, bK, bP, bF⟩ := h
  have hb : ∀ b, b < w.heap.size + 7 → row ≠ some b := fun b hb e => by have := (hr b e).1; omega
  refine ⟨hE.grown hg (fun k e => by have := (hr k e).1; omega), r.trans (Rnd.grown hg (fun b e => not_bs3 (.inr (hr b e).1)) (fun j o e ho => ?_)), bR.kept hg (hb _ (by omega)), bK.kept hg (hb _ (by omega)), bP.kept hg (hb _ (by omega)), bF.kept hg (hb _ (by omega))⟩
  obtain ⟨o', h1, h2⟩ := (hr j e).2
  rw [ho] at h1
  cases h1
  exact h2
theorem _root_.Fm.OwnSt.cellsBlock {e : TypeId} {base : Nat} {w : World} {v : Value} {l : List Stp} (h : OwnSt e base w v l) : ∀ b, v.ownBlock = some b → base ≤ b ∧ ∃ o : Obj, w.heap[b]? = some o ∧ o.isCells = true := by
  intro b hb
  refine ⟨(h.lt b hb).1, ?_⟩
  rcases h.1.2 with ⟨rfl, _⟩ | ⟨g, cap, cur, rfl, _, hgb, _⟩
  · cases hb
  · have e : g = b := by simpa [Value.ownBlock] using hb
    subst e
    exact ⟨_, hgb, rfl⟩
theorem box_add {w : World} {b : Nat} {vs : List Value} (h : BoxL w b vs) : ∀ j u, vs[j]? = some u → w.cell? ((⟨b, 0, none⟩ : Addr).add j) = some u := by
  intro j u hj
  rw [Addr.add_lit, Nat.zero_add]
  exact h.cell j u hj
/-- The round's end where all ends: the results are written. -/
theorem round_ret {s : List UInt8} {w W W1 : World} {c0 c1 : Value} {f : Bool} {xs : List (List UInt8)} {a : Act} (h : PBox w W W1 c0 c1 f) (hp : parseP s = none) (B : Nat) :
    ownPostG B (KeepsB (bs3 w)) (PRnd w) (PEnd s w) xs W .ret a ((set2W W1 w.heap.size (.int .i64 0) (.slice none 0 0)).setCell ⟨w.heap.size + 1, 0, none⟩ (.bool false)) := by
  obtain ⟨hE, hr, bR, bK, -, -⟩ := h
  obtain ⟨h1, h2⟩ := set2_facts (x := .int .i64 0) (y := .slice none 0 0) hE bR (Nat.le_refl _)
  have k1 := set2_far (x := .int .i64 0) (y := .slice none 0 0) (b := w.heap.size) bK (by omega)
  have hr1 : Rnd (bs3 w) W (set2W W1 w.heap.size (.int .i64 0) (.slice none 0 0)) := (hr.trans (Rnd.set _ _ _ _ (not_bs3 (.inl (by omega))))).trans (Rnd.set _ _ _ _ (not_bs3 (.inl (by omega))))
  exact ⟨(hr1.trans (Rnd.set _ _ _ _ (not_bs3 (.inl (by omega))))).from B, rfl, h1.setCell (p := ⟨w.heap.size + 1, 0, none⟩) (by show w.heap.size ≤ w.heap.size + 1; omega) _, h2.kept (grown_set _ _ _ _) (by simp), k1.set 0 (by simp) _, hp⟩
/-- The round's end where it goes on. -/
theorem round_on {s : List UInt8} {w W W1 : World} {fl : Int} {a : Option Addr} {m c : Nat} {st : List Stp} {y : List UInt8} {l : List (List UInt8)} {xs : List (List UInt8)} {A : Act} (h : PBox w W W1 (.int .i64 fl) (.slice a m c) false) (hO : OwnSt 125 (w.heap.size + 7) W1 (.slice a m c) st) (hfl : isI64 fl) (hx : xs = y :: l) (hy : numI y = some fl) (hl : stepsP l = some st) (hz : w.heap.size + 7 ≤ W.heap.size) (B : Nat) :
    ownPostG B (KeepsB (bs3 w)) (PRnd w) (PEnd s w) xs W .normal A W1 := by
  obtain ⟨hE, hr, bR, bK, bP, bF⟩ := h
  subst hx
  exact ⟨hr.from B, hr.keeps, Nat.le_trans hz hr.1, hE, bR, bK, bF, fl, a, m, c, st, bP, hO, hfl, .inr ⟨y, l, rfl, hy, hl⟩⟩
/-- The return, with the mark of the rounds' deferred calls. -/
theorem parse_leave {s : List UInt8} {w W : World} {fl : Int} {sa : Option Addr} {m c : Nat} {ok : Bool} {D : Nat} (tmps : Array Value) (h2 : tmps[2]?.getD undef = .pointer (some ⟨w.heap.size, 0, none⟩)) (h3 : tmps[3]?.getD undef = .pointer (some ⟨w.heap.size + 1, 0, none⟩))
    (bR : BoxL W w.heap.size [.int .i64 fl, .slice sa m c]) (bK : BoxL W (w.heap.size + 1) [.bool ok]) (hD : w.heap.size + 7 ≤ D) (hK : W.heap[D]? = some (.deferred (some [])))
    (hP : ∀ W', W.grownBy W' (some D) → PathPost s w (.returned (.tuple #[.agg #[.int .i64 fl, .slice sa m c], .bool ok])) W') :
    bodyPostM Fence.wide 3 Tryz.prog Tryz.f80 (PathPost s w) .ret { tmps := tmps, defers := [{ target := .collected D, args := #[] }] } W := by
  refine ⟨by simp, .inl ⟨_, _, rfl, run_takeDeferred hK, ?_⟩⟩
  have hg := grownBy_putObj' W D (.deferred none)
  have e1 := bR.kept hg (fun e => by injection e with e; omega)
  have e2 := bK.kept hg (fun e => by injection e with e; omega)
  have hP := hP _ hg
  generalize W.putObj D (.deferred none) = W' at *
  have y0 := e1.cell 0 _ rfl
  have y1 := e1.cell 1 _ rfl
  have y2 := e2.cell 0 _ rfl
  exact ⟨_, by simp [results, Tryz.results80, go_sem, h2, h3, y0, y1, y2], hP⟩
/-- The seven boxes, ahead of the loop. -/
theorem parse_boxes (w : World) (s : List UInt8) (W : World) (hW : ((((((w.alloc (.cells #[.int .i64 0, .slice none 0 0] 116)).alloc (.cells #[.bool false] 4)).alloc (.cells #[.int .i64 0, .slice none 0 0] 116)).alloc (.cells #[.bool true] 4)).alloc (.cells #[.string (str s)] 9)).alloc (.cells #[.string (str [47])] 9)).alloc (.cells #[.int .i64 0] 3) = W) :
    W.heap.size = w.heap.size + 7 ∧ PRnd w [] W ∧ Boxed W (w.heap.size + 4) 9 (.string (str s)) ∧ Boxed W (w.heap.size + 5) 9 (.string (str [47])) ∧ Boxed W (w.heap.size + 6) 3 (.int .i64 0) := by
  obtain ⟨w1, h1⟩ : ∃ x, x = w.alloc (.cells #[.int .i64 0, .slice none 0 0] 116) := ⟨_, rfl⟩
  obtain ⟨w2, h2⟩ : ∃ x, x = w1.alloc (.cells #[.bool false] 4) := ⟨_, rfl⟩
  obtain ⟨w3, h3⟩ : ∃ x, x = w2.alloc (.cells #[.int .i64 0, .slice none 0 0] 116) := ⟨_, rfl⟩
  obtain ⟨w4, h4⟩ : ∃ x, x = w3.alloc (.cells #[.bool true] 4) := ⟨_, rfl⟩
  obtain ⟨w5, h5⟩ : ∃ x, x = w4.alloc (.cells #[.string (str s)] 9) := ⟨_, rfl⟩
  obtain ⟨w6, h6⟩ : ∃ x, x = w5.alloc (.cells #[.string (str [47])] 9) := ⟨_, rfl⟩
  rw [← h1, ← h2, ← h3, ← h4, ← h5, ← h6] at hW
  have z1 : w1.heap.size = w.heap.size + 1 := by rw [h1]; simp
  have z2 : w2.heap.size = w.heap.size + 2 := by rw [h2, World.size_alloc, z1]
  have z3 : w3.heap.size = w.heap.size + 3 := by rw [h3, World.size_alloc, z2]
  have z4 : w4.heap.size = w.heap.size + 4 := by rw [h4, World.size_alloc, z3]
  have z5 : w5.heap.size = w.heap.size + 5 := by rw [h5, World.size_alloc, z4]
  have z6 : w6.heap.size = w.heap.size + 6 := by rw [h6, World.size_alloc, z5]
  have z7 : W.heap.size = w.heap.size + 7 := by rw [← hW, World.size_alloc, z6]
  have e1 : Ext w w1 := by rw [h1]; exact (Ext.refl w).alloc _
  have e2 : Ext w1 w2 := by rw [h2]; exact (Ext.refl w1).alloc _
  have e3 : Ext w2 w3 := by rw [h3]; exact (Ext.refl w2).alloc _
  have e4 : Ext w3 w4 := by rw [h4]; exact (Ext.refl w3).alloc _
  have e7 : Ext w4 W := by rw [← hW, h6, h5]; exact (((Ext.refl w4).alloc _).alloc _).alloc _
  have b1 := BoxL.new w [.int .i64 0, .slice none 0 0] 116
  rw [← h1] at b1
  have b2 := BoxL.new w1 [.bool false] 4
  rw [← h2, z1] at b2
  have b3 := BoxL.new w2 [.int .i64 0, .slice none 0 0] 116
  rw [← h3, z2] at b3
  have b4 := BoxL.new w3 [.bool true] 4
  rw [← h4, z3] at b4
  refine ⟨z7, ⟨by omega, ((((e1.trans e2).trans e3).trans e4).trans e7), b1.ext (((e2.trans e3).trans e4).trans e7), b2.ext ((e3.trans e4).trans e7), b4.ext e7, 0, none, 0, 0, [], b3.ext (e4.trans e7), OwnSt.nil _ _ _, by unfold isI64; omega, .inl ⟨rfl, rfl, rfl⟩⟩, ?_, ?_, ?_⟩
  · have c := Boxed.new w4 9 (.string (str s))
    rw [← h5, z4] at c
    rw [← hW, h6]; exact (c.alloc _).alloc _
  · have c := Boxed.new w5 9 (.string (str [47]))
    rw [← h6, z5] at c
    rw [← hW]; exact c.alloc _
  · have c := Boxed.new w6 3 (.int .i64 0)
    rw [hW, z6] at c
    exact c
set_option maxRecDepth 100000 in
set_option maxHeartbeats 2000000 in
theorem idParse_any (s : List UInt8) (hok : IdOk s) (w : World) (_ : KW w) :
    Calls Tryz.prog 80 #[.string (str s)] w (PathPost s w) := by
  have hfn : ∀ f, Fence.wide.fn f := fun _ => trivial
  have hdp : Fence.wide.depth.isSome = false := rfl
  have hs := hok.len
  have HOK := Lib.hid hok
  have hsz := str_size s
  clear hok
  obtain ⟨W7, hW7⟩ : ∃ x, ((((((w.alloc (.cells #[.int .i64 0, .slice none 0 0] 116)).alloc (.cells #[.bool false] 4)).alloc (.cells #[.int .i64 0, .slice none 0 0] 116)).alloc (.cells #[.bool true] 4)).alloc (.cells #[.string (str s)] 9)).alloc (.cells #[.string (str [47])] 9)).alloc (.cells #[.int .i64 0] 3) = x := ⟨_, rfl⟩
  obtain ⟨hz7, hP, b4, b5, b6⟩ := parse_boxes w s W7 hW7
  have HW7 := Lib.hid hW7
  clear hW7
  refine (callsIn_wide (n := 3)).1 ?_
  refine callsIn_of_wp_marks Tryz.func80 rfl trivial ?_ rfl
  simp only [Tryz.ntmps80, List.size_toArray, List.length_cons, List.length_nil, Nat.reduceAdd, Nat.reduceSub, Array.replicate_succ, Array.replicate_zero, List.push_toArray, List.append_toArray, List.nil_append, List.cons_append]
  gi_wp2_with (gi_at_call 82; refine (callsIn_wide.2 (splitSeq_any s _)).mono ?_; rintro e w' ⟨rfl, rfl⟩)
  rw [HW7.out]
  simp only [Nat.add_assoc, Nat.reduceAdd]
  refine wpIn_rangeFunc_ab rfl (by decide) (gf := 94) (lb := #[.pointer (some ⟨w.heap.size + 5, 0, none⟩), .pointer (some ⟨w.heap.size + 4, 0, none⟩), .pointer (some ⟨w.heap.size + 6, 0, none⟩)]) rfl trivial (enters_of Tryz.func94 (by kernel_rfl) rfl)
    (splitSeq1_stops _ _ _ _ s hs ⟨by omega, by omega⟩ W7 b4 b5 b6) (Below.refl _ _) (fun _ => rfl)
    (fun X Y ⟨u, e⟩ k o hk ho hc => ?hAb) (fun h k => KeepsB.trans h k) (fun X l o o' hl ho hc b hb o2 h2 => ?hKb)
    (PRnd w) (PEnd s w) (by rw [hz7]; exact PRnd.own w) (fun c => by rw [hz7]; exact PEnd.own s w c) (fun pre X Y h ⟨u, e⟩ => by rw [e]; exact h.set u) (fun c pre X Y h ⟨u, e⟩ => by rw [e]; exact h.set u) hP
    (fun x => { tmps := #[.string (str s), undef, .pointer (some ⟨w.heap.size, 0, none⟩), .pointer (some ⟨w.heap.size + 1, 0, none⟩), .pointer (some ⟨w.heap.size + 2, 0, none⟩), .pointer (some ⟨w.heap.size + 3, 0, none⟩), .string (str x), undef, undef, .string (str s),
      .func (.func 94) #[] #[.pointer (some ⟨w.heap.size + 5, 0, none⟩), .pointer (some ⟨w.heap.size + 4, 0, none⟩), .pointer (some ⟨w.heap.size + 6, 0, none⟩)], .string (str x), undef, undef, undef, undef, undef, undef, undef, undef, undef, undef, undef, undef, undef, undef, undef, undef, undef, undef, undef, undef, undef, undef, undef, undef, undef, undef, undef], defers := [] }) ?assign ?body ?done ?stop
  case hAb => rw [e, Below.heap_setCell _ _ _ _ (by show k ≠ w.heap.size + 4; omega)]; exact ho
  case hKb =>
    have hlt : b < w.heap.size + 7 := by
      unfold bs3 at hb
      simp only [List.mem_cons, List.not_mem_nil, or_false] at hb
      omega
    exact (World.putObj_heap_other (by omega)).trans h2
  case assign =>
    intro l x W K hK
    gi_wp2
    exact hK
  case body =>
    rintro l pre x W ⟨hBW, hE, bR, bK, bF, fl, a, m, c, st, bP, hO, hfl, hcase⟩ hnx
    rw [hz7]
    obtain ⟨i0, hi, hz0, hz1, hz2⟩ := info_parts info_step
    have hln := next_len hnx
    have HN := Lib.hid hnx
    clear b4 b5 b6 hP hnx
    have H0 := Lib.hid (show PBox w W W (.int .i64 fl) (.slice a m c) pre.isEmpty from ⟨hE, Rnd.refl _ _, bR, bK, bP, bF⟩)
    have HO := Lib.hid hO
    have HBW := Lib.hid hBW
    clear hE bR bK bF bP hO hBW
    rcases hcase with ⟨rfl, rfl, rfl⟩ | ⟨y, l0, rfl, hy, hl0⟩
    · have HNO := Lib.hid (show NumOk x by
        obtain ⟨post, hp⟩ := HN.out
        have := HOK.out.num
        rw [hp] at this
        exact this)
      have t0 := H0.out.2.2.2.2.2.cell 0 _ rfl
      have t1 := H0.out.2.2.2.2.2.free 0
      have H1 := Lib.hid (H0.out.first false)
      have HO1 := Lib.hid (HO.out.kept (grown_set W (w.heap.size + 3) 0 (.bool false)) (fun b e => by injection e with e; omega))
      clear H0 HO
      gi_wp2_with fail
      generalize W.setCell ⟨w.heap.size + 3, 0, none⟩ (.bool false) = W1 at *
      clear t0 t1
      refine (CallsIn.inRound l (callsIn_wide.2 (idNumber_any x (by omega) HNO.out W1))).mono ?_
      rintro e w2 ⟨rfl, hE2⟩
      have H2 := Lib.hid (H1.out.ext hE2)
      have HO2 := Lib.hid (HO1.out.ext hE2)
      have p1 := H2.out.2.2.2.2.1.cell 0 _ rfl
      have p2 := H2.out.2.2.2.2.1.free 0
      have H3 := Lib.hid (H2.out.num (.int .i64 (numV x)))
      have HO3 := Lib.hid (HO2.out.kept (grown_set w2 (w.heap.size + 2) 0 (.int .i64 (numV x))) (fun b e => by injection e with e; omega))
      have q0 := H3.out.2.2.2.2.1.cell 0 _ rfl
      have HI := Lib.hid (numV_isI64 x)
      have HV := Lib.hid (@numV_eq x)
      have HVS : Hid (numV x ≠ -1 → numI x = some (numV x)) := Lib.hid (fun h => by
        cases e : numI x with
        | none => exact absurd (numV_none e) h
        | some n => rw [numV_some e])
      clear hE2 H1 HO1 H2 HO2
      have r0 := H3.out.2.2.1.cell 0 _ rfl
      have r1 := H3.out.2.2.1.cell 1 _ rfl
      have r2 := H3.out.2.2.1.free 0
      have r3 := H3.out.2.2.1.free 1
      have k0 := H3.out.2.2.2.1.cell 0 _ rfl
      have k1 := H3.out.2.2.2.1.free 0
      generalize numV x = NV at *
      by_cases hn : NV = -1
      · have HZ := Lib.hid (parse_bad_num HN.out (HV.out.1 hn))
        have ht : (NV == -1) = true := by simp [hn]
        clear hn HV HVS HI hfl
        gi_wp2_with fail
        exact round_ret H3.out HZ.out _
      · have HZ := Lib.hid (HVS.out hn)
        have ht : (NV == -1) = false := by simp [hn]
        clear hn HV HVS
        gi_wp2_with fail
        exact round_on H3.out HO3.out HI.out rfl HZ.out rfl HBW.out _
    · have t0 := H0.out.2.2.2.2.2.cell 0 _ rfl
      simp only [List.isEmpty_cons] at t0 H0
      have HSO := Lib.hid (show StpOk x by
        obtain ⟨post, hp⟩ := HN.out
        exact HOK.out.part (by rw [hp]; simp) (by have := hln.1; omega))
      have HL := Lib.hid (stepsP_len hl0)
      have hsl : st.length ≤ 1000000 := by have := HL.out; have := hln.2; simp at this; omega
      have HY := Lib.hid hy
      have HL0 := Lib.hid hl0
      have HF := Lib.hid hfl
      clear hy hl0 hfl
      gi_wp2_with fail
      refine (CallsIn.inRound l (callsIn_wide.2 (idStep_any x HSO.out W))).mono ?_
      rintro e w2 ⟨xx, hwf, rfl, hor, hE2⟩
      have H2 := Lib.hid (H0.out.ext hE2)
      have HO2 := Lib.hid (HO.out.ext hE2)
      have HWF := Lib.hid hwf
      have HOR := Lib.hid hor
      have hE3 := (Ext.refl w2).alloc (.cells #[.string (str xx.name), .int .i64 xx.place] 125)
      have H3 := Lib.hid (H2.out.ext hE3)
      have HO3 := Lib.hid (HO2.out.ext hE3)
      have HXB := Lib.hid (BoxL.new w2 [.string (str xx.name), .int .i64 xx.place] 125)
      clear hE2 hwf hor H2 HO2 H0 HO hE3 t0

      have HXB := Lib.hid (show BoxL (w2.alloc (.cells #[.string (str xx.name), .int .i64 xx.place] 125)) w2.heap.size [.string (str xx.name), .int .i64 xx.place] from HXB.out)
      cases hsx : stepP x with
      | none =>
        have HZ := Lib.hid (parse_bad_step HN.out hsx)
        clear hsx
        have r0 := H3.out.2.2.1.cell 0 _ rfl
        have r1 := H3.out.2.2.1.cell 1 _ rfl
        have r2 := H3.out.2.2.1.free 0
        have r3 := H3.out.2.2.1.free 1
        have k0 := H3.out.2.2.2.1.cell 0 _ rfl
        have k1 := H3.out.2.2.2.1.free 0
        gi_wp2_with fail
        exact round_ret H3.out HZ.out _
      | some sx =>
        have hxs : xx = sx := by
          rcases HOR.out with h | h
          · rw [hsx] at h; cases h
          · rw [hsx] at h; injection h with h; exact h.symm
        subst hxs
        have HSX := Lib.hid (show stepsP (l0 ++ [x]) = some (st ++ [xx]) by rw [stepsP_snoc, HL0.out, Option.bind_some, hsx]; rfl)
        clear hsx HOR
        have p1 := H3.out.2.2.2.2.1.cell 1 _ rfl
        have p2 := H3.out.2.2.2.2.1.free 1
        have x0 := HXB.out.cell 0 _ rfl
        have x1 := HXB.out.cell 1 _ rfl
        have hE4 := (Ext.refl (w2.alloc (.cells #[.string (str xx.name), .int .i64 xx.place] 125))).alloc (.cells #[.string (str xx.name), .int .i64 xx.place] 125)
        have H4 := Lib.hid (H3.out.ext hE4)
        have HO4 := Lib.hid (HO3.out.ext hE4)
        have hNB := BoxL.new (w2.alloc (.cells #[.string (str xx.name), .int .i64 xx.place] 125)) [.string (str xx.name), .int .i64 xx.place] 125
        rw [show (w2.alloc (.cells #[.string (str xx.name), .int .i64 xx.place] 125)).heap.size = w2.heap.size + 1 by simp] at hNB
        have HNC := Lib.hid (box_add hNB)
        have hzl := H4.out.1.size
        have HZ7 : Hid (w.heap.size + 7 ≤ ((w2.alloc (.cells #[.string (str xx.name), .int .i64 xx.place] 125)).alloc (.cells #[.string (str xx.name), .int .i64 xx.place] 125)).heap.size) := Lib.hid (by
          have := H4.out.2.1.1
          have := HBW.out
          omega)
        clear H3 HO3 hE4 hNB hzl
        gi_wp2_with (gi_at_builtin; refine wpListIn_append_own _ rfl _ _ 114 rfl (w.heap.size + 7) 125 i0 (.agg #[.string { data := #[] }, .int .i64 0]) 2 24 Tryz.underlying114 hi hz0 hz1 hz2 rfl (by decide) _ _ _ rfl HO4.out.1 ⟨w2.heap.size + 1, 0, none⟩ 1 1 (stpCells xx) rfl rfl HNC.out (by simp [stpCells, Value.oneCell']) (by unfold maxLen; omega) (by omega) HZ7.out ?_; intro v' w5 hown' hgrow _; obtain ⟨g', cap', rfl⟩ := ownsRow_succ hown'; have H5 := Lib.hid (H4.out.grown hgrow HO4.out.cellsBlock); have HO5 := Lib.hid (OwnSt.snoc hown' HO4.out.2 HWF.out); have q1 := H5.out.2.2.2.2.1.cell 1 _ rfl; have q2 := H5.out.2.2.2.2.1.free 1; clear hown' hgrow H4 HO4)
        have H6 := Lib.hid (H5.out.steps (.slice (some ⟨g', 0, none⟩) (st.length + 1) cap'))
        have HO6 := Lib.hid (HO5.out.kept (grown_set w5 (w.heap.size + 2) 1 (.slice (some ⟨g', 0, none⟩) (st.length + 1) cap')) (fun b e => by injection e with e; omega))
        exact round_on H6.out HO6.out HF.out rfl HY.out HSX.out HBW.out _
  case done =>
    rintro D xs W hD rfl ⟨hBW, hE, bR, bK, bF, fl, a, m, c, st, bP, hO, hfl, hcase⟩ hK
    rw [hz7] at hD
    rcases hcase with ⟨h, -, -⟩ | ⟨y, l0, hsp, hy, hl0⟩
    · exact absurd h (split47_ne s)
    have HG := Lib.hid (parse_good hsp hy hl0)
    have H0 := Lib.hid (show PBox w W W (.int .i64 fl) (.slice a m c) (split47 s).isEmpty from ⟨hE, Rnd.refl _ _, bR, bK, bP, bF⟩)
    have HO := Lib.hid hO
    have HF := Lib.hid hfl
    have HK := Lib.hid hK
    clear hE bR bK bF bP hO hBW b4 b5 b6 hP hsp hy hl0 hfl hK
    have r0 := H0.out.2.2.1.cell 0 _ rfl
    have r1 := H0.out.2.2.1.cell 1 _ rfl
    have r2 := H0.out.2.2.1.free 0
    have r3 := H0.out.2.2.1.free 1
    have k0 := H0.out.2.2.2.1.cell 0 _ rfl
    have k1 := H0.out.2.2.2.1.free 0
    have p0 := H0.out.2.2.2.2.1.cell 0 _ rfl
    have p1 := H0.out.2.2.2.2.1.cell 1 _ rfl
    by_cases hl : s.length ≤ 400
    · have hl' : decide ((400 : Int) < (s.length : Int)) = false := by simp; omega
      have HG := Lib.hid (show parseP s = some ⟨fl, st⟩ by rw [HG.out, if_pos hl])
      clear hl
      gi_wp2
      have hs2 := set2_facts (x := .int .i64 fl) (y := .slice a m c) H0.out.1 H0.out.2.2.1 (Nat.le_refl _)
      have hk2 := set2_far (x := .int .i64 fl) (y := .slice a m c) (b := w.heap.size) H0.out.2.2.2.1 (by omega)
      have hr2 : Rnd (bs3 w) W (set2W W w.heap.size (.int .i64 fl) (.slice a m c)) := (Rnd.set _ _ _ _ (not_bs3 (.inl (by omega)))).trans (Rnd.set _ _ _ _ (not_bs3 (.inl (by omega))))
      have hO2 := (HO.out.kept (grown_set W w.heap.size 0 (.int .i64 fl)) (fun b e => by injection e with e; omega)).kept (grown_set _ w.heap.size 1 (.slice a m c)) (fun b e => by injection e with e; omega)
      change bodyPostM _ _ _ _ _ _ _ ((set2W W w.heap.size (.int .i64 fl) (.slice a m c)).setCell ⟨w.heap.size + 1, 0, none⟩ (.bool true))
      refine parse_leave (fl := fl) (sa := a) (m := m) (c := c) (ok := true) _ rfl rfl (hs2.2.kept (grown_set _ _ _ _) (by simp)) (hk2.set 0 (by simp) (.bool true)) hD ((hr2.trans (Rnd.set _ _ _ _ (not_bs3 (.inl (by omega))))).2 _ _ HK.out (.inr rfl)) (fun W' hg => ?_)
      have hO3 := hO2.kept (grown_set (set2W W w.heap.size (.int .i64 fl) (.slice a m c)) (w.heap.size + 1) 0 (.bool true)) (fun b e => by injection e with e; omega)
      have hKF := (hr2.trans (Rnd.set _ (w.heap.size + 1) 0 (.bool true) (not_bs3 (.inl (by omega))))).2 _ _ HK.out (.inr rfl)
      have hO4 := hO3.far hg (fun b e => by injection e with e; subst e; exact ⟨_, hKF, rfl⟩)
      refine ⟨.agg #[.int .i64 fl, .slice a m c], by rw [HG.out]; rfl, (hs2.1.setCell (p := ⟨w.heap.size + 1, 0, none⟩) (by show w.heap.size ≤ w.heap.size + 1; omega) _).grown hg (fun k e => by injection e with e; omega), (fun h => by rw [HG.out] at h; cases h), fun p hp => ?_⟩
      rw [HG.out] at hp
      injection hp with hp
      subst hp
      exact ⟨a, m, c, rfl, hO4.mono (by omega), HF.out⟩
    · have hl' : decide ((400 : Int) < (s.length : Int)) = true := by simp; omega
      have HG := Lib.hid (show parseP s = none by rw [HG.out, if_neg hl])
      clear hl
      gi_wp2
      have hs2 := set2_facts (x := .int .i64 0) (y := .slice none 0 0) H0.out.1 H0.out.2.2.1 (Nat.le_refl _)
      have hk2 := set2_far (x := .int .i64 0) (y := .slice none 0 0) (b := w.heap.size) H0.out.2.2.2.1 (by omega)
      have hr2 : Rnd (bs3 w) W (set2W W w.heap.size (.int .i64 0) (.slice none 0 0)) := (Rnd.set _ _ _ _ (not_bs3 (.inl (by omega)))).trans (Rnd.set _ _ _ _ (not_bs3 (.inl (by omega))))
      change bodyPostM _ _ _ _ _ _ _ ((set2W W w.heap.size (.int .i64 0) (.slice none 0 0)).setCell ⟨w.heap.size + 1, 0, none⟩ (.bool false))
      refine parse_leave (fl := 0) (sa := none) (m := 0) (c := 0) (ok := false) _ rfl rfl (hs2.2.kept (grown_set _ _ _ _) (by simp)) (hk2.set 0 (by simp) (.bool false)) hD ((hr2.trans (Rnd.set _ _ _ _ (not_bs3 (.inl (by omega))))).2 _ _ HK.out (.inr rfl)) (fun W' hg => ?_)
      exact ⟨.agg #[.int .i64 0, .slice none 0 0], by rw [HG.out]; rfl, (hs2.1.setCell (p := ⟨w.heap.size + 1, 0, none⟩) (by show w.heap.size ≤ w.heap.size + 1; omega) _).grown hg (fun k e => by injection e with e; omega), fun _ => rfl, fun p hp => by rw [HG.out] at hp; cases hp⟩
  case stop =>
    rintro D cd pre W hD - ⟨rfl, hE, bR, bK, hp⟩ hK
    rw [hz7] at hD
    have HG := Lib.hid hp
    clear hp b4 b5 b6 hP
    gi_wp2
    refine parse_leave (fl := 0) (sa := none) (m := 0) (c := 0) (ok := false) _ rfl rfl bR bK hD hK (fun W' hg => ?_)
    exact ⟨.agg #[.int .i64 0, .slice none 0 0], by rw [HG.out]; rfl, hE.grown hg (fun k e => by injection e with e; omega), fun _ => rfl, fun p hp => by rw [HG.out] at hp; cases hp⟩
end Go.Proofs.YtbciamploeejiaaGreat

open Go.RowKit Go.Shelf
namespace Go.Proofs.YtbciamploeejiaaGreat
open Go Go.Proofs Fm

theorem _root_.Fm.BoxL.same {w w' : World} {b : Nat} {vs : List Value} (h : BoxL w b vs) (e : w'.heap[b]? = w.heap[b]?) : BoxL w' b vs := by
  refine ⟨?_, fun j u hu => (World.cell?_of_block (a := ⟨b, j, none⟩) e).trans (h.cell j u hu), fun j => (World.frozen?_of_block (a := ⟨b, j, none⟩) e).trans (h.free j)⟩
  have := h.lt
  rw [Array.getElem?_eq_getElem this] at e
  exact (Array.getElem?_eq_some_iff.1 e).1
end Go.Proofs.YtbciamploeejiaaGreat

open Go.RowKit Go.Shelf
namespace Go.Proofs.YtbciamploeejiaaGreat
open Go Go.Proofs Fm

theorem _root_.Fm.OwnSt.len {e : TypeId} {base : Nat} {w : World} {a : Option Addr} {n cap : Nat} {l : List Stp} (h : OwnSt e base w (.slice a n cap) l) : n = l.length := by
  obtain ⟨a', c', e⟩ := h.slice
  cases e; rfl
end Go.Proofs.YtbciamploeejiaaGreat

open Go.RowKit Go.Shelf
namespace Go.Proofs.YtbciamploeejiaaGreat
open Go Go.Proofs Fm

/-- The path as Parse hands it back: of what is none, the one without steps. -/
def pthOr (s : List UInt8) : Pth := (parseP s).getD ⟨0, []⟩
/-- Its value: in memory of one's own. -/
theorem PathPost.path {s : List UInt8} {w : World} {e : Ending} {w' : World} (h : PathPost s w e w') :
    ∃ v, e = .returned (.tuple #[v, .bool (parseP s).isSome]) ∧ Ext w w' ∧ PthOwn 125 w.heap.size w' (pthOr s) v := by
  obtain ⟨v, h1, h2, h3, h4⟩ := h
  refine ⟨v, h1, h2, ?_⟩
  unfold pthOr
  cases hp : parseP s with
  | none =>
    rw [h3 hp]
    exact ⟨none, 0, 0, rfl, OwnSt.nil _ _ _, by show isI64 0; unfold isI64; omega⟩
  | some p => exact h4 p hp
theorem PthOwn.kept {e : TypeId} {base : Nat} {w w' : World} {p : Pth} {v : Value} {row : Option Nat} (h : PthOwn e base w p v) (hg : w.grownBy w' row) (hr : ∀ b, row = some b → b < base) : PthOwn e base w' p v := by
  obtain ⟨a, m, c, h1, h2, h3⟩ := h
  exact ⟨a, m, c, h1, h2.kept hg hr, h3⟩
theorem PthOwn.mono {e : TypeId} {base base' : Nat} {w : World} {p : Pth} {v : Value} (h : PthOwn e base w p v) (hb : base' ≤ base) : PthOwn e base' w p v := by
  obtain ⟨a, m, c, h1, h2, h3⟩ := h
  exact ⟨a, m, c, h1, h2.mono hb, h3⟩
end Go.Proofs.YtbciamploeejiaaGreat

open Go.RowKit Go.Shelf
namespace Go.Proofs.YtbciamploeejiaaGreat
open Go Go.Proofs Fm

theorem cmpInt_any (x y : Int) (w : World) : Calls Tryz.prog 78 #[.int .i64 x, .int .i64 y] w fun e w' => e = .returned (.int .i64 (cmpI x y)) ∧ w = w' :=
  (Tryz.cmp_Compare_int x y w).mono fun e w' ⟨h1, h2⟩ => ⟨by rw [h1]; unfold Lib.compareInt cmpI; rfl, h2.symm⟩
set_option maxHeartbeats 1000000 in
theorem cmpOr_any (b : Nat) (x y : Int) (w : World) (h0 : w.cell? ⟨b, 0, none⟩ = some (.int .i64 x)) (h1 : w.cell? ⟨b, 1, none⟩ = some (.int .i64 y)) :
    Calls Tryz.prog 77 #[.slice (some ⟨b, 0, none⟩) 2 2] w fun e w' => e = .returned (.int .i64 (orI x y)) ∧ w = w' := by
  have HX := Lib.hid (show orI x y = if x = 0 then y else x from rfl)
  by_cases hx : x = 0
  · have HY := Lib.hid (show orI x y = y by rw [HX.out, if_pos hx])
    have ht : (x != 0) = false := by simp [hx]
    clear hx
    by_cases hy : y = 0
    · have HY := Lib.hid (show orI x y = 0 by rw [HY.out, hy])
      have hu : (y != 0) = false := by simp [hy]
      clear hy
      go_enter Tryz.func77, Tryz.ntmps77
      go_wp2
      refine wp_loop_rounds 3 ?_
      rw [rounds_succ]
      go_wp2
      rw [rounds_succ]
      go_wp2
      rw [rounds_succ]
      go_wp2
      go_ret
      exact ⟨by rw [HY.out]; rfl, rfl⟩
    · have hu : (y != 0) = true := by simp [hy]
      clear hy
      go_enter Tryz.func77, Tryz.ntmps77
      go_wp2
      refine wp_loop_rounds 2 ?_
      rw [rounds_succ]
      go_wp2
      rw [rounds_succ]
      go_wp2
      go_ret
      exact ⟨by rw [HY.out]; rfl, rfl⟩
  · have HY := Lib.hid (show orI x y = x by rw [HX.out, if_neg hx])
    have ht : (x != 0) = true := by simp [hx]
    clear hx
    go_enter Tryz.func77, Tryz.ntmps77
    go_wp2
    refine wp_loop_rounds 1 ?_
    rw [rounds_succ]
    go_wp2
    go_ret
    exact ⟨by rw [HY.out]; rfl, rfl⟩
theorem bytesLt (x y : List UInt8) : Op.bytesLess (str x).toList (str y).toList = decide (x < y) := by
  rw [str_toList, str_toList]
  induction x generalizing y with
  | nil => cases y <;> simp [Op.bytesLess]
  | cons a x ih =>
    cases y with
    | nil => simp [Op.bytesLess]
    | cons b y =>
      rw [Op.bytesLess, ih]
      by_cases h2 : a = b <;> simp [List.cons_lt_cons_iff, h2]
set_option maxHeartbeats 1000000 in
theorem cmpStr_any (x y : List UInt8) (w : World) : Calls Tryz.prog 104 #[.string (str x), .string (str y)] w fun e w' => e = .returned (.int .i64 (cmpB x y)) ∧ w = w' := by
  have hN : ∀ (s : List UInt8) (w : World), Calls Tryz.prog 122 #[.string (str s)] w fun e w' => e = .returned (.bool false) ∧ w = w' := fun s w => by
    go_enter Tryz.func122, Tryz.ntmps122
    go_wp2
    go_ret
    exact ⟨rfl, rfl⟩
  have hN := Lib.hid hN
  have HX := Lib.hid (show cmpB x y = if x < y then -1 else if y < x then 1 else 0 from rfl)
  have eL := bytesLt x y
  have eE : ((str x).toList == (str y).toList) = decide (x = y) := str_beq _ _
  by_cases h1 : x < y
  · have HY := Lib.hid (show cmpB x y = -1 by rw [HX.out, if_pos h1])
    have fL : Op.bytesLess (str x).toList (str y).toList = true := by rw [eL]; simpa using h1
    clear eL eE h1
    go_enter Tryz.func104, Tryz.ntmps104
    go_wp2_with (go_at_call 122; refine (hN.out _ _).mono ?_; rintro e w1 ⟨rfl, rfl⟩)
    go_ret
    exact ⟨by rw [HY.out]; rfl, rfl⟩
  · have fL : Op.bytesLess (str x).toList (str y).toList = false := by rw [eL]; simpa using h1
    by_cases h2 : x = y
    · have HY := Lib.hid (show cmpB x y = 0 by rw [HX.out, if_neg h1, if_neg (by rw [h2] at h1 ⊢; exact h1)])
      have fE : ((str x).toList == (str y).toList) = true := by rw [eE]; simpa using h2
      clear eL eE h1 h2
      go_enter Tryz.func104, Tryz.ntmps104
      go_wp2_with (go_at_call 122; refine (hN.out _ _).mono ?_; rintro e w1 ⟨rfl, rfl⟩)
      go_ret
      exact ⟨by rw [HY.out]; rfl, rfl⟩
    · have h3 : y < x := by
        rcases lt_tri x y with h | h | h
        · exact absurd h h1
        · exact absurd h h2
        · exact h
      have HY := Lib.hid (show cmpB x y = 1 by rw [HX.out, if_neg h1, if_pos h3])
      have fE : ((str x).toList == (str y).toList) = false := by rw [eE]; simpa using h2
      clear eL eE h1 h2 h3
      go_enter Tryz.func104, Tryz.ntmps104
      go_wp2_with (go_at_call 122; refine (hN.out _ _).mono ?_; rintro e w1 ⟨rfl, rfl⟩)
      go_ret
      exact ⟨by rw [HY.out]; rfl, rfl⟩
theorem cmpOr_new (W : World) (x y : Int) (W' : World) (hE : Ext (W.alloc (.cells #[.int .i64 x, .int .i64 y] 3)) W') :
    Calls Tryz.prog 77 #[.slice (some ⟨W.heap.size, 0, none⟩) 2 2] W' fun e w' => e = .returned (.int .i64 (orI x y)) ∧ W' = w' := by
  have hb := (BoxL.new W [.int .i64 x, .int .i64 y] 3).ext hE
  exact cmpOr_any _ x y W' (hb.cell 0 _ rfl) (hb.cell 1 _ rfl)
set_option maxRecDepth 100000 in
set_option maxHeartbeats 2000000 in
theorem thanStep_any (x y : Stp) (w : World) :
    Calls Tryz.prog 103 #[.agg #[.string (str x.name), .int .i64 x.place], .agg #[.string (str y.name), .int .i64 y.place]] w fun e w' => e = .returned (.int .i64 (cmpS x y)) ∧ Ext w w' := by
  have HX := Lib.hid (show cmpS x y = orI (cmpB x.name y.name) (cmpI x.place y.place) from rfl)
  have hb2 := BoxL.new (w.alloc (.cells #[.string (str x.name), .int .i64 x.place] 125)) [.string (str y.name), .int .i64 y.place] 125
  have hb1 := (BoxL.new w [.string (str x.name), .int .i64 x.place] 125).ext ((Ext.refl _).alloc (.cells #[.string (str y.name), .int .i64 y.place] 125))
  have hE : Ext w ((w.alloc (.cells #[.string (str x.name), .int .i64 x.place] 125)).alloc (.cells #[.string (str y.name), .int .i64 y.place] 125)) := ((Ext.refl w).alloc _).alloc _
  rw [show (w.alloc (.cells #[.string (str x.name), .int .i64 x.place] 125)).heap.size = w.heap.size + 1 by simp] at hb2
  go_enter Tryz.func103, Tryz.ntmps103
  go_upto_region 1 with (fail)
  generalize (w.alloc (.cells #[.string (str x.name), .int .i64 x.place] 125)).alloc (.cells #[.string (str y.name), .int .i64 y.place] 125) = W1 at *
  have hSC : ∀ w', Ext W1 w' → (w'.cell? ⟨w.heap.size, 0, none⟩ = some (.string (str x.name)) ∧ w'.cell? ⟨w.heap.size, 1, none⟩ = some (.int .i64 x.place) ∧ w'.cell? ⟨w.heap.size + 1, 0, none⟩ = some (.string (str y.name)) ∧ w'.cell? ⟨w.heap.size + 1, 1, none⟩ = some (.int .i64 y.place)) := fun w' h =>
    ⟨(hb1.ext h).cell 0 _ rfl, (hb1.ext h).cell 1 _ rfl, (hb2.ext h).cell 0 _ rfl, (hb2.ext h).cell 1 _ rfl⟩
  have HSC := Lib.hid hSC
  have HE := Lib.hid hE
  have hz := hb2.lt
  clear hb1 hb2 hSC hE
  go_region_held3 (fun w' => w'.cell? ⟨w.heap.size, 0, none⟩ = some (.string (str x.name)) ∧ w'.cell? ⟨w.heap.size, 1, none⟩ = some (.int .i64 x.place) ∧ w'.cell? ⟨w.heap.size + 1, 0, none⟩ = some (.string (str y.name)) ∧ w'.cell? ⟨w.heap.size + 1, 1, none⟩ = some (.int .i64 y.place))
    ((refine HSC.out _ ?_; repeat (first | exact Ext.refl _ | refine Ext.drew ?_ | refine Ext.alloc ?_ _)))
    (first
      | (go_at_call 104; refine (cmpStr_any x.name y.name _).mono ?_; rintro e w4 ⟨rfl, rfl⟩)
      | (go_at_call 78; refine (cmpInt_any x.place y.place _).mono ?_; rintro e w4 ⟨rfl, rfl⟩)
      | (go_at_call 77; refine (cmpOr_new W1 _ _ _ (Ext.refl _).drew).mono ?_; rintro e w4 ⟨rfl, rfl⟩))
  all_goals go_wp2
  all_goals go_ret
  all_goals exact ⟨by rw [HX.out]; rfl, HE.out.trans ((Ext.refl W1).alloc _).drew⟩
theorem cmpL_lt {l m : List Stp} {k : Nat} (h1 : k < l.length) (h2 : k < m.length) : cmpL (l.drop k) (m.drop k) = orI (cmpS l[k] m[k]) (cmpL (l.drop (k + 1)) (m.drop (k + 1))) := by
  rw [List.drop_eq_getElem_cons h1, List.drop_eq_getElem_cons h2]; rfl
theorem cmpL_long {l m : List Stp} {k : Nat} (h1 : k < l.length) (h2 : m.length ≤ k) : cmpL (l.drop k) (m.drop k) = 1 := by
  rw [List.drop_eq_getElem_cons h1, List.drop_eq_nil_of_le h2]; rfl
theorem cmpL_short {l m : List Stp} {k : Nat} (h1 : l.length ≤ k) (h2 : k < m.length) : cmpL (l.drop k) (m.drop k) = -1 := by
  rw [List.drop_eq_nil_of_le h1, List.drop_eq_getElem_cons h2]; rfl
theorem cmpL_both {l m : List Stp} {k : Nat} (h1 : l.length ≤ k) (h2 : m.length ≤ k) : cmpL (l.drop k) (m.drop k) = 0 := by
  rw [List.drop_eq_nil_of_le h1, List.drop_eq_nil_of_le h2]; rfl
set_option maxRecDepth 100000 in
set_option maxHeartbeats 2000000 in
theorem compareSteps_any (l m : List Stp) (w : World) (v v' : Value) (h : stpE.Row w l v) (h' : stpE.Row w m v') :
    Calls Tryz.prog 105 #[v, v', .func (.func 103) #[] #[]] w fun e w' => e = .returned (.int .i64 (cmpL l m)) ∧ Ext w w' := by
  obtain ⟨a, c, rfl, hc1, hc2⟩ := h.slice
  obtain ⟨a', c', rfl, hc1', hc2'⟩ := h'.slice
  have HR := Lib.hid h
  have HR' := Lib.hid h'
  clear h h'
  go_enter Tryz.func105, Tryz.ntmps105
  go_wp2_with fail
  go_loopw [13] (fun i wr => ∃ k : Nat, k ≤ l.length ∧ i = .int .i64 k ∧ Hid (cmpL l m = cmpL (l.drop k) (m.drop k)) ∧ Hid (Ext w wr)) (fun i _ => l.length - (intOf i).toNat)
  case atStart => exact ⟨0, by omega, rfl, Lib.hid rfl, Lib.hid (Ext.refl w)⟩
  case round =>
    obtain ⟨k, hk, rfl, HL, HE⟩ := hrel
    by_cases hlt : k < l.length
    · obtain ⟨b, off, rfl, hb, c0, c1, hs⟩ := stp_at HR.out HE.out k hlt
      by_cases hlt' : k < m.length
      · have HL := Lib.hid (HL.out.trans (cmpL_lt hlt hlt'))
        have hE1 := (Ext.refl wr).alloc (.cells #[.string (str l[k].name), .int .i64 l[k].place] 125)
        have hb1 := BoxL.new wr [.string (str l[k].name), .int .i64 l[k].place] 125
        obtain ⟨b', off', rfl, hb', d0, d1, hs'⟩ := stp_at HR'.out (HE.out.trans hE1) k hlt'
        have hE2 := hE1.alloc (.cells #[.string (str m[k].name), .int .i64 m[k].place] 125)
        have hb2 := BoxL.new (wr.alloc (.cells #[.string (str l[k].name), .int .i64 l[k].place] 125)) [.string (str m[k].name), .int .i64 m[k].place] 125
        have hb1 := hb1.ext ((Ext.refl (wr.alloc (.cells #[.string (str l[k].name), .int .i64 l[k].place] 125))).alloc (.cells #[.string (str m[k].name), .int .i64 m[k].place] 125))
        rw [show (wr.alloc (.cells #[.string (str l[k].name), .int .i64 l[k].place] 125)).heap.size = wr.heap.size + 1 by simp] at hb2
        have HE2 := Lib.hid (HE.out.trans hE2)
        have HC := Lib.hid (thanStep_any l[k] m[k])
        clear hE1 hE2 hs hs' HE
        generalize l[k] = x at *
        generalize m[k] = y at *
        go_upto_region 7 with (fail)
        generalize (wr.alloc (.cells #[.string (str x.name), .int .i64 x.place] 125)).alloc (.cells #[.string (str y.name), .int .i64 y.place] 125) = W2 at *
        have p0 := hb1.cell 0 _ rfl
        have p1 := hb1.cell 1 _ rfl
        have p2 := hb2.cell 0 _ rfl
        have p3 := hb2.cell 1 _ rfl
        clear hb1 hb2 c0 c1 d0 d1
        go_wp2_with fail
        refine (HC.out W2).mono ?_
        rintro e w3 ⟨rfl, hE3⟩
        have HE3 := Lib.hid (HE2.out.trans hE3)
        clear hE3 HC p0 p1 p2 p3
        generalize cmpS x y = r at *
        by_cases hr : r = 0
        · have HL := Lib.hid (show cmpL l m = cmpL (l.drop (k + 1)) (m.drop (k + 1)) by rw [HL.out, hr]; rfl)
          have ht : (r != 0) = false := by simp [hr]
          clear hr
          go_wp2_with fail
          go_roundw
          case rel => exact ⟨k + 1, by omega, by go_num, HL, HE3⟩
          case measure => simp [intOf]; omega
        · have HL := Lib.hid (show cmpL l m = r by rw [HL.out]; unfold orI; rw [if_neg hr])
          have ht : (r != 0) = true := by simp [hr]
          clear hr
          go_wp2_with fail
          go_ret
          exact ⟨by rw [HL.out]; rfl, HE3.out⟩
      · have HL := Lib.hid (HL.out.trans (cmpL_long hlt (by omega)))
        have HE2 := Lib.hid (HE.out.alloc (.cells #[.string (str l[k].name), .int .i64 l[k].place] 125))
        have hge : decide ((m.length : Int) ≤ (k : Int)) = true := by simp; omega
        clear hs
        generalize l[k] = x at *
        go_wp2_with fail
        go_ret
        exact ⟨by rw [HL.out]; rfl, HE2.out⟩
    · by_cases hlt' : k < m.length
      · have HL := Lib.hid (HL.out.trans (cmpL_short (by omega) hlt'))
        have hll : decide ((l.length : Int) < (m.length : Int)) = true := by simp; omega
        have hll2 : decide (l.length < m.length) = true := by simp; omega
        go_wp2_with fail
        go_ret
        exact ⟨by rw [HL.out]; rfl, HE.out⟩
      · have HL := Lib.hid (HL.out.trans (cmpL_both (by omega) (by omega)))
        have hll : decide ((l.length : Int) < (m.length : Int)) = false := by simp; omega
        have hll2 : decide (l.length < m.length) = false := by simp; omega
        go_wp2_with fail
        go_ret
        exact ⟨by rw [HL.out]; rfl, HE.out⟩
set_option maxRecDepth 100000 in
set_option maxHeartbeats 2000000 in
theorem idThan_any (p q : Pth) (w : World) (v v' : Value) (h : PthV w p v) (h' : PthV w q v') :
    Calls Tryz.prog 93 #[v, v'] w fun e w' => e = .returned (.int .i64 (thanP p q)) ∧ Ext w w' := by
  have HX := Lib.hid (show thanP p q = orI (cmpI p.flow q.flow) (cmpL p.steps q.steps) from rfl)
  obtain ⟨a, m, c, rfl, hr, hi⟩ := h
  obtain ⟨a', m', c', rfl, hr', hi'⟩ := h'
  have hb2 := BoxL.new (w.alloc (.cells #[.int .i64 p.flow, .slice a m c] 129)) [.int .i64 q.flow, .slice a' m' c'] 129
  have hb1 := (BoxL.new w [.int .i64 p.flow, .slice a m c] 129).ext ((Ext.refl _).alloc (.cells #[.int .i64 q.flow, .slice a' m' c'] 129))
  have hE : Ext w ((w.alloc (.cells #[.int .i64 p.flow, .slice a m c] 129)).alloc (.cells #[.int .i64 q.flow, .slice a' m' c'] 129)) := ((Ext.refl w).alloc _).alloc _
  rw [show (w.alloc (.cells #[.int .i64 p.flow, .slice a m c] 129)).heap.size = w.heap.size + 1 by simp] at hb2
  have HR := Lib.hid hr
  have HR' := Lib.hid hr'
  clear hr hr' hi hi'
  go_enter Tryz.func93, Tryz.ntmps93
  go_upto_region 2 with (fail)
  generalize (w.alloc (.cells #[.int .i64 p.flow, .slice a m c] 129)).alloc (.cells #[.int .i64 q.flow, .slice a' m' c'] 129) = W1 at *
  have HSC : Hid (∀ w', Ext W1 w' → (w'.cell? ⟨w.heap.size, 0, none⟩ = some (.int .i64 p.flow) ∧ w'.cell? ⟨w.heap.size, 1, none⟩ = some (.slice a m c) ∧ w'.cell? ⟨w.heap.size + 1, 0, none⟩ = some (.int .i64 q.flow) ∧ w'.cell? ⟨w.heap.size + 1, 1, none⟩ = some (.slice a' m' c'))) := Lib.hid (fun w' h =>
    ⟨(hb1.ext h).cell 0 _ rfl, (hb1.ext h).cell 1 _ rfl, (hb2.ext h).cell 0 _ rfl, (hb2.ext h).cell 1 _ rfl⟩)
  have HE := Lib.hid hE
  have HDr : Hid (Ext W1 W1.drew) := Lib.hid (Ext.refl W1).drew
  have hz := hb2.lt
  clear hb1 hb2 hE
  go_region_held3 (fun w' => w'.cell? ⟨w.heap.size, 0, none⟩ = some (.int .i64 p.flow) ∧ w'.cell? ⟨w.heap.size, 1, none⟩ = some (.slice a m c) ∧ w'.cell? ⟨w.heap.size + 1, 0, none⟩ = some (.int .i64 q.flow) ∧ w'.cell? ⟨w.heap.size + 1, 1, none⟩ = some (.slice a' m' c'))
    ((refine HSC.out _ ?_; repeat (first | exact Ext.refl _ | exact HDr.out | exact E4.out | refine Ext.drew ?_ | refine Ext.alloc ?_ _)))
    (first
      | (go_at_call 78; refine (cmpInt_any p.flow q.flow _).mono ?_; rintro e w3 ⟨rfl, rfl⟩)
      | (go_at_call 105
         refine (compareSteps_any p.steps q.steps _ _ _ (HR.out.ext (HE.out.trans HDr.out)) (HR'.out.ext (HE.out.trans HDr.out))).mono ?_
         rintro e w4 ⟨rfl, hE4⟩
         have E4 := Lib.hid (HDr.out.trans hE4)
         clear hE4)
      | (go_at_call 77; refine (cmpOr_new w4 _ _ _ (Ext.refl _)).mono ?_; rintro e w5 ⟨rfl, rfl⟩))
  all_goals go_wp2
  all_goals go_ret
  all_goals exact ⟨by rw [HX.out]; rfl, HE.out.trans (E4.out.alloc _)⟩
set_option maxHeartbeats 1000000 in
theorem idCompared_any (p q : Pth) (w : World) (v v' : Value) (h : PthV w p v) (h' : PthV w q v') :
    Calls Tryz.prog 85 #[v, v'] w fun e w' => e = .returned (.int .i64 (thanP p q)) ∧ Ext w w' := by
  obtain ⟨a, m, c, rfl, hr, hi⟩ := h
  obtain ⟨a', m', c', rfl, hr', hi'⟩ := h'
  have hb2 := BoxL.new (w.alloc (.cells #[.int .i64 p.flow, .slice a m c] 129)) [.int .i64 q.flow, .slice a' m' c'] 129
  have hb1 := (BoxL.new w [.int .i64 p.flow, .slice a m c] 129).ext ((Ext.refl _).alloc (.cells #[.int .i64 q.flow, .slice a' m' c'] 129))
  have hE : Ext w ((w.alloc (.cells #[.int .i64 p.flow, .slice a m c] 129)).alloc (.cells #[.int .i64 q.flow, .slice a' m' c'] 129)) := ((Ext.refl w).alloc _).alloc _
  rw [show (w.alloc (.cells #[.int .i64 p.flow, .slice a m c] 129)).heap.size = w.heap.size + 1 by simp] at hb2
  have HV := Lib.hid (show PthV w p (.agg #[.int .i64 p.flow, .slice a m c]) from ⟨a, m, c, rfl, hr, hi⟩)
  have HV' := Lib.hid (show PthV w q (.agg #[.int .i64 q.flow, .slice a' m' c']) from ⟨a', m', c', rfl, hr', hi'⟩)
  clear hr hr' hi hi'
  go_enter Tryz.func85, Tryz.ntmps85
  go_upto_region 1 with (fail)
  generalize (w.alloc (.cells #[.int .i64 p.flow, .slice a m c] 129)).alloc (.cells #[.int .i64 q.flow, .slice a' m' c'] 129) = W1 at *
  have p0 := hb1.cell 0 _ rfl
  have p1 := hb1.cell 1 _ rfl
  have q0 := hb2.cell 0 _ rfl
  have q1 := hb2.cell 1 _ rfl
  have HE := Lib.hid hE
  clear hb1 hb2 hE
  go_wp2_with fail
  refine (idThan_any p q W1 _ _ (HV.out.ext HE.out) (HV'.out.ext HE.out)).mono ?_
  rintro e w2 ⟨rfl, hE2⟩
  have HE2 := Lib.hid (HE.out.trans hE2)
  clear hE2
  go_wp2
  go_ret
  exact ⟨rfl, HE2.out⟩
end Go.Proofs.YtbciamploeejiaaGreat

open Go.RowKit Go.Shelf
namespace Go.Proofs.YtbciamploeejiaaGreat
open Go Go.Proofs Fm

theorem lessS_some {a b : List UInt8} {p q : Pth} (hp : parseP a = some p) (hq : parseP b = some q) : lessS a b = decide (thanP p q < 0) := by unfold lessS; rw [hp, hq]
theorem lessS_left {a b : List UInt8} (hp : parseP a = none) : lessS a b = false := by unfold lessS; rw [hp]
theorem lessS_right {a b : List UInt8} (hq : parseP b = none) : lessS a b = false := by
  unfold lessS; rw [hq]; cases parseP a <;> rfl
theorem isSome_of {α : Type} {o : Option α} (h : o.isSome = true) : ∃ x, o = some x := Option.isSome_iff_exists.1 h
theorem pthOr_some {s : List UInt8} {p : Pth} (h : parseP s = some p) : pthOr s = p := by unfold pthOr; rw [h]; rfl
set_option maxRecDepth 100000 in
set_option maxHeartbeats 2000000 in
theorem idLess_any (a b : List UInt8) (ha : IdOk a) (hb : IdOk b) (w : World) (hw : KW w) :
    Calls Tryz.prog 81 #[.string (str a), .string (str b)] w fun e w' => e = .returned (.bool (lessS a b)) ∧ Ext w w' := by
  have HC := Lib.hid (idParse_any a ha w hw)
  have HC2 := Lib.hid (fun w' (h : Ext w w') => idParse_any b hb w' (hw.ext h))
  clear hw
  go_enter Tryz.func81, Tryz.ntmps81
  go_wp2_with fail
  refine HC.out.mono ?_
  intro e w1 hpo
  obtain ⟨v, rfl, hE1, a1, m1, c1, rfl, hO, hfl⟩ := PathPost.path hpo
  have hB1 := BoxL.new w1 [.int .i64 (pthOr a).flow, .slice a1 m1 c1] 116
  have hE2 := hE1.alloc (.cells #[.int .i64 (pthOr a).flow, .slice a1 m1 c1] 116)
  have hO2 := hO.ext ((Ext.refl w1).alloc (.cells #[.int .i64 (pthOr a).flow, .slice a1 m1 c1] 116))
  have hV1 : PthV (w1.alloc (.cells #[.int .i64 (pthOr a).flow, .slice a1 m1 c1] 116)) (pthOr a) (.agg #[.int .i64 (pthOr a).flow, .slice a1 m1 c1]) := ⟨a1, m1, c1, rfl, hO2.row, hfl⟩
  have HB1 := Lib.hid hB1
  have HE2 := Lib.hid hE2
  have HV1 := Lib.hid hV1
  clear hpo hE1 hO hfl hB1 hE2 hO2 hV1 HC
  generalize hfa : (pthOr a).flow = fa at *
  go_upto_region 2 with (fail)
  generalize w1.alloc (.cells #[.int .i64 fa, .slice a1 m1 c1] 116) = W2 at *
  generalize w1.heap.size = P at *
  go_wp2_with fail
  refine (HC2.out W2 HE2.out).mono ?_
  intro e w3 hpo
  obtain ⟨v, rfl, hE3, a2, m2, c2, rfl, hO, hfl⟩ := PathPost.path hpo
  have hB2 := BoxL.new w3 [.int .i64 (pthOr b).flow, .slice a2 m2 c2] 116
  have hE4 := hE3.alloc (.cells #[.int .i64 (pthOr b).flow, .slice a2 m2 c2] 116)
  have hO4 := hO.ext ((Ext.refl w3).alloc (.cells #[.int .i64 (pthOr b).flow, .slice a2 m2 c2] 116))
  have hV2 : PthV (w3.alloc (.cells #[.int .i64 (pthOr b).flow, .slice a2 m2 c2] 116)) (pthOr b) (.agg #[.int .i64 (pthOr b).flow, .slice a2 m2 c2]) := ⟨a2, m2, c2, rfl, hO4.row, hfl⟩
  have HB1' := Lib.hid (HB1.out.ext hE4)
  have HV1' := Lib.hid (HV1.out.ext hE4)
  have HB2 := Lib.hid hB2
  have HE4 := Lib.hid (HE2.out.trans hE4)
  have HV2 := Lib.hid hV2
  clear hpo hE3 hO hfl hB2 hE4 hO4 hV2 HC2 HB1 HV1 HE2
  generalize hfb : (pthOr b).flow = fb at *
  go_upto_region 3 with (fail)
  generalize w3.alloc (.cells #[.int .i64 fb, .slice a2 m2 c2] 116) = W4 at *
  generalize w3.heap.size = Q at *
  have p0 := HB1'.out.cell 0 _ rfl
  have p1 := HB1'.out.cell 1 _ rfl
  have q0 := HB2.out.cell 0 _ rfl
  have q1 := HB2.out.cell 1 _ rfl
  have HV1' := Lib.hid (show PthV W4 (pthOr a) (.agg #[.int .i64 fa, .slice a1 m1 c1]) from HV1'.out)
  have HV2 := Lib.hid (show PthV W4 (pthOr b) (.agg #[.int .i64 fb, .slice a2 m2 c2]) from HV2.out)
  clear hfa hfb HB1' HB2
  cases hsa : (parseP a).isSome with
  | false =>
    have HY := Lib.hid (lessS_left (b := b) (Option.isNone_iff_eq_none.1 (by simpa using hsa)))
    cases hsb : (parseP b).isSome
    all_goals
      clear hsa hsb
      go_wp2
      go_ret
      exact ⟨by rw [HY.out]; rfl, HE4.out⟩
  | true =>
    cases hsb : (parseP b).isSome with
    | false =>
      have HY := Lib.hid (lessS_right (a := a) (Option.isNone_iff_eq_none.1 (by simpa using hsb)))
      clear hsa hsb
      go_wp2
      go_ret
      exact ⟨by rw [HY.out]; rfl, HE4.out⟩
    | true =>
      obtain ⟨p, hp⟩ := isSome_of hsa
      obtain ⟨q, hq⟩ := isSome_of hsb
      have HY := Lib.hid (show lessS a b = decide (thanP (pthOr a) (pthOr b) < 0) by rw [lessS_some hp hq, pthOr_some hp, pthOr_some hq])
      clear hsa hsb hp hq
      go_wp2_with fail
      refine (idCompared_any (pthOr a) (pthOr b) W4 _ _ HV1'.out HV2.out).mono ?_
      rintro e w5 ⟨rfl, hE5⟩
      have HE5 := Lib.hid (HE4.out.trans hE5)
      clear hE5
      go_wp2
      go_ret
      exact ⟨by rw [HY.out]; rfl, HE5.out⟩
end Go.Proofs.YtbciamploeejiaaGreat

namespace Fm
open Go

/-- What is asked of an order. -/
structure LtO {α : Type} (lt : α → α → Bool) : Prop where
  asym : ∀ x y, lt x y = true → lt y x = false
  neg : ∀ x y z, lt y x = false → lt z y = false → lt z x = false
def swp {α : Type} (a : Nat → α) (i j : Nat) : Nat → α := fun k => if k = i then a j else if k = j then a i else a k
theorem swp_l {α : Type} (a : Nat → α) (i j : Nat) : swp a i j i = a j := by unfold swp; rw [if_pos rfl]
theorem swp_r {α : Type} (a : Nat → α) (i j : Nat) : swp a i j j = a i := by
  unfold swp
  by_cases h : j = i
  · rw [if_pos h, h]
  · rw [if_neg h, if_pos rfl]
theorem swp_o {α : Type} (a : Nat → α) {i j k : Nat} (h1 : k ≠ i) (h2 : k ≠ j) : swp a i j k = a k := by unfold swp; rw [if_neg h1, if_neg h2]
def upF {α : Type} (lt : α → α → Bool) (a : Nat → α) (j : Nat) : Nat → α :=
  if h : j = 0 then a else if lt (a j) (a ((j - 1) / 2)) = true then upF lt (swp a ((j - 1) / 2) j) ((j - 1) / 2) else a
termination_by j
decreasing_by omega
def childF {α : Type} (lt : α → α → Bool) (n : Nat) (a : Nat → α) (i : Nat) : Nat := if 2 * i + 2 < n ∧ lt (a (2 * i + 2)) (a (2 * i + 1)) = true then 2 * i + 2 else 2 * i + 1
theorem childF_two {α : Type} (lt : α → α → Bool) (n : Nat) (a : Nat → α) (i : Nat) : childF lt n a i = 2 * i + 1 ∨ (childF lt n a i = 2 * i + 2 ∧ 2 * i + 2 < n) := by
  unfold childF
  split
  · rename_i h; exact .inr ⟨rfl, h.1⟩
  · exact .inl rfl
def downF {α : Type} (lt : α → α → Bool) (n : Nat) (a : Nat → α) (i : Nat) : Nat → α :=
  if h : 2 * i + 1 < n then if lt (a (childF lt n a i)) (a i) = true then downF lt n (swp a i (childF lt n a i)) (childF lt n a i) else a else a
termination_by n - i
decreasing_by
  have := childF_two lt n a i
  omega
/-- Nobody is ahead of the one above. -/
def Hp {α : Type} (lt : α → α → Bool) (a : Nat → α) (n : Nat) : Prop := ∀ k, 0 < k → k < n → lt (a k) (a ((k - 1) / 2)) = false
def HpU {α : Type} (lt : α → α → Bool) (a : Nat → α) (n j : Nat) : Prop := (∀ k, 0 < k → k < n → k ≠ j → lt (a k) (a ((k - 1) / 2)) = false) ∧ ∀ k, 0 < k → k < n → (k - 1) / 2 = j → 0 < j → lt (a k) (a ((j - 1) / 2)) = false
def HpD {α : Type} (lt : α → α → Bool) (a : Nat → α) (n i : Nat) : Prop := (∀ k, 0 < k → k < n → (k - 1) / 2 ≠ i → lt (a k) (a ((k - 1) / 2)) = false) ∧ ∀ k, 0 < k → k < n → (k - 1) / 2 = i → 0 < i → lt (a k) (a ((i - 1) / 2)) = false
theorem upF_hp {α : Type} {lt : α → α → Bool} (L : LtO lt) {n : Nat} : ∀ (j : Nat) (a : Nat → α), j < n → HpU lt a n j → Hp lt (upF lt a j) n := by
  intro j
  induction j using Nat.strongRecOn with
  | ind j ih =>
    intro a hj h
    unfold upF
    by_cases h0 : j = 0
    · rw [dif_pos h0]
      exact fun k hk1 hk2 => h.1 k hk1 hk2 (by omega)
    rw [dif_neg h0]
    obtain ⟨p, hp⟩ : ∃ p, p = (j - 1) / 2 := ⟨_, rfl⟩
    rw [← hp]
    by_cases hl : lt (a j) (a p) = true
    · rw [if_pos hl]
      have hle : lt (a p) (a j) = false := L.asym _ _ hl
      refine ih p (by omega) _ (by omega) ⟨fun k hk1 hk2 hne => ?_, fun k hk1 hk2 hkp hp0 => ?_⟩
      · by_cases e1 : k = j
        · subst e1
          rw [← hp, swp_r, swp_l]
          exact hle
        · have hk := h.1 k hk1 hk2 e1
          rw [swp_o a hne e1]
          by_cases e2 : (k - 1) / 2 = p
          · rw [e2, swp_l]
            rw [e2] at hk
            exact L.neg _ _ _ hle hk
          · by_cases e3 : (k - 1) / 2 = j
            · rw [e3, swp_r]
              have := h.2 k hk1 hk2 e3 (by omega)
              rw [← hp] at this
              exact this
            · rw [swp_o a e2 e3]
              exact hk
      · have hpp := h.1 p hp0 (by omega) (by omega)
        rw [swp_o a (show (p - 1) / 2 ≠ p by omega) (show (p - 1) / 2 ≠ j by omega)]
        by_cases e1 : k = j
        · subst e1
          rw [swp_r]
          exact hpp
        · have hk := h.1 k hk1 hk2 e1
          rw [hkp] at hk
          rw [swp_o a (show k ≠ p by omega) e1]
          exact L.neg _ _ _ hpp hk
    · rw [if_neg hl]
      intro k hk1 hk2
      by_cases e1 : k = j
      · subst e1
        rw [← hp]
        simpa using hl
      · exact h.1 k hk1 hk2 e1
theorem downF_hp {α : Type} {lt : α → α → Bool} (L : LtO lt) {n : Nat} : ∀ (m i : Nat) (a : Nat → α), n - i ≤ m → HpD lt a n i → Hp lt (downF lt n a i) n := by
  intro m
  induction m with
  | zero =>
    intro i a hm h
    unfold downF
    rw [dif_neg (by omega)]
    exact fun k hk1 hk2 => h.1 k hk1 hk2 (by omega)
  | succ m ih =>
    intro i a hm h
    unfold downF
    by_cases h1 : 2 * i + 1 < n
    case neg =>
      rw [dif_neg h1]
      exact fun k hk1 hk2 => h.1 k hk1 hk2 (by omega)
    rw [dif_pos h1]
    have hc := childF_two lt n a i
    have hmin : ∀ k, 0 < k → k < n → (k - 1) / 2 = i → lt (a k) (a (childF lt n a i)) = false := by
      intro k hk1 hk2 hki
      have hkk : k = 2 * i + 1 ∨ k = 2 * i + 2 := by omega
      have hirr : ∀ x, lt x x = false := fun x => by
        cases e : lt x x with
        | false => rfl
        | true => exact absurd (L.asym _ _ e) (by rw [e]; decide)
      unfold childF
      by_cases hq : 2 * i + 2 < n ∧ lt (a (2 * i + 2)) (a (2 * i + 1)) = true
      · rw [if_pos hq]
        rcases hkk with e | e
        · rw [e]; exact L.asym _ _ hq.2
        · rw [e]; exact hirr _
      · rw [if_neg hq]
        rcases hkk with e | e
        · rw [e]; exact hirr _
        · rw [e]
          cases e2 : lt (a (2 * i + 2)) (a (2 * i + 1)) with
          | false => rfl
          | true => exact absurd ⟨by omega, e2⟩ hq
    obtain ⟨j, hj⟩ : ∃ j, j = childF lt n a i := ⟨_, rfl⟩
    rw [← hj] at hc hmin ⊢
    by_cases hl : lt (a j) (a i) = true
    · rw [if_pos hl]
      have hle : lt (a i) (a j) = false := L.asym _ _ hl
      refine ih j _ (by omega) ⟨fun k hk1 hk2 hne => ?_, fun k hk1 hk2 hkj _ => ?_⟩
      · by_cases e1 : k = j
        · subst e1
          rw [swp_r, show (k - 1) / 2 = i by omega, swp_l]
          exact hle
        · by_cases e2 : k = i
          · subst e2
            rw [swp_l, swp_o a (show (k - 1) / 2 ≠ k by omega) (show (k - 1) / 2 ≠ j by omega)]
            exact h.2 j (by omega) (by omega) (by omega) (by omega)
          · rw [swp_o a e2 e1]
            by_cases e3 : (k - 1) / 2 = i
            · rw [e3, swp_l]
              exact hmin k hk1 hk2 e3
            · rw [swp_o a e3 hne]
              exact h.1 k hk1 hk2 e3
      · rw [show (j - 1) / 2 = i by omega, swp_l, swp_o a (show k ≠ i by omega) (show k ≠ j by omega)]
        have := h.1 k hk1 hk2 (by omega)
        rw [hkj] at this
        exact this
    · rw [if_neg hl]
      have hl : lt (a j) (a i) = false := by simpa using hl
      intro k hk1 hk2
      by_cases e : (k - 1) / 2 = i
      · rw [e]
        exact L.neg _ _ _ hl (hmin k hk1 hk2 e)
      · exact h.1 k hk1 hk2 e
/-- The first one is ahead of all. -/
theorem Hp.first {α : Type} {lt : α → α → Bool} (L : LtO lt) {a : Nat → α} {n : Nat} (h : Hp lt a n) : ∀ k, k < n → lt (a k) (a 0) = false := by
  intro k
  induction k using Nat.strongRecOn with
  | ind k ih =>
    intro hk
    by_cases h0 : k = 0
    · subst h0
      cases e : lt (a 0) (a 0) with
      | false => rfl
      | true => exact absurd (L.asym _ _ e) (by rw [e]; decide)
    · exact L.neg _ _ _ (ih ((k - 1) / 2) (by omega) (by omega)) (h k (by omega) hk)
/-- The same ones, elsewhere. -/
structure Same {α : Type} (a b : Nat → α) (n : Nat) : Prop where
  out : ∀ k, n ≤ k → b k = a k
  mem : ∀ x, (∃ k, k < n ∧ b k = x) ↔ ∃ k, k < n ∧ a k = x
  inj : (∀ i j, i < n → j < n → a i = a j → i = j) → ∀ i j, i < n → j < n → b i = b j → i = j
theorem Same.refl {α : Type} (a : Nat → α) (n : Nat) : Same a a n := ⟨fun _ _ => rfl, fun _ => Iff.rfl, fun h => h⟩
theorem Same.trans {α : Type} {a b c : Nat → α} {n : Nat} (h : Same a b n) (k : Same b c n) : Same a c n := ⟨fun i hi => (k.out i hi).trans (h.out i hi), fun x => (k.mem x).trans (h.mem x), fun hh => k.inj (h.inj hh)⟩
theorem Same.swp {α : Type} (a : Nat → α) {n i j : Nat} (hi : i < n) (hj : j < n) : Same a (swp a i j) n := by
  have key : ∀ k, k < n → ∃ q, q < n ∧ Fm.swp a i j k = a q ∧ ((k = i ∧ q = j) ∨ (k ≠ i ∧ k = j ∧ q = i) ∨ (k ≠ i ∧ k ≠ j ∧ q = k)) := fun k hk => by
    by_cases e1 : k = i
    · subst e1; exact ⟨j, hj, swp_l a k j, .inl ⟨rfl, rfl⟩⟩
    · by_cases e2 : k = j
      · subst e2; exact ⟨i, hi, swp_r a i k, .inr (.inl ⟨e1, rfl, rfl⟩)⟩
      · exact ⟨k, hk, swp_o a e1 e2, .inr (.inr ⟨e1, e2, rfl⟩)⟩
  refine ⟨fun k hk => swp_o a (by omega) (by omega), fun x => ⟨?_, ?_⟩, fun hh p q hp hq e => ?_⟩
  · rintro ⟨k, hk, rfl⟩
    obtain ⟨q, hq, e, -⟩ := key k hk
    exact ⟨q, hq, e.symm⟩
  · rintro ⟨k, hk, rfl⟩
    by_cases e1 : k = i
    · subst e1; exact ⟨j, hj, swp_r a k j⟩
    · by_cases e2 : k = j
      · subst e2; exact ⟨i, hi, swp_l a i k⟩
      · exact ⟨k, hk, swp_o a e1 e2⟩
  · obtain ⟨p', hp', e1, c1⟩ := key p hp
    obtain ⟨q', hq', e2, c2⟩ := key q hq
    rw [e1, e2] at e
    have := hh p' q' hp' hq' e
    omega
theorem upF_same {α : Type} (lt : α → α → Bool) {n : Nat} : ∀ (j : Nat) (a : Nat → α), j < n → Same a (upF lt a j) n := by
  intro j
  induction j using Nat.strongRecOn with
  | ind j ih =>
    intro a hj
    unfold upF
    by_cases h0 : j = 0
    · rw [dif_pos h0]; exact Same.refl a n
    rw [dif_neg h0]
    split
    · exact (Same.swp a (by omega) hj).trans (ih ((j - 1) / 2) (by omega) _ (by omega))
    · exact Same.refl a n
theorem downF_same {α : Type} (lt : α → α → Bool) {n : Nat} : ∀ (m i : Nat) (a : Nat → α), n - i ≤ m → Same a (downF lt n a i) n := by
  intro m
  induction m with
  | zero =>
    intro i a hm
    unfold downF
    rw [dif_neg (by omega)]
    exact Same.refl a n
  | succ m ih =>
    intro i a hm
    unfold downF
    by_cases h1 : 2 * i + 1 < n
    · rw [dif_pos h1]
      have hc := childF_two lt n a i
      split
      · exact (Same.swp a (by omega) (by omega)).trans (ih _ _ (by omega))
      · exact Same.refl a n
    · rw [dif_neg h1]; exact Same.refl a n
/-- One more. -/
theorem push_hp {α : Type} {lt : α → α → Bool} (L : LtO lt) {a : Nat → α} {n : Nat} (h : Hp lt a n) : Hp lt (upF lt a n) (n + 1) :=
  upF_hp L n a (by omega) ⟨fun k hk1 hk2 hne => h k hk1 (by omega), fun k hk1 hk2 hkn _ => by omega⟩
/-- The first one is taken out. -/
theorem pop_hp {α : Type} {lt : α → α → Bool} (L : LtO lt) {a : Nat → α} {n : Nat} (h : Hp lt a (n + 1)) : Hp lt (downF lt n (swp a 0 n) 0) n := by
  refine downF_hp L (n - 0) 0 _ (Nat.le_refl _) ⟨fun k hk1 hk2 hne => ?_, fun k hk1 hk2 hk0 h0 => by omega⟩
  rw [swp_o a (by omega) (by omega), swp_o a hne (by omega)]
  exact h k hk1 (by omega)
theorem pop_mem {α : Type} {lt : α → α → Bool} {a : Nat → α} {n : Nat} (hi : ∀ i j, i < n + 1 → j < n + 1 → a i = a j → i = j) (x : α) : (∃ k, k < n ∧ downF lt n (swp a 0 n) 0 k = x) ↔ (∃ k, k < n + 1 ∧ a k = x) ∧ x ≠ a 0 := by
  rw [(downF_same lt (n - 0) 0 _ (Nat.le_refl _)).mem x]
  have hS := Same.swp a (n := n + 1) (i := 0) (j := n) (by omega) (by omega)
  constructor
  · rintro ⟨k, hk, rfl⟩
    refine ⟨(hS.mem _).1 ⟨k, by omega, rfl⟩, fun e => ?_⟩
    have hr : swp a 0 n n = a 0 := swp_r a 0 n
    have := hS.inj hi k n (by omega) (by omega) (e.trans hr.symm)
    omega
  · rintro ⟨hm, hne⟩
    obtain ⟨k, hk, e⟩ := (hS.mem x).2 hm
    refine ⟨k, ?_, e⟩
    rcases Nat.lt_or_ge k n with h | h
    · exact h
    · have : k = n := by omega
      subst this
      rw [swp_r] at e
      exact absurd e.symm hne
theorem pop_inj {α : Type} {lt : α → α → Bool} {a : Nat → α} {n : Nat} (hi : ∀ i j, i < n + 1 → j < n + 1 → a i = a j → i = j) : ∀ i j, i < n → j < n → downF lt n (swp a 0 n) 0 i = downF lt n (swp a 0 n) 0 j → i = j := by
  have hS := Same.swp a (n := n + 1) (i := 0) (j := n) (by omega) (by omega)
  exact (downF_same lt (n - 0) 0 _ (Nat.le_refl _)).inj (fun i j h1 h2 e => hS.inj hi i j (by omega) (by omega) e)
end Fm

namespace Fm
open Go Go.RowKit

/-- A comparison that orders, some alike. -/
structure WkC {α : Type} (c : α → α → Int) : Prop where
  sgn : ∀ x y, c x y < 0 ↔ 0 < c y x
  tr : ∀ x y z, c x y ≤ 0 → c y z ≤ 0 → c x z ≤ 0
theorem WkC.of {α β : Type} {c : β → β → Int} (h : WkC c) (f : α → β) : WkC (fun x y => c (f x) (f y)) := ⟨fun x y => h.sgn _ _, fun x y z => h.tr _ _ _⟩
theorem WkC.self {α : Type} {c : α → α → Int} (h : WkC c) (x : α) : c x x = 0 := by
  have := h.sgn x x
  omega
theorem WkC.lex {α : Type} {c d : α → α → Int} (h : WkC c) (k : WkC d) : WkC (fun x y => orI (c x y) (d x y)) where
  sgn x y := by
    have h1 := h.sgn x y
    have h2 := h.sgn y x
    have k1 := k.sgn x y
    unfold orI
    by_cases e : c x y = 0
    · rw [if_pos e, if_pos (by omega)]; exact k1
    · rw [if_neg e, if_neg (by omega)]; exact h1
  tr x y z := by
    have hx := h.sgn x y
    have hx' := h.sgn y x
    have hy := h.sgn y z
    have hy' := h.sgn z y
    have hz := h.sgn x z
    have hz' := h.sgn z x
    have t := h.tr x y z
    have t2 := h.tr y z x
    have t3 := h.tr z x y
    have kt := k.tr x y z
    unfold orI
    intro a b
    by_cases e1 : c x y = 0
    · rw [if_pos e1] at a
      by_cases e2 : c y z = 0
      · rw [if_pos e2] at b
        by_cases e3 : c x z = 0
        · rw [if_pos e3]; exact kt a b
        · rw [if_neg e3]; omega
      · rw [if_neg e2] at b
        by_cases e3 : c x z = 0
        · exfalso
          have := t3 (by omega) (by omega)
          omega
        · rw [if_neg e3]; omega
    · rw [if_neg e1] at a
      by_cases e2 : c y z = 0
      · rw [if_pos e2] at b
        by_cases e3 : c x z = 0
        · exfalso
          have := t2 (by omega) (by omega)
          omega
        · rw [if_neg e3]; omega
      · rw [if_neg e2] at b
        by_cases e3 : c x z = 0
        · exfalso
          have := t2 (by omega) (by omega)
          omega
        · rw [if_neg e3]; omega
theorem cmpI_wk : WkC cmpI where
  sgn x y := by unfold cmpI; split <;> split <;> (try split) <;> omega
  tr x y z := by unfold cmpI; split <;> split <;> (try split) <;> (try split) <;> (try split) <;> omega
/-- Ids, those that are none last. -/
noncomputable def optC (p q : Option Pth) : Int := match p, q with
  | none, none => 0
  | some _, none => -1
  | none, some _ => 1
  | some p, some q => thanP p q
theorem optC_wk : WkC optC where
  sgn p q := by
    cases p with
    | none => cases q <;> simp [optC]
    | some p =>
      cases q with
      | none => simp [optC]
      | some q =>
        have := thanP_good.neg p q
        show thanP p q < 0 ↔ 0 < thanP q p
        omega
  tr p q r := by
    cases p with
    | none =>
      cases q with
      | none => cases r <;> simp [optC]
      | some q => intro h; simp [optC] at h
    | some p =>
      cases r with
      | none => intro _ _; simp [optC]
      | some r =>
        cases q with
        | none => intro _ h; simp [optC] at h
        | some q =>
          show thanP p q ≤ 0 → thanP q r ≤ 0 → thanP p r ≤ 0
          intro h1 h2
          by_cases e1 : thanP p q = 0
          · rw [(thanP_good.zero p q).1 e1]; exact h2
          · by_cases e2 : thanP q r = 0
            · rw [← (thanP_good.zero q r).1 e2]; exact h1
            · have := thanP_good.trans p q r (by omega) (by omega)
              omega
noncomputable def idsC (a b : List UInt8) : Int :=
  if (parseP a).isSome ≠ (parseP b).isSome then (if (parseP a).isSome then -1 else 1) else if lessS a b then -1 else if lessS b a then 1 else 0
theorem idsC_opt (a b : List UInt8) : (idsC a b < 0 ↔ optC (parseP a) (parseP b) < 0) ∧ (0 < idsC a b ↔ 0 < optC (parseP a) (parseP b)) := by
  unfold idsC lessS
  cases parseP a with
  | none => cases parseP b <;> simp [optC]
  | some p =>
    cases parseP b with
    | none => simp [optC]
    | some q =>
      have hn := thanP_good.neg p q
      simp only [Option.isSome_some, ne_eq, not_true_eq_false, if_false, decide_eq_true_eq]
      show _ ∧ (_ ↔ 0 < thanP p q)
      have e : optC (some p) (some q) = thanP p q := rfl
      rw [e]
      by_cases h1 : thanP p q < 0
      · rw [if_pos h1]; omega
      · rw [if_neg h1]
        by_cases h2 : thanP q p < 0
        · rw [if_pos h2]; omega
        · rw [if_neg h2]; omega
theorem idsC_wk : WkC idsC where
  sgn x y := by rw [(idsC_opt x y).1, (idsC_opt y x).2]; exact optC_wk.sgn _ _
  tr x y z := by
    have h1 := (idsC_opt x y).2
    have h2 := (idsC_opt y z).2
    have h3 := (idsC_opt x z).2
    have := optC_wk.tr (parseP x) (parseP y) (parseP z)
    omega
/-- What a place is ranked by. -/
structure Rk where
  fails : Int
  up : Int
  place : Int
  id : List UInt8
noncomputable def thanR (r o : Rk) : Int := orI (cmpI r.fails o.fails) (orI (cmpI r.up o.up) (orI (idsC r.id o.id) (cmpI r.place o.place)))
theorem thanR_wk : WkC thanR := (cmpI_wk.of Rk.fails).lex ((cmpI_wk.of Rk.up).lex ((idsC_wk.of Rk.id).lex (cmpI_wk.of Rk.place)))
theorem thanR_zero {r o : Rk} (h : thanR r o = 0) : r.place = o.place := by
  unfold thanR orI at h
  split at h
  · split at h
    · split at h
      · unfold cmpI at h
        split at h
        · omega
        · split at h <;> omega
      · contradiction
    · contradiction
  · contradiction
noncomputable def ltR (r o : Rk) : Bool := decide (thanR r o < 0)
theorem ltR_good : LtO ltR where
  asym x y h := by
    unfold ltR at h ⊢
    rw [decide_eq_true_eq] at h
    rw [decide_eq_false_iff_not]
    have := thanR_wk.sgn x y
    omega
  neg x y z h1 h2 := by
    unfold ltR at h1 h2 ⊢
    rw [decide_eq_false_iff_not] at h1 h2 ⊢
    have a := thanR_wk.sgn y x
    have b := thanR_wk.sgn z y
    have c := thanR_wk.sgn z x
    have := thanR_wk.tr x y z
    omega
noncomputable def rankF (l : List Nd) (i : Nat) : Rk := ⟨(nthF l (i : Int)).fails, -(deepF l (i : Int)), (i : Int), (nthF l (i : Int)).id⟩
/-- Of two places just one is ahead. -/
theorem ltR_total {l : List Nd} {a b : Nat} (h : a ≠ b) : ltR (rankF l a) (rankF l b) = true ∨ ltR (rankF l b) (rankF l a) = true := by
  unfold ltR
  rw [decide_eq_true_eq, decide_eq_true_eq]
  have h1 := thanR_wk.sgn (rankF l a) (rankF l b)
  have h2 := thanR_wk.sgn (rankF l b) (rankF l a)
  by_cases e : thanR (rankF l a) (rankF l b) = 0
  · have := thanR_zero e
    unfold rankF at this
    simp only at this
    omega
  · omega
theorem ltR_trans {x y z : Rk} (h1 : ltR x y = true) (h2 : ltR y z = true) : ltR x z = true := by
  cases e : ltR x z with
  | true => rfl
  | false =>
    have := ltR_good.neg z x y e (ltR_good.asym _ _ h1)
    have h3 := ltR_good.asym _ _ h2
    rw [h2] at this
    cases this
/-! ### sorted lists -/
/-- Each ahead of the next. -/
def SortR (l : List Nd) (out : List Nat) : Prop := out.Pairwise (fun a b => ltR (rankF l a) (rankF l b) = true)
theorem SortR.eq {l : List Nd} : ∀ {a b : List Nat}, SortR l a → SortR l b → (∀ x, x ∈ a ↔ x ∈ b) → a = b
  | [], [], _, _, _ => rfl
  | [], y :: b, _, _, h => by have := (h y).2 List.mem_cons_self; cases this
  | x :: a, [], _, _, h => by have := (h x).1 List.mem_cons_self; cases this
  | x :: a, y :: b, ha, hb, h => by
    obtain ⟨a1, a2⟩ := List.pairwise_cons.1 ha
    obtain ⟨b1, b2⟩ := List.pairwise_cons.1 hb
    have irr : ∀ z, ltR (rankF l z) (rankF l z) = false := fun z => by
      cases e : ltR (rankF l z) (rankF l z) with
      | false => rfl
      | true => have := ltR_good.asym _ _ e; rw [e] at this; cases this
    have hxy : x = y := by
      rcases List.mem_cons.1 ((h x).1 List.mem_cons_self) with e | e
      · exact e
      · rcases List.mem_cons.1 ((h y).2 List.mem_cons_self) with e' | e'
        · exact e'.symm
        · have q1 := b1 x e
          have q2 := a1 y e'
          have := ltR_good.asym _ _ q1
          rw [q2] at this
          cases this
    subst hxy
    rw [SortR.eq a2 b2 (fun z => ?_)]
    constructor
    · intro hz
      rcases List.mem_cons.1 ((h z).1 (List.mem_cons_of_mem _ hz)) with e | e
      · subst e
        have := a1 z hz
        rw [irr] at this
        cases this
      · exact e
    · intro hz
      rcases List.mem_cons.1 ((h z).2 (List.mem_cons_of_mem _ hz)) with e | e
      · subst e
        have := b1 z hz
        rw [irr] at this
        cases this
      · exact e
/-- A place is put where it belongs. -/
noncomputable def insR (l : List Nd) (i : Nat) : List Nat → List Nat
  | [] => [i]
  | k :: out => if ltR (rankF l i) (rankF l k) then i :: k :: out else k :: insR l i out
theorem insR_mem (l : List Nd) (i : Nat) : ∀ (out : List Nat) (x : Nat), x ∈ insR l i out ↔ x = i ∨ x ∈ out
  | [], x => by simp [insR]
  | k :: out, x => by
    unfold insR
    split
    · simp
    · rw [List.mem_cons, insR_mem l i out x, List.mem_cons]
      constructor
      · rintro (h | h | h)
        · exact .inr (.inl h)
        · exact .inl h
        · exact .inr (.inr h)
      · rintro (h | h | h)
        · exact .inr (.inl h)
        · exact .inl h
        · exact .inr (.inr h)
theorem insR_sort {l : List Nd} {i : Nat} : ∀ {out : List Nat}, SortR l out → i ∉ out → SortR l (insR l i out)
  | [], _, _ => by unfold insR SortR; simp
  | k :: out, h, hi => by
    obtain ⟨h1, h2⟩ := List.pairwise_cons.1 h
    have hik : i ≠ k := fun e => hi (by rw [e]; exact List.mem_cons_self)
    unfold insR
    by_cases e : ltR (rankF l i) (rankF l k) = true
    · rw [if_pos e]
      refine List.pairwise_cons.2 ⟨fun z hz => ?_, h⟩
      rcases List.mem_cons.1 hz with rfl | hz
      · exact e
      · exact ltR_trans e (h1 z hz)
    · rw [if_neg e]
      have hk : ltR (rankF l k) (rankF l i) = true := by
        rcases ltR_total (l := l) hik with h | h
        · exact absurd h e
        · exact h
      refine List.pairwise_cons.2 ⟨fun z hz => ?_, insR_sort h2 (fun hh => hi (List.mem_cons_of_mem _ hh))⟩
      rcases (insR_mem l i out z).1 hz with rfl | hz
      · exact hk
      · exact h1 z hz
def readyB (l : List Nd) (i : Nat) : Bool := decide ((nthF l (i : Int)).stand = 1)
/-- All that are ready, in order. -/
noncomputable def readyN (l : List Nd) : Nat → List Nat
  | 0 => []
  | n + 1 => if readyB l n then insR l n (readyN l n) else readyN l n
theorem readyN_mem (l : List Nd) : ∀ (n x : Nat), x ∈ readyN l n ↔ x < n ∧ readyB l x = true
  | 0, x => by simp [readyN]
  | n + 1, x => by
    unfold readyN
    by_cases h : readyB l n = true
    · rw [if_pos h, insR_mem, readyN_mem l n x]
      constructor
      · rintro (rfl | ⟨h1, h2⟩)
        · exact ⟨by omega, h⟩
        · exact ⟨by omega, h2⟩
      · rintro ⟨h1, h2⟩
        by_cases e : x = n
        · exact .inl e
        · exact .inr ⟨by omega, h2⟩
    · rw [if_neg h, readyN_mem l n x]
      constructor
      · rintro ⟨h1, h2⟩; exact ⟨by omega, h2⟩
      · rintro ⟨h1, h2⟩
        refine ⟨?_, h2⟩
        by_cases e : x = n
        · subst e; exact absurd h2 h
        · omega
theorem readyN_sort (l : List Nd) : ∀ n, SortR l (readyN l n)
  | 0 => by unfold readyN SortR; simp
  | n + 1 => by
    unfold readyN
    split
    · refine insR_sort (readyN_sort l n) (fun h => ?_)
      have := ((readyN_mem l n n).1 h).1
      omega
    · exact readyN_sort l n
noncomputable def allQ (l : List Nd) : List Nat := readyN l l.length
/-- Whatever is sorted, and holds just those that are ready, is all of them. -/
theorem allQ_of {l : List Nd} {out : List Nat} (h : SortR l out) (hm : ∀ x, x ∈ out ↔ x < l.length ∧ readyB l x = true) : out = allQ l :=
  h.eq (readyN_sort l l.length) (fun x => (hm x).trans (readyN_mem l l.length x).symm)
/-- What a heap hands out. -/
def drainF {α : Type} (lt : α → α → Bool) : Nat → (Nat → α) → List α
  | 0, _ => []
  | n + 1, a => a 0 :: drainF lt n (downF lt n (swp a 0 n) 0)
theorem drain_mem {α : Type} {lt : α → α → Bool} : ∀ (n : Nat) (a : Nat → α), (∀ i j, i < n → j < n → a i = a j → i = j) → ∀ x, x ∈ drainF lt n a ↔ ∃ k, k < n ∧ a k = x
  | 0, a, _, x => by
    unfold drainF
    constructor
    · intro h; cases h
    · rintro ⟨k, hk, _⟩; omega
  | n + 1, a, hi, x => by
    unfold drainF
    rw [List.mem_cons, drain_mem n _ (pop_inj hi) x, pop_mem hi x]
    constructor
    · rintro (rfl | ⟨h, _⟩)
      · exact ⟨0, by omega, rfl⟩
      · exact h
    · intro h
      by_cases e : x = a 0
      · exact .inl e
      · exact .inr ⟨h, e⟩
theorem drain_sort {α : Type} {lt : α → α → Bool} (L : LtO lt) : ∀ (n : Nat) (a : Nat → α), (∀ i j, i < n → j < n → a i = a j → i = j) → (∀ i j, i < n → j < n → i ≠ j → lt (a i) (a j) = true ∨ lt (a j) (a i) = true) → Hp lt a n → (drainF lt n a).Pairwise (fun x y => lt x y = true)
  | 0, a, _, _, _ => by unfold drainF; simp
  | n + 1, a, hi, ht, hh => by
    unfold drainF
    refine List.pairwise_cons.2 ⟨fun x hx => ?_, drain_sort L n _ (pop_inj hi) (fun i j h1 h2 hij => ?_) (pop_hp L hh)⟩
    · rw [drain_mem n _ (pop_inj hi) x, pop_mem hi x] at hx
      obtain ⟨⟨k, hk, rfl⟩, hne⟩ := hx
      have h0 := hh.first L k hk
      rcases ht 0 k (by omega) hk (fun e => hne (by rw [← e])) with h | h
      · exact h
      · rw [h] at h0; cases h0
    · have m1 := (pop_mem (lt := lt) hi (downF lt n (swp a 0 n) 0 i)).1 ⟨i, h1, rfl⟩
      have m2 := (pop_mem (lt := lt) hi (downF lt n (swp a 0 n) 0 j)).1 ⟨j, h2, rfl⟩
      obtain ⟨⟨p, hp, e1⟩, -⟩ := m1
      obtain ⟨⟨q, hq, e2⟩, -⟩ := m2
      rw [← e1, ← e2]
      refine ht p q hp hq (fun e => hij ?_)
      subst e
      exact pop_inj hi i j h1 h2 (e1.symm.trans e2)
end Fm

namespace Fm
open Go Go.RowKit

def FRow (w : World) (B : Nat) (fs : List Fld) : Prop := B < w.heap.size ∧ ∀ (i j : Nat) (hi : i < fs.length), j < 3 → w.cell? ⟨B, i * 3 + j, none⟩ = (fdCells fs[i])[j]?
theorem FRow.kept {w w' : World} {B : Nat} {fs : List Fld} {row : Option Nat} (h : FRow w B fs) (hg : w.grownBy w' row) (hr : row ≠ some B) : FRow w' B fs :=
  ⟨Nat.lt_of_lt_of_le h.1 hg.size, fun i j hi hj => (hg.cell_far ⟨B, _, none⟩ h.1 (fun e => hr e.symm)).trans (h.2 i j hi hj)⟩
theorem FRow.ext {w w' : World} {B : Nat} {fs : List Fld} (h : FRow w B fs) (hE : Ext w w') : FRow w' B fs :=
  ⟨Nat.lt_of_lt_of_le h.1 hE.size, fun i j hi hj => (hE.cell (p := ⟨B, _, none⟩) h.1).trans (h.2 i j hi hj)⟩
theorem FRow.new (w : World) (fs : List Fld) (e : TypeId) : FRow (w.alloc (.cells (fdsCells fs).toArray e)) w.heap.size fs := by
  refine ⟨by simp, fun i j hi hj => ?_⟩
  have := heap_alloc_new w (.cells (fdsCells fs).toArray e)
  simp only [World.cell?, this]
  show (fdsCells fs).toArray[i * 3 + j]? = _
  rw [List.getElem?_toArray, fdsCells_at fs i j hi hj]
/-- Fields that are told, in a new block. -/
def FdsNew (w : World) (fs : List Fld) (e : Ending) (w' : World) : Prop :=
  ∃ B, e = .returned (.slice (some ⟨B, 0, none⟩) fs.length fs.length) ∧ w.heap.size ≤ B ∧ FRow w' B fs ∧ fdE.Row w' fs (.slice (some ⟨B, 0, none⟩) fs.length fs.length) ∧ Ext w w'
theorem FdsNew.new (w w2 : World) (fs : List Fld) (e : TypeId) (h : Ext w w2) (hl : fs.length ≤ 1000) : FdsNew w fs (.returned (.slice (some ⟨w2.heap.size, 0, none⟩) fs.length fs.length)) (w2.alloc (.cells (fdsCells fs).toArray e)) :=
  ⟨w2.heap.size, rfl, h.size, FRow.new w2 fs e, fdRow_new w2 fs e hl, h.alloc _⟩
theorem FdsNew.post {w : World} {fs : List Fld} {e : Ending} {w' : World} (h : FdsNew w fs e w') : FdsPost w fs e w' := by
  obtain ⟨B, h1, h2, h3, h4, h5⟩ := h
  exact ⟨_, h1, h4, h5⟩
end Fm

namespace Fm
open Go Go.RowKit

structure NSt (w wr : World) (R : Nat) (ps vs ks : List Value) : Prop where
  g : w.grownBy wr (some R)
  pb : BoxL wr w.heap.size ps
  bv : BoxL wr (w.heap.size + 1) vs
  bk : BoxL wr (w.heap.size + 1 + 1) ks
  hR : R < w.heap.size
theorem NSt.then {w wr wx : World} {R : Nat} {ps vs ks : List Value} (h : NSt w wr R ps vs ks) (hE : Ext wr wx) : NSt w wx R ps vs ks :=
  ⟨grown_trans h.g (grown_ext hE _), h.pb.ext hE, h.bv.ext hE, h.bk.ext hE, h.hR⟩
theorem NSt.step {w wr wx : World} {R : Nat} {ps vs ks : List Value} (h : NSt w wr R ps vs ks) (hg : wr.grownBy wx (some R)) : NSt w wx R ps vs ks := by
  have a := h.hR
  exact ⟨grown_trans h.g hg, h.pb.kept hg (fun e => by injection e with e; omega), h.bv.kept hg (fun e => by injection e with e; omega), h.bk.kept hg (fun e => by injection e with e; omega), a⟩
theorem NSt.far {w wr wx : World} {R : Nat} {ps vs ks : List Value} (h : NSt w wr R ps vs ks) {row : Option Nat} (hg : wr.grownBy wx row) (hr : ∀ k, row = some k → w.heap.size + 1 + 1 < k) : NSt w wx R ps vs ks := by
  have a := h.hR
  exact ⟨grown_row' h.g hg (fun x hx => by have := hr x hx; omega), h.pb.kept hg (fun e => by have := hr _ e; omega), h.bv.kept hg (fun e => by have := hr _ e; omega), h.bk.kept hg (fun e => by have := hr _ e; omega), a⟩
def ndZ : List Value := [.string { data := #[] }, .string { data := #[] }, .int .u8 0, .int .i64 0, .int .i64 0, .int .i64 0, .slice none 0 0, .int .i64 0, .int .i64 0, .int .u8 0, .int .i64 0, .int .i64 0, .int .u8 0, .int .i64 0, .string { data := #[] }, .slice none 0 0]

theorem BoxL.has {w : World} {b : Nat} {vs : List Value} (h : BoxL w b vs) (j : Nat) (hj : j < vs.length) : ∃ u, w.cell? ⟨b, j, none⟩ = some u ∧ w.frozen? ⟨b, j, none⟩ = false :=
  ⟨_, h.cell j _ (List.getElem?_eq_getElem hj), h.free j⟩
/-- Numbers in a row of one's own. -/
def OwnN (e : TypeId) (base : Nat) (w : World) (v : Value) (l : List Int) : Prop := w.ownsRow base e 1 v l.length (l.map (Value.int .i64))
theorem OwnN.nil (e : TypeId) (base : Nat) (w : World) : OwnN e base w (.slice none 0 0) [] := World.ownsRow_nil w base e 1
theorem OwnN.ext {e : TypeId} {base : Nat} {w w' : World} {v : Value} {l : List Int} (h : OwnN e base w v l) (hE : Ext w w') : OwnN e base w' v l := hE.own h
theorem OwnN.mono {e : TypeId} {base base' : Nat} {w : World} {v : Value} {l : List Int} (h : OwnN e base w v l) (hb : base' ≤ base) : OwnN e base' w v l := ownsRow_base h hb
theorem OwnN.kept {e : TypeId} {base : Nat} {w w' : World} {v : Value} {l : List Int} {row : Option Nat} (h : OwnN e base w v l) (hg : w.grownBy w' row) (hr : ∀ b, row = some b → b < base) : OwnN e base w' v l := by
  refine World.ownsRow.kept h hg ?_
  cases hv : v.ownBlock with
  | none => exact .inl rfl
  | some b => right; intro e; have := hr b e.symm; have := (World.ownsRow.lt h b hv).1; omega
theorem OwnN.row {e : TypeId} {base : Nat} {w : World} {v : Value} {l : List Int} (h : OwnN e base w v l) (hl : ∀ i, i ∈ l → isI64 i) : intE.Row w l v := by
  have hc := fun g => World.ownsRow.cells h (g := g)
  rcases h.2 with ⟨rfl, h0⟩ | ⟨g, cap, cur, rfl, hb, hg, h1, h2, h5, h6⟩
  · have : l = [] := List.eq_nil_of_length_eq_zero h0
    subst this
    exact Elem.Row.void intE w none
  · refine Elem.Row.mk rfl h1 h2 (Array.getElem?_eq_some_iff.1 hg).1 (fun i hi => ⟨fun _ => .int .i64 l[i], ⟨rfl, hl _ (List.getElem_mem hi)⟩, fun j hj => ?_⟩)
    have hj0 : j = 0 := by have : j < 1 := hj; omega
    subst hj0
    have := hc g rfl i (.int .i64 l[i]) (by simp [hi])
    rw [Addr.add_lit] at this
    show w.cell? ⟨g, 0 + (i * 1 + 0), none⟩ = _
    rw [show 0 + (i * 1 + 0) = 0 + i by omega]
    exact this
theorem setCells_grown (b : Nat) : ∀ (vs : List Value) (o : Nat) (w : World), w.grownBy (w.setCells b o vs) (some b)
  | [], o, w => ⟨rfl, rfl, rfl, Nat.le_refl _, fun _ _ _ => rfl⟩
  | v :: r, o, w => by rw [World.setCells]; exact grown_trans (setOne_grown w b o v) (setCells_grown b r (o + 1) _)
theorem BoxL.range {w : World} {b : Nat} {vs : List Value} (h : BoxL w b vs) : w.rangeAt b 0 vs := fun j v hv => by rw [Nat.zero_add]; exact h.cell j v hv
theorem BoxL.there {w : World} {b n : Nat} {vs : List Value} (h : BoxL w b vs) (hn : n ≤ vs.length) : w.there b 0 n := fun j hj => by
  rw [Nat.zero_add]
  exact ⟨by rw [h.cell j _ (List.getElem?_eq_getElem (by omega))]; rfl, h.free j⟩
end Fm

namespace Fm
open Go Go.RowKit

/-- A node in memory of its own from 'base' on; block g is none of it. -/
def NdIn (eI eV : TypeId) (base : Nat) (w : World) (n : Nd) (C : List Value) (g : Option Nat) : Prop :=
  ∃ (a : Option Addr) (m c : Nat) (k N S l : Value) (F : Nat → Prop), C = ndCells n (.slice a m c) k N S l ∧ OwnN eI base w (.slice a m c) n.after ∧ (∀ b, (Value.slice a m c).ownBlock = some b → g ≠ some b) ∧
    Owns eV w base n.val (.agg #[k, N, S, l]) F ∧ (∀ b, F b → g ≠ some b) ∧ ndWf n
theorem NdIn.cells {eI eV : TypeId} {base : Nat} {w : World} {n : Nd} {C : List Value} {g : Option Nat} (h : NdIn eI eV base w n C g) : C.length = 16 := by
  obtain ⟨a, m, c, k, N, S, l, F, rfl, -⟩ := h; rfl
theorem NdIn.v {eI eV : TypeId} {base : Nat} {w : World} {n : Nd} {C : List Value} {g : Option Nat} (h : NdIn eI eV base w n C g) : NdV w n (.agg C.toArray) := by
  obtain ⟨a, m, c, k, N, S, l, F, rfl, h1, -, h2, -, h3⟩ := h
  obtain ⟨w1, w2, w3, w4, w5, w6, w7, w8, w9, w10, w11⟩ := h3
  exact ⟨a, m, c, k, N, S, l, rfl, h1.row w11, h2.lies, w1, w2, w3, w4, w5, w6, w7, w8, w9⟩
theorem NdIn.keep {eI eV : TypeId} {base : Nat} {w w' : World} {n : Nd} {C : List Value} {g g' row : Option Nat} (h : NdIn eI eV base w n C g) (hg : w.grownBy w' row) (hr : ∀ b, row = some b → b < base ∨ g = some b) (hat : ∀ b, g' = some b → g = some b ∨ w.heap.size ≤ b) : NdIn eI eV base w' n C g' := by
  obtain ⟨a, m, c, k, N, S, l, F, rfl, h1, h2, h3, h4, h5⟩ := h
  refine ⟨a, m, c, k, N, S, l, F, rfl, ?_, fun b hb e => ?_, h3.grown hg (fun b hb hF => ?_), fun b hb e => ?_, h5⟩
  · refine World.ownsRow.kept h1 hg ?_
    cases hv : (Value.slice a m c).ownBlock with
    | none => exact .inl rfl
    | some b =>
      right; intro e
      rcases hr b e.symm with q | q
      · have := (World.ownsRow.lt h1 b hv).1; omega
      · exact h2 b hv q
  · rcases hat b e with q | q
    · exact h2 b hb q
    · have := (World.ownsRow.lt h1 b hb).2; omega
  · rcases hr b hb with q | q
    · have := (h3.bounds b hF).1; omega
    · exact h4 b hF q
  · rcases hat b e with q | q
    · exact h4 b hb q
    · have := (h3.bounds b hb).2; omega
/-- Nodes in memory of their own. -/
def OwnNds (eN eI eV : TypeId) (base : Nat) (w : World) (v : Value) (l : List Nd) : Prop :=
  ∃ cs : List (List Value), cs.length = l.length ∧ w.ownsRow base eN 16 v l.length cs.flatten ∧ ∀ (i : Nat) (hi : i < l.length) (hc : i < cs.length), NdIn eI eV base w l[i] cs[i] v.ownBlock
theorem OwnNds.nil (eN eI eV : TypeId) (base : Nat) (w : World) : OwnNds eN eI eV base w (.slice none 0 0) [] := ⟨[], rfl, World.ownsRow_nil w base eN 16, fun i hi => by simp at hi⟩
theorem OwnNds.kept {eN eI eV : TypeId} {base : Nat} {w w' : World} {v : Value} {l : List Nd} {row : Option Nat} (h : OwnNds eN eI eV base w v l) (hg : w.grownBy w' row) (hr : ∀ b, row = some b → b < base) : OwnNds eN eI eV base w' v l := by
  obtain ⟨cs, h1, h2, h3⟩ := h
  have hlt := h2.lt
  refine ⟨cs, h1, h2.kept hg ?_, fun i hi hc => (h3 i hi hc).keep hg (fun b hb => .inl (hr b hb)) (fun b hb => .inl hb)⟩
  cases hv : v.ownBlock with
  | none => exact .inl rfl
  | some b => right; exact fun e => by have := hr b e.symm; have := (hlt b hv).1; omega
theorem OwnNds.ext {eN eI eV : TypeId} {base : Nat} {w w' : World} {v : Value} {l : List Nd} (h : OwnNds eN eI eV base w v l) (hE : Ext w w') : OwnNds eN eI eV base w' v l := h.kept (row := none) hE.grownBy (fun b hb => by cases hb)
theorem NdIn.mono {eI eV : TypeId} {base base' : Nat} {w : World} {n : Nd} {C : List Value} {g : Option Nat} (h : NdIn eI eV base w n C g) (hb : base' ≤ base) : NdIn eI eV base' w n C g := by
  obtain ⟨a, m, c, k, N, S, l, F, rfl, h1, h2, h3, h4, h5⟩ := h
  exact ⟨a, m, c, k, N, S, l, F, rfl, h1.mono hb, h2, h3.mono hb, h4, h5⟩
theorem OwnNds.mono {eN eI eV : TypeId} {base base' : Nat} {w : World} {v : Value} {l : List Nd} (h : OwnNds eN eI eV base w v l) (hb : base' ≤ base) : OwnNds eN eI eV base' w v l := by
  obtain ⟨cs, h1, h2, h3⟩ := h
  exact ⟨cs, h1, ownsRow_base h2 hb, fun i hi hc => (h3 i hi hc).mono hb⟩
theorem flat16 : ∀ (cs : List (List Value)) (i j : Nat) (hi : i < cs.length), (∀ C, C ∈ cs → C.length = 16) → j < 16 → cs.flatten[i * 16 + j]? = cs[i][j]?
  | [], i, _, hi, _, _ => by simp at hi
  | C :: cs, 0, j, _, h, hj => by
    have := h C (List.mem_cons_self ..)
    rw [List.flatten_cons, List.getElem?_append_left (by omega)]
    simp
  | C :: cs, i + 1, j, hi, h, hj => by
    have hC := h C (List.mem_cons_self ..)
    have ih := flat16 cs i j (by simpa using hi) (fun D hD => h D (List.mem_cons_of_mem _ hD)) hj
    rw [List.flatten_cons, List.getElem?_append_right (by omega)]
    have e : (i + 1) * 16 + j - C.length = i * 16 + j := by omega
    rw [e, ih]
    simp
theorem OwnNds.row {eN eI eV : TypeId} {base : Nat} {w : World} {v : Value} {l : List Nd} (h : OwnNds eN eI eV base w v l) : ndE.Row w l v := by
  obtain ⟨cs, h1, h2, h3⟩ := h
  have hc := fun g => World.ownsRow.cells h2 (g := g)
  have h16 : ∀ C, C ∈ cs → C.length = 16 := fun C hC => by
    obtain ⟨i, hi, rfl⟩ := List.getElem_of_mem hC
    exact (h3 i (by omega) hi).cells
  rcases h2.2 with ⟨rfl, h0⟩ | ⟨g, cap, cur, rfl, hb, hg, hl, hm, h5, h6⟩
  · have : l = [] := List.eq_nil_of_length_eq_zero h0
    subst this
    exact Elem.Row.void ndE w none
  · refine Elem.Row.mk rfl hl hm (Array.getElem?_eq_some_iff.1 hg).1 (fun i hi => ?_)
    have hd : i < cs.length := by omega
    have hn := h3 i hi hd
    refine ⟨fun j => cs[i].getD j .nilFunc, ?_, fun j hj => ?_⟩
    · obtain ⟨a, m, c, k, N, S, x, F, e, k1, -, k2, -, k3⟩ := hn
      obtain ⟨w1, w2, w3, w4, w5, w6, w7, w8, w9, w10, w11⟩ := k3
      rw [e]
      exact ⟨⟨rfl, rfl, rfl, rfl, rfl, rfl⟩, k1.row w11, ⟨rfl, rfl, rfl, rfl, rfl⟩, k2.lies, w1, w2, w3, w4, w5, w6, w7, w8, w9⟩
    · have hj16 : j < 16 := hj
      have hlen := hn.cells
      have := hc g rfl (i * 16 + j) (cs[i].getD j .nilFunc) (by
        rw [flat16 cs i j hd h16 hj16, List.getD_eq_getElem?_getD, List.getElem?_eq_getElem (by omega)]; rfl)
      rw [Addr.add_lit] at this
      exact this
theorem OwnNds.snoc {eN eI eV : TypeId} {base : Nat} {w w' : World} {v v' : Value} {l : List Nd} {n : Nd} {C : List Value} {cs : List (List Value)} (h1 : cs.length = l.length)
    (h3 : ∀ (i : Nat) (hi : i < l.length) (hc : i < cs.length), NdIn eI eV base w l[i] cs[i] v.ownBlock) (hn : NdIn eI eV base w n C v.ownBlock)
    (hrow : w'.ownsRow base eN 16 v' (l.length + 1) (cs.flatten ++ C)) (hg : w.grownBy w' v.ownBlock) (hat : v'.ownBlock = v.ownBlock ∨ v'.ownBlock = some w.heap.size) : OwnNds eN eI eV base w' v' (l ++ [n]) := by
  have keep : ∀ (m : Nd) (D : List Value), NdIn eI eV base w m D v.ownBlock → NdIn eI eV base w' m D v'.ownBlock := fun m D h =>
    h.keep hg (fun b hb => .inr hb) (fun b hb => by
      rcases hat with e | e
      · left; rw [← e]; exact hb
      · right; rw [e] at hb; injection hb with hb; omega)
  refine ⟨cs ++ [C], by simp [h1], by rw [List.length_append, List.flatten_append]; simpa using hrow, fun i hi hid => ?_⟩
  by_cases hil : i < l.length
  · have hil2 : i < cs.length := by omega
    rw [List.getElem_append_left hil, List.getElem_append_left hil2]
    exact keep _ _ (h3 i hil hil2)
  · have e1 : i = l.length := by simp at hi; omega
    subst e1
    have e2 : (cs ++ [C])[l.length]'hid = C := by rw [List.getElem_append_right (by omega)]; simp [h1]
    rw [List.getElem_append_right (Nat.le_refl _), e2]
    simp only [Nat.sub_self, List.getElem_cons_zero]
    exact keep _ _ hn
/-- A state in memory of its own. -/
def SnOwn (eN eI eV : TypeId) (base : Nat) (w : World) (s : Sn) (v : Value) : Prop :=
  ∃ (a : Option Addr) (m c : Nat), v = .agg #[.int .i64 s.cq, .int .i64 s.cd, .int .i64 s.cw, .int .i64 s.cr, .int .i64 s.cf, .int .i64 s.flows, .slice a m c, .int .i64 s.tok] ∧ OwnNds eN eI eV base w (.slice a m c) s.nodes ∧
    isI64 s.cq ∧ isI64 s.cd ∧ isI64 s.cw ∧ isI64 s.cr ∧ isI64 s.cf ∧ isI64 s.flows ∧ isI64 s.tok
theorem SnOwn.v {eN eI eV : TypeId} {base : Nat} {w : World} {s : Sn} {v : Value} (h : SnOwn eN eI eV base w s v) : SnV w s v := by
  obtain ⟨a, m, c, h1, h2, h3⟩ := h
  exact ⟨a, m, c, h1, h2.row, h3⟩
theorem SnOwn.kept {eN eI eV : TypeId} {base : Nat} {w w' : World} {s : Sn} {v : Value} {row : Option Nat} (h : SnOwn eN eI eV base w s v) (hg : w.grownBy w' row) (hr : ∀ b, row = some b → b < base) : SnOwn eN eI eV base w' s v := by
  obtain ⟨a, m, c, h1, h2, h3⟩ := h
  exact ⟨a, m, c, h1, h2.kept hg hr, h3⟩
theorem SnOwn.ext {eN eI eV : TypeId} {base : Nat} {w w' : World} {s : Sn} {v : Value} (h : SnOwn eN eI eV base w s v) (hE : Ext w w') : SnOwn eN eI eV base w' s v := h.kept (row := none) hE.grownBy (fun b hb => by cases hb)

/-! ### Parse's steps -/
def z8 : List Value := [.int .i64 0, .int .i64 0, .int .i64 0, .int .i64 0, .int .i64 0, .int .i64 0, .slice none 0 0, .int .i64 0]
structure PSt (w wr : World) (ss : List Value) : Prop where
  e : Ext w wr
  pb : BoxL wr w.heap.size z8
  sb : BoxL wr (w.heap.size + 1 + 1) ss
theorem PSt.then {w wr wx : World} {ss : List Value} (h : PSt w wr ss) (hE : Ext wr wx) : PSt w wx ss := ⟨h.e.trans hE, h.pb.ext hE, h.sb.ext hE⟩
theorem PSt.step {w wr wx : World} {ss : List Value} (h : PSt w wr ss) (hg : wr.grownBy wx (some (w.heap.size + 1))) : PSt w wx ss :=
  ⟨h.e.grown hg (fun k hk => by injection hk with hk; omega), h.pb.kept hg (fun e => by injection e with e; omega), h.sb.kept hg (fun e => by injection e with e; omega)⟩
theorem PSt.far {w wr wx : World} {ss : List Value} (h : PSt w wr ss) {row : Option Nat} (hg : wr.grownBy wx row) (hr : ∀ k, row = some k → w.heap.size + 1 + 1 < k) : PSt w wx ss :=
  ⟨h.e.grown hg (fun k hk => by have := hr k hk; omega), h.pb.kept hg (fun e => by have := hr _ e; omega), h.sb.kept hg (fun e => by have := hr _ e; omega)⟩
theorem PSt.set {w wr : World} {ss : List Value} (h : PSt w wr ss) (j : Nat) (hj : j < ss.length) (u : Value) : PSt w (wr.setCell ⟨w.heap.size + 1 + 1, j, none⟩ u) (ss.set j u) := by
  have hg := setOne_grown wr (w.heap.size + 1 + 1) j u
  exact ⟨h.e.grown hg (fun k hk => by injection hk with hk; omega), h.pb.kept hg (fun e => by injection e with e; omega), h.sb.set j hj u⟩
end Fm
