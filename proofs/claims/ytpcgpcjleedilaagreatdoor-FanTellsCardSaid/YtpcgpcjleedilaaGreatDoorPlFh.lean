/- Nodes in a row of one's own, that stay what they are whatever becomes of that row: plain facts. No program is imported. -/
import Derived.Test.YtpcgpcjleedilaaGreatDoorPlI
import Derived.Deep.MidRow
namespace Fm
open Go Go.RowKit

/-! ### whose -/
def stpW (s : Stp) : Nat := if s.place = -1 then 1 else 2
def deepP (p : Pth) : Nat := (p.steps.map stpW).sum
def upS (x : Stp) : List Stp := if x.place = -1 then [] else [⟨x.name, -1⟩]
def upP (p : Pth) : Option Pth :=
  match p.steps.getLast? with
  | none => none
  | some x => some ⟨p.flow, p.steps.dropLast ++ upS x⟩
theorem upP_nil {p : Pth} (h : p.steps = []) : upP p = none := by unfold upP; rw [h]; rfl
theorem upP_snoc {p : Pth} {l : List Stp} {x : Stp} (h : p.steps = l ++ [x]) : upP p = some ⟨p.flow, l ++ upS x⟩ := by
  unfold upP; rw [h]; simp
theorem snoc_cases {α : Type} (l : List α) : l = [] ∨ ∃ m x, l = m ++ [x] := by
  rcases List.eq_nil_or_concat l with h | ⟨m, x, h⟩
  · exact .inl h
  · exact .inr ⟨m, x, by rw [h, List.concat_eq_append]⟩
theorem upP_none {p : Pth} : upP p = none ↔ p.steps = [] := by
  constructor
  · intro h
    rcases snoc_cases p.steps with h1 | ⟨l, x, h1⟩
    · exact h1
    · rw [upP_snoc h1] at h; cases h
  · exact upP_nil
theorem upP_some {p q : Pth} (h : upP p = some q) : ∃ l x, p.steps = l ++ [x] ∧ q = ⟨p.flow, l ++ upS x⟩ := by
  rcases snoc_cases p.steps with h1 | ⟨l, x, h1⟩
  · rw [upP_nil h1] at h; cases h
  · rw [upP_snoc h1] at h; injection h with h
    exact ⟨l, x, h1, h.symm⟩
theorem deep_append (f : Int) (l m : List Stp) : deepP ⟨f, l ++ m⟩ = deepP ⟨f, l⟩ + deepP ⟨f, m⟩ := by unfold deepP; simp
theorem upP_deep {p q : Pth} (h : upP p = some q) : deepP p = deepP q + 1 := by
  obtain ⟨l, x, h1, rfl⟩ := upP_some h
  obtain ⟨f, s⟩ := p
  simp only at h1
  subst h1
  rw [deep_append, deep_append]
  have : deepP ⟨f, [x]⟩ = deepP ⟨f, upS x⟩ + 1 := by
    unfold deepP upS stpW
    by_cases hx : x.place = -1
    · simp [hx]
    · simp [hx]
  simp only
  omega
theorem deepP_zero {p : Pth} : deepP p = 0 ↔ p.steps = [] := by
  constructor
  · intro h
    cases hu : upP p with
    | none => exact upP_none.1 hu
    | some q => have := upP_deep hu; omega
  · intro h; unfold deepP; rw [h]; rfl
theorem upP_right {p q : Pth} (hp : pthB p = true) (h : upP p = some q) : pthB q = true := by
  obtain ⟨l, x, h1, rfl⟩ := upP_some h
  obtain ⟨a, b⟩ := pthB_iff.1 hp
  refine pthB_iff.2 ⟨a, fun s hs => ?_⟩
  rw [h1] at b
  rcases List.mem_append.1 hs with hs | hs
  · exact b s (List.mem_append_left _ hs)
  · have hx := b x (by simp)
    unfold upS at hs
    split at hs
    · cases hs
    · rw [List.mem_singleton] at hs
      subst hs
      exact stpB_iff.2 ⟨(stpB_iff.1 hx).1, .inl rfl⟩
theorem upP_len {p q : Pth} (h : upP p = some q) : (pthS q).length < (pthS p).length := by
  obtain ⟨l, x, h1, rfl⟩ := upP_some h
  unfold pthS
  rw [h1, stepsS_append, stepsS_append]
  simp only [List.length_append]
  have : (stepsS (upS x)).length < (stepsS [x]).length := by
    unfold upS
    split
    · simp [stepsS, stpS]
    · rename_i hx
      simp [stepsS, stpS, placeS, hx]
  omega
/-- All that are above, the nearest ahead. -/
def chainF : Nat → Pth → List Pth
  | 0, _ => []
  | n + 1, p => match upP p with
    | none => []
    | some q => q :: chainF n q
def chainP (p : Pth) : List Pth := chainF (deepP p) p
theorem chainP_some {p q : Pth} (h : upP p = some q) : chainP p = q :: chainP q := by
  unfold chainP
  rw [upP_deep h, chainF, h]
theorem deep_ind {motive : Pth → Prop} (h0 : ∀ p, upP p = none → motive p) (h1 : ∀ p q, upP p = some q → motive q → motive p) : ∀ p, motive p := by
  have : ∀ n p, deepP p = n → motive p := by
    intro n
    induction n with
    | zero =>
      intro p hp
      exact h0 p (upP_none.2 (deepP_zero.1 hp))
    | succ n ih =>
      intro p hp
      cases hu : upP p with
      | none => exact h0 p hu
      | some q => exact h1 p q hu (ih q (by have := upP_deep hu; omega))
  exact fun p => this _ p rfl
noncomputable def aboveP (p q : Pth) : Bool := @decide (p ∈ chainP q) (Classical.propDecidable _)
theorem aboveP_iff {p q : Pth} : aboveP p q = true ↔ p ∈ chainP q := by unfold aboveP; exact @decide_eq_true_iff _ (Classical.propDecidable _)
end Fm

namespace Fm
open Go Go.RowKit

def idP (p : Pth) : List UInt8 := if (showP p).length ≤ 400 then showP p else []
def eachS (s : List UInt8) (k : Int) : List UInt8 :=
  match parseP s with
  | none => []
  | some p => match p.steps.getLast? with
    | none => []
    | some x => if x.place = -1 ∧ k ≠ -1 then idP ⟨p.flow, p.steps.dropLast ++ [⟨x.name, k⟩]⟩ else []
def ownerS (s : List UInt8) : Option (List UInt8) := (parseP s).bind fun p => (upP p).map showP
noncomputable def aboveS (a b : List UInt8) : Bool :=
  match parseP a with
  | none => false
  | some p => match parseP b with
    | none => false
    | some q => aboveP p q
theorem parseP_show {s : List UInt8} {p : Pth} (h : parseP s = some p) : pthB p = true ∧ showP p = s ∧ pthS p = s ∧ s.length ≤ 400 ∧ s ≠ [] := by
  obtain ⟨a, b, c⟩ := parseP_iff.1 h
  exact ⟨a, by rw [showP_right a, b], b, c, by rw [← b]; exact pthS_ne p⟩
theorem parseP_of {p : Pth} (h : pthB p = true) (hl : (pthS p).length ≤ 400) : parseP (pthS p) = some p := parseP_iff.2 ⟨h, rfl, hl⟩
theorem parseP_up {s : List UInt8} {p q : Pth} (h : parseP s = some p) (hu : upP p = some q) : parseP (pthS q) = some q ∧ showP q = pthS q := by
  obtain ⟨a, b, c⟩ := parseP_iff.1 h
  have hq := upP_right a hu
  have hl := upP_len hu
  exact ⟨parseP_of hq (by rw [b] at hl; omega), showP_right hq⟩
/-- One is directly above the other. -/
def Kid (s x : List UInt8) : Prop := ∃ p q, parseP s = some p ∧ parseP x = some q ∧ upP q = some p
theorem Kid.owner {s x : List UInt8} (h : Kid s x) : ownerS x = some s := by
  obtain ⟨p, q, h1, h2, h3⟩ := h
  unfold ownerS
  rw [h2, Option.bind_some, h3, Option.map_some, (parseP_show h1).2.1]
theorem Kid.top {s x t : List UInt8} (h : Kid s x) (ht : ownerS s = some t) : aboveS t x = true := by
  obtain ⟨p, q, h1, h2, h3⟩ := h
  unfold ownerS at ht
  rw [h1, Option.bind_some] at ht
  obtain ⟨r, h4, h5⟩ := Option.map_eq_some_iff.1 ht
  obtain ⟨h6, h7⟩ := parseP_up h1 h4
  rw [h7] at h5
  subst h5
  unfold aboveS
  rw [h6, h2]
  rw [aboveP_iff, chainP_some h3, chainP_some h4]
  simp
/-! ### which is ahead -/
theorem deepP_le {s : List UInt8} {p : Pth} (h : parseP s = some p) : deepP p ≤ 400 := by
  have key : ∀ q : Pth, deepP q ≤ (pthS q).length := by
    intro q
    induction q using deep_ind with
    | h0 q h => rw [deepP_zero.2 (upP_none.1 h)]; omega
    | h1 q r h ih => have := upP_deep h; have := upP_len h; omega
  have := key p
  have := (parseP_show h).2.2.1
  have := (parseP_show h).2.2.2.1
  rw [← (parseP_show h).2.2.1] at this
  omega
end Fm

namespace Fm
open Go Go.RowKit

/-- An operation. -/
structure Opn where
  what : UInt8
  id : List UInt8
  tok : Int
  val : Tr
  frg : List It
  quo : Int

def zT : Tr := .node 0 0 [] []
/-- Numbers that 64 bits hold. -/
def opWf (o : Opn) : Prop := o.id.length ≤ 9223372036854775807 ∧ isI64 o.tok ∧ NumsT o.val ∧ isI64 o.quo

/-- An operation that is handed in. -/
def OpV (w : World) (o : Opn) (v : Value) : Prop :=
  ∃ (k n s d : Value) (a : Option Addr) (m c : Nat), v = .agg #[.int .u8 (o.what.toNat : Int), .string (str o.id), .int .i64 o.tok, k, n, s, d, .slice a m c, .int .i64 o.quo] ∧ Lies w o.val (.agg #[k, n, s, d]) ∧ itE.Row w o.frg (.slice a m c) ∧ o.id.length ≤ 9223372036854775807 ∧ isI64 o.tok ∧ isI64 o.quo
theorem OpV.ext {w w' : World} {o : Opn} {v : Value} (h : OpV w o v) (hE : Ext w w') : OpV w' o v := by
  obtain ⟨k, n, s, d, a, m, c, h1, h2, h3, h4⟩ := h
  exact ⟨k, n, s, d, a, m, c, h1, h2.ext hE, h3.ext hE, h4⟩
theorem OpV.wf {w : World} {o : Opn} {v : Value} (h : OpV w o v) : opWf o := by
  obtain ⟨k, n, s, d, a, m, c, h1, h2, h3, h4, h5, h6⟩ := h
  exact ⟨h4, h5, h2.nums, h6⟩
/-- A call's results' box is written on the way. -/
structure OSt (w W : World) (vs : List Value) : Prop where
  e : Ext w W
  b : BoxL W w.heap.size vs
theorem OSt.set {w W : World} {vs : List Value} (h : OSt w W vs) (j : Nat) (hj : j < vs.length) (u : Value) : OSt w (W.setCell ⟨w.heap.size, j, none⟩ u) (vs.set j u) :=
  ⟨h.e.setCell (p := ⟨w.heap.size, j, none⟩) (Nat.le_refl _) u, h.b.set j hj u⟩
theorem OSt.ext {w W W' : World} {vs : List Value} (h : OSt w W vs) (hE : Ext W W') : OSt w W' vs := ⟨h.e.trans hE, h.b.ext hE⟩
end Fm

namespace Fm
open Go Go.RowKit

/-- A node. -/
structure Nd where
  id : List UInt8
  name : List UInt8
  kind : UInt8
  flow : Int
  owner : Int
  place : Int
  after : List Int
  width : Int
  quota : Int
  stand : UInt8
  fails : Int
  tok : Int
  val : Tr
/-- A state. -/
structure Sn where
  cq : Int
  cd : Int
  cw : Int
  cr : Int
  cf : Int
  flows : Int
  nodes : List Nd
  tok : Int

noncomputable def eqNd (o p : Nd) : Bool := @decide (o = p) (Classical.propDecidable _)
theorem eqNd_iff {o p : Nd} : eqNd o p = true ↔ o = p := by unfold eqNd; exact @decide_eq_true_iff _ (Classical.propDecidable _)
noncomputable def eqSn (o p : Sn) : Bool := @decide (o = p) (Classical.propDecidable _)
theorem eqSn_iff {o p : Sn} : eqSn o p = true ↔ o = p := by unfold eqSn; exact @decide_eq_true_iff _ (Classical.propDecidable _)
/-- Numbers that 64 bits hold. -/
def ndWf (n : Nd) : Prop := n.id.length ≤ 9223372036854775807 ∧ n.name.length ≤ 9223372036854775807 ∧ isI64 n.flow ∧ isI64 n.owner ∧ isI64 n.place ∧ isI64 n.width ∧ isI64 n.quota ∧ isI64 n.fails ∧ isI64 n.tok ∧ NumsT n.val ∧ ∀ i, i ∈ n.after → isI64 i
def snWf (s : Sn) : Prop := isI64 s.cq ∧ isI64 s.cd ∧ isI64 s.cw ∧ isI64 s.cr ∧ isI64 s.cf ∧ isI64 s.flows ∧ isI64 s.tok ∧ ∀ n, n ∈ s.nodes → ndWf n

/-! ### bytes -/
theorem four {l : List Int} (h : l.length = 4) : ∃ a b c d, l = [a, b, c, d] := by
  match l, h with
  | [a, b, c, d], _ => exact ⟨a, b, c, d, rfl⟩
/-- How a node lies in cells. -/
def ndE : Elem Nd where
  sz := 16
  R w x c := (c 0 = .string (str x.id) ∧ c 1 = .string (str x.name) ∧ c 2 = .int .u8 (x.kind.toNat : Int) ∧ c 3 = .int .i64 x.flow ∧ c 4 = .int .i64 x.owner ∧ c 5 = .int .i64 x.place) ∧ intE.Row w x.after (c 6) ∧
    (c 7 = .int .i64 x.width ∧ c 8 = .int .i64 x.quota ∧ c 9 = .int .u8 (x.stand.toNat : Int) ∧ c 10 = .int .i64 x.fails ∧ c 11 = .int .i64 x.tok) ∧ Lies w x.val (.agg #[c 12, c 13, c 14, c 15]) ∧
    x.id.length ≤ 9223372036854775807 ∧ x.name.length ≤ 9223372036854775807 ∧ isI64 x.flow ∧ isI64 x.owner ∧ isI64 x.place ∧ isI64 x.width ∧ isI64 x.quota ∧ isI64 x.fails ∧ isI64 x.tok
  ext hx h := ⟨h.1, h.2.1.ext hx, h.2.2.1, h.2.2.2.1.ext hx, h.2.2.2.2⟩
  loc {w x c d} hc h := by
    obtain ⟨⟨a0, a1, a2, a3, a4, a5⟩, a6, ⟨a7, a8, a9, a10, a11⟩, a12, a13⟩ := h
    refine ⟨⟨?_, ?_, ?_, ?_, ?_, ?_⟩, ?_, ⟨?_, ?_, ?_, ?_, ?_⟩, ?_, a13⟩
    · rw [← hc 0 (by omega)]; exact a0
    · rw [← hc 1 (by omega)]; exact a1
    · rw [← hc 2 (by omega)]; exact a2
    · rw [← hc 3 (by omega)]; exact a3
    · rw [← hc 4 (by omega)]; exact a4
    · rw [← hc 5 (by omega)]; exact a5
    · rw [← hc 6 (by omega)]; exact a6
    · rw [← hc 7 (by omega)]; exact a7
    · rw [← hc 8 (by omega)]; exact a8
    · rw [← hc 9 (by omega)]; exact a9
    · rw [← hc 10 (by omega)]; exact a10
    · rw [← hc 11 (by omega)]; exact a11
    · rw [← hc 12 (by omega), ← hc 13 (by omega), ← hc 14 (by omega), ← hc 15 (by omega)]; exact a12
/-- A node's cells. -/
def ndCells (n : Nd) (d k v s l : Value) : List Value := [.string (str n.id), .string (str n.name), .int .u8 (n.kind.toNat : Int), .int .i64 n.flow, .int .i64 n.owner, .int .i64 n.place, d, .int .i64 n.width, .int .i64 n.quota, .int .u8 (n.stand.toNat : Int), .int .i64 n.fails, .int .i64 n.tok, k, v, s, l]
theorem BoxL.n16 {w : World} {b : Nat} {c0 c1 c2 c3 c4 c5 c6 c7 c8 c9 c10 c11 c12 c13 c14 c15 : Value} (h : BoxL w b [c0, c1, c2, c3, c4, c5, c6, c7, c8, c9, c10, c11, c12, c13, c14, c15]) : w.cell? ⟨b, 0, none⟩ = some c0 ∧ w.cell? ⟨b, 1, none⟩ = some c1 ∧ w.cell? ⟨b, 2, none⟩ = some c2 ∧ w.cell? ⟨b, 3, none⟩ = some c3 ∧ w.cell? ⟨b, 4, none⟩ = some c4 ∧ w.cell? ⟨b, 5, none⟩ = some c5 ∧ w.cell? ⟨b, 6, none⟩ = some c6 ∧ w.cell? ⟨b, 7, none⟩ = some c7 ∧ w.cell? ⟨b, 8, none⟩ = some c8 ∧ w.cell? ⟨b, 9, none⟩ = some c9 ∧ w.cell? ⟨b, 10, none⟩ = some c10 ∧ w.cell? ⟨b, 11, none⟩ = some c11 ∧ w.cell? ⟨b, 12, none⟩ = some c12 ∧ w.cell? ⟨b, 13, none⟩ = some c13 ∧ w.cell? ⟨b, 14, none⟩ = some c14 ∧ w.cell? ⟨b, 15, none⟩ = some c15 :=
  ⟨h.cell 0 _ rfl, h.cell 1 _ rfl, h.cell 2 _ rfl, h.cell 3 _ rfl, h.cell 4 _ rfl, h.cell 5 _ rfl, h.cell 6 _ rfl, h.cell 7 _ rfl, h.cell 8 _ rfl, h.cell 9 _ rfl, h.cell 10 _ rfl, h.cell 11 _ rfl, h.cell 12 _ rfl, h.cell 13 _ rfl, h.cell 14 _ rfl, h.cell 15 _ rfl⟩
theorem BoxL.n8 {w : World} {b : Nat} {c0 c1 c2 c3 c4 c5 c6 c7 : Value} (h : BoxL w b [c0, c1, c2, c3, c4, c5, c6, c7]) : w.cell? ⟨b, 0, none⟩ = some c0 ∧ w.cell? ⟨b, 1, none⟩ = some c1 ∧ w.cell? ⟨b, 2, none⟩ = some c2 ∧ w.cell? ⟨b, 3, none⟩ = some c3 ∧ w.cell? ⟨b, 4, none⟩ = some c4 ∧ w.cell? ⟨b, 5, none⟩ = some c5 ∧ w.cell? ⟨b, 6, none⟩ = some c6 ∧ w.cell? ⟨b, 7, none⟩ = some c7 :=
  ⟨h.cell 0 _ rfl, h.cell 1 _ rfl, h.cell 2 _ rfl, h.cell 3 _ rfl, h.cell 4 _ rfl, h.cell 5 _ rfl, h.cell 6 _ rfl, h.cell 7 _ rfl⟩
/-- A node that is handed in. -/
def NdV (w : World) (n : Nd) (v : Value) : Prop :=
  ∃ (a : Option Addr) (m c : Nat) (k N s l : Value), v = .agg (ndCells n (.slice a m c) k N s l).toArray ∧ intE.Row w n.after (.slice a m c) ∧ Lies w n.val (.agg #[k, N, s, l]) ∧
    n.id.length ≤ 9223372036854775807 ∧ n.name.length ≤ 9223372036854775807 ∧ isI64 n.flow ∧ isI64 n.owner ∧ isI64 n.place ∧ isI64 n.width ∧ isI64 n.quota ∧ isI64 n.fails ∧ isI64 n.tok
theorem NdV.ext {w w' : World} {n : Nd} {v : Value} (h : NdV w n v) (hE : Ext w w') : NdV w' n v := by
  obtain ⟨a, m, c, k, N, s, l, h1, h2, h3, h4⟩ := h
  exact ⟨a, m, c, k, N, s, l, h1, h2.ext hE, h3.ext hE, h4⟩
theorem intRow_i64 {w : World} {l : List Int} {v : Value} (h : intE.Row w l v) : ∀ i, i ∈ l → isI64 i := by
  obtain ⟨a, cap, hv, h1, h2, h3, C, h4, h5⟩ := h
  intro i hi
  obtain ⟨j, hj, rfl⟩ := List.getElem_of_mem hi
  exact (h5 j hj).2
theorem NdV.wf {w : World} {n : Nd} {v : Value} (h : NdV w n v) : ndWf n := by
  obtain ⟨a, m, c, k, N, s, l, h1, h2, h3, h4, h5, h6, h7, h8, h9, h10, h11, h12⟩ := h
  exact ⟨h4, h5, h6, h7, h8, h9, h10, h11, h12, h3.nums, intRow_i64 h2⟩
/-- A state that is handed in. -/
def SnV (w : World) (s : Sn) (v : Value) : Prop :=
  ∃ (a : Option Addr) (m c : Nat), v = .agg #[.int .i64 s.cq, .int .i64 s.cd, .int .i64 s.cw, .int .i64 s.cr, .int .i64 s.cf, .int .i64 s.flows, .slice a m c, .int .i64 s.tok] ∧ ndE.Row w s.nodes (.slice a m c) ∧
    isI64 s.cq ∧ isI64 s.cd ∧ isI64 s.cw ∧ isI64 s.cr ∧ isI64 s.cf ∧ isI64 s.flows ∧ isI64 s.tok
theorem SnV.ext {w w' : World} {s : Sn} {v : Value} (h : SnV w s v) (hE : Ext w w') : SnV w' s v := by
  obtain ⟨a, m, c, h1, h2, h3⟩ := h
  exact ⟨a, m, c, h1, h2.ext hE, h3⟩
/-- An element of a slice of nodes, in a world that has grown. -/
theorem nd_at {w wr : World} {l : List Nd} {a : Option Addr} {n cap : Nat} (h : ndE.Row w l (.slice a n cap)) (hE : Ext w wr) (i : Nat) (hi : i < l.length) :
    ∃ (b off : Nat), a = some ⟨b, off, none⟩ ∧ b < w.heap.size ∧ ∃ (aa : Option Addr) (m c : Nat) (k N s d : Value), (∀ j v, (ndCells l[i] (.slice aa m c) k N s d)[j]? = some v → wr.cell? ⟨b, off + (i * 16 + j), none⟩ = some v) ∧
      NdV w l[i] (.agg (ndCells l[i] (.slice aa m c) k N s d).toArray) := by
  obtain ⟨hn, b, off, ha, hb, hc⟩ := h.at (by omega)
  obtain ⟨c, hR, hcell⟩ := hc i hi
  obtain ⟨⟨a0, a1, a2, a3, a4, a5⟩, a6, ⟨a7, a8, a9, a10, a11⟩, a12, a13⟩ := hR
  obtain ⟨aa, cc, e2, _⟩ := a6.slice
  refine ⟨b, off, ha, hb, aa, l[i].after.length, cc, c 12, c 13, c 14, c 15, fun j v hj => ?_, aa, _, cc, c 12, c 13, c 14, c 15, rfl, by rw [← e2]; exact a6, a12, a13⟩
  have hj16 : j < 16 := by
    have : j < (ndCells l[i] (.slice aa l[i].after.length cc) (c 12) (c 13) (c 14) (c 15)).length := by
      rcases Nat.lt_or_ge j (ndCells l[i] (.slice aa l[i].after.length cc) (c 12) (c 13) (c 14) (c 15)).length with h | h
      · exact h
      · rw [List.getElem?_eq_none h] at hj; cases hj
    exact this
  have := hcell j hj16 wr hE
  refine this.trans ?_
  rw [← hj]
  rcases (by omega : j = 0 ∨ j = 1 ∨ j = 2 ∨ j = 3 ∨ j = 4 ∨ j = 5 ∨ j = 6 ∨ j = 7 ∨ j = 8 ∨ j = 9 ∨ j = 10 ∨ j = 11 ∨ j = 12 ∨ j = 13 ∨ j = 14 ∨ j = 15) with rfl | rfl | rfl | rfl | rfl | rfl | rfl | rfl | rfl | rfl | rfl | rfl | rfl | rfl | rfl | rfl
  · rw [a0]; rfl
  · rw [a1]; rfl
  · rw [a2]; rfl
  · rw [a3]; rfl
  · rw [a4]; rfl
  · rw [a5]; rfl
  · rw [e2]; rfl
  · rw [a7]; rfl
  · rw [a8]; rfl
  · rw [a9]; rfl
  · rw [a10]; rfl
  · rw [a11]; rfl
  all_goals rfl
/-- The same, cell by cell. -/
theorem nd_at16 {w wr : World} {l : List Nd} {a : Option Addr} {n cap : Nat} (h : ndE.Row w l (.slice a n cap)) (hE : Ext w wr) (i : Nat) (hi : i < l.length) :
    ∃ (b off : Nat), a = some ⟨b, off, none⟩ ∧ b < w.heap.size ∧ ∃ (aa : Option Addr) (m c : Nat) (k N s d : Value), (wr.cell? ⟨b, off + i * 16, none⟩ = some (.string (str l[i].id)) ∧ wr.cell? ⟨b, off + i * 16 + 1, none⟩ = some (.string (str l[i].name)) ∧ wr.cell? ⟨b, off + i * 16 + 2, none⟩ = some (.int .u8 (l[i].kind.toNat : Int)) ∧ wr.cell? ⟨b, off + i * 16 + 3, none⟩ = some (.int .i64 l[i].flow) ∧ wr.cell? ⟨b, off + i * 16 + 4, none⟩ = some (.int .i64 l[i].owner) ∧ wr.cell? ⟨b, off + i * 16 + 5, none⟩ = some (.int .i64 l[i].place) ∧ wr.cell? ⟨b, off + i * 16 + 6, none⟩ = some (.slice aa m c) ∧ wr.cell? ⟨b, off + i * 16 + 7, none⟩ = some (.int .i64 l[i].width) ∧ wr.cell? ⟨b, off + i * 16 + 8, none⟩ = some (.int .i64 l[i].quota) ∧ wr.cell? ⟨b, off + i * 16 + 9, none⟩ = some (.int .u8 (l[i].stand.toNat : Int)) ∧ wr.cell? ⟨b, off + i * 16 + 10, none⟩ = some (.int .i64 l[i].fails) ∧ wr.cell? ⟨b, off + i * 16 + 11, none⟩ = some (.int .i64 l[i].tok) ∧ wr.cell? ⟨b, off + i * 16 + 12, none⟩ = some (k) ∧ wr.cell? ⟨b, off + i * 16 + 13, none⟩ = some (N) ∧ wr.cell? ⟨b, off + i * 16 + 14, none⟩ = some (s) ∧ wr.cell? ⟨b, off + i * 16 + 15, none⟩ = some (d)) ∧
      NdV w l[i] (.agg (ndCells l[i] (.slice aa m c) k N s d).toArray) := by
  obtain ⟨b, off, ha, hb, aa, m, c, k, N, s, d, h1, h2⟩ := nd_at h hE i hi
  refine ⟨b, off, ha, hb, aa, m, c, k, N, s, d, ⟨?_, ?_, ?_, ?_, ?_, ?_, ?_, ?_, ?_, ?_, ?_, ?_, ?_, ?_, ?_, ?_⟩, h2⟩
  · have := h1 0 _ rfl; rw [show off + (i * 16 + 0) = off + i * 16 by omega] at this; exact this
  · have := h1 1 _ rfl; rw [show off + (i * 16 + 1) = off + i * 16 + 1 by omega] at this; exact this
  · have := h1 2 _ rfl; rw [show off + (i * 16 + 2) = off + i * 16 + 2 by omega] at this; exact this
  · have := h1 3 _ rfl; rw [show off + (i * 16 + 3) = off + i * 16 + 3 by omega] at this; exact this
  · have := h1 4 _ rfl; rw [show off + (i * 16 + 4) = off + i * 16 + 4 by omega] at this; exact this
  · have := h1 5 _ rfl; rw [show off + (i * 16 + 5) = off + i * 16 + 5 by omega] at this; exact this
  · have := h1 6 _ rfl; rw [show off + (i * 16 + 6) = off + i * 16 + 6 by omega] at this; exact this
  · have := h1 7 _ rfl; rw [show off + (i * 16 + 7) = off + i * 16 + 7 by omega] at this; exact this
  · have := h1 8 _ rfl; rw [show off + (i * 16 + 8) = off + i * 16 + 8 by omega] at this; exact this
  · have := h1 9 _ rfl; rw [show off + (i * 16 + 9) = off + i * 16 + 9 by omega] at this; exact this
  · have := h1 10 _ rfl; rw [show off + (i * 16 + 10) = off + i * 16 + 10 by omega] at this; exact this
  · have := h1 11 _ rfl; rw [show off + (i * 16 + 11) = off + i * 16 + 11 by omega] at this; exact this
  · have := h1 12 _ rfl; rw [show off + (i * 16 + 12) = off + i * 16 + 12 by omega] at this; exact this
  · have := h1 13 _ rfl; rw [show off + (i * 16 + 13) = off + i * 16 + 13 by omega] at this; exact this
  · have := h1 14 _ rfl; rw [show off + (i * 16 + 14) = off + i * 16 + 14 by omega] at this; exact this
  · have := h1 15 _ rfl; rw [show off + (i * 16 + 15) = off + i * 16 + 15 by omega] at this; exact this
theorem NdRow.nums {w : World} {l : List Nd} {v : Value} (h : ndE.Row w l v) : ∀ n, n ∈ l → ndWf n := by
  obtain ⟨a, cap, hv, _⟩ := h.slice
  subst hv
  intro n hn
  obtain ⟨j, hj, rfl⟩ := List.getElem_of_mem hn
  obtain ⟨_, _, _, _, _, _, _, _, _, _, _, _, h2⟩ := nd_at h (Ext.refl w) j hj
  exact h2.wf
theorem SnV.wf {w : World} {s : Sn} {v : Value} (h : SnV w s v) : snWf s := by
  obtain ⟨a, m, c, h1, h2, h3, h4, h5, h6, h7, h8, h9⟩ := h
  exact ⟨h3, h4, h5, h6, h7, h8, h9, NdRow.nums h2⟩
/-! ### fields: a number in a cell, from where to where it may be -/
structure Fld where
  b : Nat
  off : Nat
  lo : Int
  hi : Int
def fdE : Elem Fld where
  sz := 3
  R _ x c := c 0 = .pointer (some ⟨x.b, x.off, none⟩) ∧ c 1 = .int .i64 x.lo ∧ c 2 = .int .i64 x.hi
  ext _ h := h
  loc hc h := ⟨(hc 0 (by omega)).symm.trans h.1, (hc 1 (by omega)).symm.trans h.2.1, (hc 2 (by omega)).symm.trans h.2.2⟩
/-- An element of a slice of numbers. -/
theorem int_at {w wr : World} {l : List Int} {a : Option Addr} {n cap : Nat} (h : intE.Row w l (.slice a n cap)) (hE : Ext w wr) (i : Nat) (hi : i < l.length) :
    ∃ (b off : Nat), a = some ⟨b, off, none⟩ ∧ b < w.heap.size ∧ wr.cell? ⟨b, off + i, none⟩ = some (.int .i64 l[i]) ∧ isI64 l[i] := by
  obtain ⟨hn, b, off, ha, hb, hc⟩ := h.at (by omega)
  obtain ⟨c, ⟨r0, r1⟩, hcell⟩ := hc i hi
  refine ⟨b, off, ha, hb, ?_, r1⟩
  have := hcell 0 (by decide) wr hE
  rw [r0] at this
  have e : i * intE.sz + 0 = i := by show i * 1 + 0 = i; omega
  rw [e] at this
  exact this
/-- The numbers that fields are of. -/
def Pts (w : World) (fs : List Fld) (ns : List Int) : Prop :=
  ns.length = fs.length ∧ ∀ (i : Nat) (hi : i < fs.length) (hn : i < ns.length), w.cell? ⟨fs[i].b, fs[i].off, none⟩ = some (.int .i64 ns[i]) ∧ fs[i].b < w.heap.size ∧ isI64 ns[i]
theorem Pts.ext {w w' : World} {fs : List Fld} {ns : List Int} (h : Pts w fs ns) (hE : Ext w w') : Pts w' fs ns :=
  ⟨h.1, fun i hi hn => by
    obtain ⟨a, b, c⟩ := h.2 i hi hn
    exact ⟨(hE.cell (p := ⟨fs[i].b, fs[i].off, none⟩) b).trans a, Nat.lt_of_lt_of_le b hE.size, c⟩⟩
theorem Pts.nil (w : World) : Pts w [] [] := ⟨rfl, fun i hi => by simp at hi⟩
theorem Pts.cons {w : World} {f : Fld} {fs : List Fld} {n : Int} {ns : List Int} (h1 : w.cell? ⟨f.b, f.off, none⟩ = some (.int .i64 n)) (h2 : f.b < w.heap.size) (h3 : isI64 n) (h : Pts w fs ns) : Pts w (f :: fs) (n :: ns) := by
  refine ⟨by simp [h.1], fun i hi hn => ?_⟩
  cases i with
  | zero => exact ⟨h1, h2, h3⟩
  | succ i => exact h.2 i (by simpa using hi) (by simpa using hn)
def fdCells (f : Fld) : List Value := [.pointer (some ⟨f.b, f.off, none⟩), .int .i64 f.lo, .int .i64 f.hi]
def fdsCells (fs : List Fld) : List Value := (fs.map fdCells).flatten
theorem fdsCells_at : ∀ (fs : List Fld) (i j : Nat) (hi : i < fs.length), j < 3 → (fdsCells fs)[i * 3 + j]? = (fdCells fs[i])[j]?
  | [], i, _, hi, _ => by simp at hi
  | f :: fs, 0, j, _, hj => by
    unfold fdsCells
    rw [List.map_cons, List.flatten_cons, List.getElem?_append_left (by simp [fdCells]; omega)]
    simp
  | f :: fs, i + 1, j, hi, hj => by
    have ih := fdsCells_at fs i j (by simpa using hi) hj
    unfold fdsCells at ih ⊢
    rw [List.map_cons, List.flatten_cons, List.getElem?_append_right (by simp [fdCells]; omega)]
    have e : (i + 1) * 3 + j - (fdCells f).length = i * 3 + j := by simp [fdCells]; omega
    rw [e, ih]
    simp
theorem fdRow_new (w : World) (fs : List Fld) (e : TypeId) (hl : fs.length ≤ 1000) : fdE.Row (w.alloc (.cells (fdsCells fs).toArray e)) fs (.slice (some ⟨w.heap.size, 0, none⟩) fs.length fs.length) := by
  refine Elem.Row.mk rfl (Nat.le_refl _) (by unfold maxLen; omega) (by simp) (fun i hi => ⟨fun j => (fdCells fs[i]).getD j .nilFunc, ⟨rfl, rfl, rfl⟩, fun j hj => ?_⟩)
  have hj3 : j < 3 := hj
  have := heap_alloc_new w (.cells (fdsCells fs).toArray e)
  simp only [World.cell?, this]
  have h2 := fdsCells_at fs i j hi hj3
  rw [List.getElem?_eq_getElem (l := fdCells fs[i]) (by simp [fdCells]; omega)] at h2
  simp only [Nat.zero_add]
  show (fdsCells fs).toArray[i * 3 + j]? = _
  rw [List.getElem?_toArray, h2, List.getD_eq_getElem?_getD, List.getElem?_eq_getElem (by simp [fdCells]; omega)]
  rfl
/-- Fields that are told. -/
def FdsPost (w : World) (fs : List Fld) (e : Ending) (w' : World) : Prop :=
  ∃ v, e = .returned v ∧ fdE.Row w' fs v ∧ Ext w w'
theorem FdsPost.new (w w2 : World) (fs : List Fld) (e : TypeId) (h : Ext w w2) (hl : fs.length ≤ 1000) : FdsPost w fs (.returned (.slice (some ⟨w2.heap.size, 0, none⟩) fs.length fs.length)) (w2.alloc (.cells (fdsCells fs).toArray e)) :=
  ⟨_, rfl, fdRow_new w2 fs e hl, h.alloc _⟩
theorem eqNd_all (o p : Nd) : eqNd o p = (decide (o.id = p.id) && (decide (o.name = p.name) && (decide (o.kind = p.kind) && (decide (o.flow = p.flow) && (decide (o.owner = p.owner) && (decide (o.place = p.place) && (decide (o.after = p.after) && (decide (o.width = p.width) && (decide (o.quota = p.quota) && (decide (o.stand = p.stand) && (decide (o.fails = p.fails) && (decide (o.tok = p.tok) && eqT o.val p.val)))))))))))) := by
  obtain ⟨a1, a2, a3, a4, a5, a6, a7, a8, a9, a10, a11, a12, a13⟩ := o
  obtain ⟨b1, b2, b3, b4, b5, b6, b7, b8, b9, b10, b11, b12, b13⟩ := p
  rw [Bool.eq_iff_iff, eqNd_iff]
  simp only [Bool.and_eq_true, decide_eq_true_eq, eqT_iff, Nd.mk.injEq]
noncomputable def eqNds (l m : List Nd) : Bool := @decide (l = m) (Classical.propDecidable _)
theorem eqNds_iff {l m : List Nd} : eqNds l m = true ↔ l = m := by unfold eqNds; exact @decide_eq_true_iff _ (Classical.propDecidable _)
theorem eqNds_ne {l m : List Nd} (h : l ≠ m) : eqNds l m = false := by
  cases e : eqNds l m with
  | false => rfl
  | true => exact absurd (eqNds_iff.1 e) h
theorem eqSn_refl (s : Sn) : eqSn s s = true := eqSn_iff.2 rfl
theorem eqSn_all (o p : Sn) : eqSn o p = (decide (o.cq = p.cq) && (decide (o.cd = p.cd) && (decide (o.cw = p.cw) && (decide (o.cr = p.cr) && (decide (o.cf = p.cf) && (decide (o.flows = p.flows) && (decide (o.tok = p.tok) && eqNds o.nodes p.nodes))))))) := by
  obtain ⟨a1, a2, a3, a4, a5, a6, a7, a8⟩ := o
  obtain ⟨b1, b2, b3, b4, b5, b6, b7, b8⟩ := p
  rw [Bool.eq_iff_iff, eqSn_iff]
  simp only [Bool.and_eq_true, decide_eq_true_eq, eqNds_iff, Sn.mk.injEq]
  constructor
  · rintro ⟨h1, h2, h3, h4, h5, h6, h7, h8⟩; exact ⟨h1, h2, h3, h4, h5, h6, h8, h7⟩
  · rintro ⟨h1, h2, h3, h4, h5, h6, h8, h7⟩; exact ⟨h1, h2, h3, h4, h5, h6, h7, h8⟩
theorem int_beq (a b : Int) : (a == b) = decide (a = b) := by rw [Bool.eq_iff_iff]; simp
/-- A value's four cells. -/
theorem lies_four {w : World} {t : Tr} {k N s l : Value} (h : Lies w t (.agg #[k, N, s, l])) : ∃ (kk nn : Int) (ss : ByteArray) (va : Option Addr) (vm vc : Nat), k = .int .u8 kk ∧ N = .int .i64 nn ∧ s = .string ss ∧ l = .slice va vm vc := by
  cases h; exact ⟨_, _, _, _, _, _, rfl, rfl, rfl, rfl⟩
theorem NdV.four {w : World} {n : Nd} {d k N s l : Value} (h : NdV w n (.agg (ndCells n d k N s l).toArray)) : ∃ (kk nn : Int) (ss : ByteArray) (va : Option Addr) (vm vc : Nat), k = .int .u8 kk ∧ N = .int .i64 nn ∧ s = .string ss ∧ l = .slice va vm vc := by
  obtain ⟨a, m, c, k', N', s', l', h1, h2, h3, h4⟩ := h
  simp only [ndCells] at h1
  injection h1 with h1
  injection h1 with h1
  simp only [List.cons.injEq, and_true] at h1
  obtain ⟨-, -, -, -, -, -, -, -, -, -, -, -, rfl, rfl, rfl, rfl⟩ := h1
  exact lies_four h3
theorem ndCells_one {n : Nd} {a : Option Addr} {m c : Nat} {kk nn : Int} {ss : ByteArray} {va : Option Addr} {vm vc : Nat} : ∀ u, u ∈ ndCells n (.slice a m c) (.int .u8 kk) (.int .i64 nn) (.string ss) (.slice va vm vc) → u.oneCell' = true := by
  intro u hu
  simp only [ndCells, List.mem_cons, List.not_mem_nil, or_false] at hu
  rcases hu with rfl | rfl | rfl | rfl | rfl | rfl | rfl | rfl | rfl | rfl | rfl | rfl | rfl | rfl | rfl | rfl <;> rfl
/-- A node's cells as they lie, whatever they are. -/
theorem nd_op {w wr : World} {l : List Nd} {a : Option Addr} {n cap : Nat} (h : ndE.Row w l (.slice a n cap)) (hE : Ext w wr) (i : Nat) (hi : i < l.length) :
    ∃ (b off : Nat), a = some ⟨b, off, none⟩ ∧ b < w.heap.size ∧ ∃ C : List Value, C.length = 16 ∧ (∀ u, u ∈ C → u.oneCell' = true) ∧ (∀ j v, C[j]? = some v → wr.cell? ⟨b, off + i * 16 + j, none⟩ = some v) ∧ NdV w l[i] (.agg C.toArray) := by
  obtain ⟨b, off, ha, hb, aa, m, c, k, N, s, d, h1, h2⟩ := nd_at h hE i hi
  obtain ⟨kk, nn, ss, va, vm, vc, rfl, rfl, rfl, rfl⟩ := h2.four
  exact ⟨b, off, ha, hb, _, rfl, ndCells_one, fun j v hv => by rw [Nat.add_assoc]; exact h1 j v hv, h2⟩
end Fm

namespace Fm
open Go Go.RowKit

def ndZero : Nd := ⟨[], [], 0, 0, 0, 0, [], 0, 0, 0, 0, 0, zT⟩
def kindV (t : Tr) : UInt8 := match t with | .node k _ _ _ => k
def kidsV (t : Tr) : List Tr := match t with | .node _ _ _ l => l
def listV (l : List Tr) : Tr := .node 2 0 [] l
def numT (n : Int) : Tr := .node 0 n [] []
/-- Is a place one of a list's? -/
def placeF (l : List Nd) (i : Int) : Bool := decide (0 ≤ i) && decide (i < l.length)
def mapsF (m : Nd) : Bool := decide (m.kind = 1) && decide (m.after ≠ [])
def eachNd (m : Nd) (owner : Int) (k : Nat) : Nd := ⟨eachS m.id k, [], 2, m.flow, owner, k, m.after.tail, 0, m.quota, 0, 0, 0, zT⟩
def eachF (m : Nd) (owner n : Int) : List Nd := if mapsF m && decide (1 ≤ n) && decide (n ≤ 40) then (List.range n.toNat).map (eachNd m owner) else []
def fitsF (v : Tr) (width : Int) : Int := if kindV v ≠ 2 then 26 else if width < (kidsV v).length then 24 else 0
def nthF (l : List Nd) (i : Int) : Nd := l.getD i.toNat ndZero
/-- What a map is over: the list, and the error. -/
def listF (l : List Nd) (m : Int) : List Tr × Int :=
  if placeF l m && mapsF (nthF l m) && placeF l ((nthF l m).after.headD 0) then
    if fitsF (nthF l ((nthF l m).after.headD 0)).val (nthF l m).width = 0 then (kidsV (nthF l ((nthF l m).after.headD 0)).val, 0)
    else ([], fitsF (nthF l ((nthF l m).after.headD 0)).val (nthF l m).width)
  else ([], 2)
def isEach (m : Int) (x : Nd) : Bool := decide (x.kind = 2) && decide (x.owner = m)
def doneAt (m k : Int) (x : Nd) : Bool := isEach m x && decide (x.stand = 4) && decide (x.place = k)
/-- The value of the instance at a place, if it is done. -/
def valAt (l : List Nd) (m k : Int) : Option Tr := ((l.filter (doneAt m k)).getLast?).map (·.val)
def valsF : Nat → List Nd → Int → Option (List Tr)
  | 0, _, _ => some []
  | k + 1, l, m => (valsF k l m).bind fun r => (valAt l m k).map fun v => r ++ [v]
def valuesF (l : List Nd) (m : Int) : Option (List Tr) :=
  if placeF l m && decide ((nthF l m).kind = 1) then valsF (l.filter (isEach m)).length l m else none
def ownF (l : List Nd) (x : Nd) : Option Tr :=
  if (listF l x.owner).2 = 0 ∧ 0 ≤ x.place ∧ x.place < (listF l x.owner).1.length then some ((listF l x.owner).1.getD x.place.toNat zT) else none
def aftF (l : List Nd) : List Int → Option (List Tr)
  | [] => some []
  | a :: r => if placeF l a = true ∧ (nthF l a).stand = 4 then (aftF l r).map ((nthF l a).val :: ·) else none
def inputF (l : List Nd) (i : Int) : Option (List Tr) :=
  if placeF l i = true then
    if (nthF l i).kind = 2 then (ownF l (nthF l i)).bind fun v => (aftF l (nthF l i).after).map (v :: ·)
    else if (nthF l i).kind = 0 then aftF l (nthF l i).after else none
  else none
theorem valsF_some : ∀ (k : Nat) (l : List Nd) (m : Int) (r : List Tr), valsF k l m = some r ↔ r.length = k ∧ ∀ j, j < k → valAt l m j = some (r.getD j zT)
  | 0, l, m, r => by
    rw [valsF]
    constructor
    · intro h; cases h; exact ⟨rfl, fun j hj => by omega⟩
    · rintro ⟨h, -⟩; rw [List.eq_nil_of_length_eq_zero h]
  | k + 1, l, m, r => by
    rw [valsF]
    constructor
    · intro h
      obtain ⟨q, h1, h2⟩ := Option.bind_eq_some_iff.1 h
      obtain ⟨v, h3, rfl⟩ := Option.map_eq_some_iff.1 h2
      obtain ⟨a, b⟩ := (valsF_some k l m q).1 h1
      refine ⟨by simp [a], fun j hj => ?_⟩
      by_cases hk : j < k
      · rw [b j hk, List.getD_eq_getElem?_getD, List.getD_eq_getElem?_getD, List.getElem?_append_left (by omega)]
      · obtain rfl : j = k := by omega
        rw [h3, List.getD_eq_getElem?_getD, List.getElem?_append_right (by omega)]
        simp [a]
    · rintro ⟨h1, h2⟩
      rcases List.eq_nil_or_concat r with h | ⟨q, v, h⟩
      · subst h; simp at h1
      · rw [List.concat_eq_append] at h
        subst h
        have hl : q.length = k := by simpa using h1
        rw [(valsF_some k l m q).2 ⟨hl, fun j hj => by
          rw [h2 j (by omega), List.getD_eq_getElem?_getD, List.getD_eq_getElem?_getD, List.getElem?_append_left (by omega)]⟩, Option.bind_some, h2 k (by omega), List.getD_eq_getElem?_getD, List.getElem?_append_right (by omega)]
        simp [hl]
end Fm

namespace Fm
open Go Go.RowKit

def FRow (w : World) (B : Nat) (fs : List Fld) : Prop := B < w.heap.size ∧ ∀ (i j : Nat) (hi : i < fs.length), j < 3 → w.cell? ⟨B, i * 3 + j, none⟩ = (fdCells fs[i])[j]?
theorem FRow.kept {w w' : World} {B : Nat} {fs : List Fld} {row : Option Nat} (h : FRow w B fs) (hg : w.grownBy w' row) (hr : row ≠ some B) : FRow w' B fs :=
  ⟨Nat.lt_of_lt_of_le h.1 hg.size, fun i j hi hj => (hg.cell_far ⟨B, _, none⟩ h.1 (fun e => hr e.symm)).trans (h.2 i j hi hj)⟩
theorem FRow.ext {w w' : World} {B : Nat} {fs : List Fld} (h : FRow w B fs) (hE : Ext w w') : FRow w' B fs :=
  ⟨Nat.lt_of_lt_of_le h.1 hE.size, fun i j hi hj => (hE.cell (p := ⟨B, _, none⟩) h.1).trans (h.2 i j hi hj)⟩
theorem FRow.new (w : World) (fs : List Fld) (e : TypeId) : FRow (w.alloc (.cells (fdsCells fs).toArray e)) w.heap.size fs := by
  refine ⟨by simp, fun i j hi hj => ?_⟩
  have := heap_alloc_new w (.cells (fdsCells fs).toArray e)
  simp only [World.cell?, this]
  show (fdsCells fs).toArray[i * 3 + j]? = _
  rw [List.getElem?_toArray, fdsCells_at fs i j hi hj]
/-- Fields that are told, in a new block. -/
def FdsNew (w : World) (fs : List Fld) (e : Ending) (w' : World) : Prop :=
  ∃ B, e = .returned (.slice (some ⟨B, 0, none⟩) fs.length fs.length) ∧ w.heap.size ≤ B ∧ FRow w' B fs ∧ fdE.Row w' fs (.slice (some ⟨B, 0, none⟩) fs.length fs.length) ∧ Ext w w'
theorem FdsNew.new (w w2 : World) (fs : List Fld) (e : TypeId) (h : Ext w w2) (hl : fs.length ≤ 1000) : FdsNew w fs (.returned (.slice (some ⟨w2.heap.size, 0, none⟩) fs.length fs.length)) (w2.alloc (.cells (fdsCells fs).toArray e)) :=
  ⟨w2.heap.size, rfl, h.size, FRow.new w2 fs e, fdRow_new w2 fs e hl, h.alloc _⟩
theorem FdsNew.post {w : World} {fs : List Fld} {e : Ending} {w' : World} (h : FdsNew w fs e w') : FdsPost w fs e w' := by
  obtain ⟨B, h1, h2, h3, h4, h5⟩ := h
  exact ⟨_, h1, h4, h5⟩
end Fm

namespace Fm
open Go Go.RowKit

structure NSt (w wr : World) (R : Nat) (ps vs ks : List Value) : Prop where
  g : w.grownBy wr (some R)
  pb : BoxL wr w.heap.size ps
  bv : BoxL wr (w.heap.size + 1) vs
  bk : BoxL wr (w.heap.size + 1 + 1) ks
  hR : R < w.heap.size
theorem NSt.then {w wr wx : World} {R : Nat} {ps vs ks : List Value} (h : NSt w wr R ps vs ks) (hE : Ext wr wx) : NSt w wx R ps vs ks :=
  ⟨grown_trans h.g (grown_ext hE _), h.pb.ext hE, h.bv.ext hE, h.bk.ext hE, h.hR⟩
theorem NSt.step {w wr wx : World} {R : Nat} {ps vs ks : List Value} (h : NSt w wr R ps vs ks) (hg : wr.grownBy wx (some R)) : NSt w wx R ps vs ks := by
  have a := h.hR
  exact ⟨grown_trans h.g hg, h.pb.kept hg (fun e => by injection e with e; omega), h.bv.kept hg (fun e => by injection e with e; omega), h.bk.kept hg (fun e => by injection e with e; omega), a⟩
theorem NSt.far {w wr wx : World} {R : Nat} {ps vs ks : List Value} (h : NSt w wr R ps vs ks) {row : Option Nat} (hg : wr.grownBy wx row) (hr : ∀ k, row = some k → w.heap.size + 1 + 1 < k) : NSt w wx R ps vs ks := by
  have a := h.hR
  exact ⟨grown_row' h.g hg (fun x hx => by have := hr x hx; omega), h.pb.kept hg (fun e => by have := hr _ e; omega), h.bv.kept hg (fun e => by have := hr _ e; omega), h.bk.kept hg (fun e => by have := hr _ e; omega), a⟩
def ndZ : List Value := [.string { data := #[] }, .string { data := #[] }, .int .u8 0, .int .i64 0, .int .i64 0, .int .i64 0, .slice none 0 0, .int .i64 0, .int .i64 0, .int .u8 0, .int .i64 0, .int .i64 0, .int .u8 0, .int .i64 0, .string { data := #[] }, .slice none 0 0]

theorem BoxL.has {w : World} {b : Nat} {vs : List Value} (h : BoxL w b vs) (j : Nat) (hj : j < vs.length) : ∃ u, w.cell? ⟨b, j, none⟩ = some u ∧ w.frozen? ⟨b, j, none⟩ = false :=
  ⟨_, h.cell j _ (List.getElem?_eq_getElem hj), h.free j⟩
/-- Numbers in a row of one's own. -/
def OwnN (e : TypeId) (base : Nat) (w : World) (v : Value) (l : List Int) : Prop := w.ownsRow base e 1 v l.length (l.map (Value.int .i64))
theorem OwnN.nil (e : TypeId) (base : Nat) (w : World) : OwnN e base w (.slice none 0 0) [] := World.ownsRow_nil w base e 1
theorem OwnN.ext {e : TypeId} {base : Nat} {w w' : World} {v : Value} {l : List Int} (h : OwnN e base w v l) (hE : Ext w w') : OwnN e base w' v l := hE.own h
theorem OwnN.mono {e : TypeId} {base base' : Nat} {w : World} {v : Value} {l : List Int} (h : OwnN e base w v l) (hb : base' ≤ base) : OwnN e base' w v l := ownsRow_base h hb
theorem OwnN.kept {e : TypeId} {base : Nat} {w w' : World} {v : Value} {l : List Int} {row : Option Nat} (h : OwnN e base w v l) (hg : w.grownBy w' row) (hr : ∀ b, row = some b → b < base) : OwnN e base w' v l := by
  refine World.ownsRow.kept h hg ?_
  cases hv : v.ownBlock with
  | none => exact .inl rfl
  | some b => right; intro e; have := hr b e.symm; have := (World.ownsRow.lt h b hv).1; omega
theorem OwnN.row {e : TypeId} {base : Nat} {w : World} {v : Value} {l : List Int} (h : OwnN e base w v l) (hl : ∀ i, i ∈ l → isI64 i) : intE.Row w l v := by
  have hc := fun g => World.ownsRow.cells h (g := g)
  rcases h.2 with ⟨rfl, h0⟩ | ⟨g, cap, cur, rfl, hb, hg, h1, h2, h5, h6⟩
  · have : l = [] := List.eq_nil_of_length_eq_zero h0
    subst this
    exact Elem.Row.void intE w none
  · refine Elem.Row.mk rfl h1 h2 (Array.getElem?_eq_some_iff.1 hg).1 (fun i hi => ⟨fun _ => .int .i64 l[i], ⟨rfl, hl _ (List.getElem_mem hi)⟩, fun j hj => ?_⟩)
    have hj0 : j = 0 := by have : j < 1 := hj; omega
    subst hj0
    have := hc g rfl i (.int .i64 l[i]) (by simp [hi])
    rw [Addr.add_lit] at this
    show w.cell? ⟨g, 0 + (i * 1 + 0), none⟩ = _
    rw [show 0 + (i * 1 + 0) = 0 + i by omega]
    exact this
theorem setCells_grown (b : Nat) : ∀ (vs : List Value) (o : Nat) (w : World), w.grownBy (w.setCells b o vs) (some b)
  | [], o, w => ⟨rfl, rfl, rfl, Nat.le_refl _, fun _ _ _ => rfl⟩
  | v :: r, o, w => by rw [World.setCells]; exact grown_trans (setOne_grown w b o v) (setCells_grown b r (o + 1) _)
theorem BoxL.range {w : World} {b : Nat} {vs : List Value} (h : BoxL w b vs) : w.rangeAt b 0 vs := fun j v hv => by rw [Nat.zero_add]; exact h.cell j v hv
theorem BoxL.there {w : World} {b n : Nat} {vs : List Value} (h : BoxL w b vs) (hn : n ≤ vs.length) : w.there b 0 n := fun j hj => by
  rw [Nat.zero_add]
  exact ⟨by rw [h.cell j _ (List.getElem?_eq_getElem (by omega))]; rfl, h.free j⟩
end Fm

namespace Fm
open Go Go.RowKit

/-- A node in memory of its own from 'base' on; block g is none of it. -/
def NdIn (eI eV : TypeId) (base : Nat) (w : World) (n : Nd) (C : List Value) (g : Option Nat) : Prop :=
  ∃ (a : Option Addr) (m c : Nat) (k N S l : Value) (F : Nat → Prop), C = ndCells n (.slice a m c) k N S l ∧ OwnN eI base w (.slice a m c) n.after ∧ (∀ b, (Value.slice a m c).ownBlock = some b → g ≠ some b) ∧
    Owns eV w base n.val (.agg #[k, N, S, l]) F ∧ (∀ b, F b → g ≠ some b) ∧ ndWf n
theorem NdIn.cells {eI eV : TypeId} {base : Nat} {w : World} {n : Nd} {C : List Value} {g : Option Nat} (h : NdIn eI eV base w n C g) : C.length = 16 := by
  obtain ⟨a, m, c, k, N, S, l, F, rfl, -⟩ := h; rfl
theorem NdIn.v {eI eV : TypeId} {base : Nat} {w : World} {n : Nd} {C : List Value} {g : Option Nat} (h : NdIn eI eV base w n C g) : NdV w n (.agg C.toArray) := by
  obtain ⟨a, m, c, k, N, S, l, F, rfl, h1, -, h2, -, h3⟩ := h
  obtain ⟨w1, w2, w3, w4, w5, w6, w7, w8, w9, w10, w11⟩ := h3
  exact ⟨a, m, c, k, N, S, l, rfl, h1.row w11, h2.lies, w1, w2, w3, w4, w5, w6, w7, w8, w9⟩
theorem NdIn.keep {eI eV : TypeId} {base : Nat} {w w' : World} {n : Nd} {C : List Value} {g g' row : Option Nat} (h : NdIn eI eV base w n C g) (hg : w.grownBy w' row) (hr : ∀ b, row = some b → b < base ∨ g = some b) (hat : ∀ b, g' = some b → g = some b ∨ w.heap.size ≤ b) : NdIn eI eV base w' n C g' := by
  obtain ⟨a, m, c, k, N, S, l, F, rfl, h1, h2, h3, h4, h5⟩ := h
  refine ⟨a, m, c, k, N, S, l, F, rfl, ?_, fun b hb e => ?_, h3.grown hg (fun b hb hF => ?_), fun b hb e => ?_, h5⟩
  · refine World.ownsRow.kept h1 hg ?_
    cases hv : (Value.slice a m c).ownBlock with
    | none => exact .inl rfl
    | some b =>
      right; intro e
      rcases hr b e.symm with q | q
      · have := (World.ownsRow.lt h1 b hv).1; omega
      · exact h2 b hv q
  · rcases hat b e with q | q
    · exact h2 b hb q
    · have := (World.ownsRow.lt h1 b hb).2; omega
  · rcases hr b hb with q | q
    · have := (h3.bounds b hF).1; omega
    · exact h4 b hF q
  · rcases hat b e with q | q
    · exact h4 b hb q
    · have := (h3.bounds b hb).2; omega
/-- Nodes in memory of their own. -/
def OwnNds (eN eI eV : TypeId) (base : Nat) (w : World) (v : Value) (l : List Nd) : Prop :=
  ∃ cs : List (List Value), cs.length = l.length ∧ w.ownsRow base eN 16 v l.length cs.flatten ∧ ∀ (i : Nat) (hi : i < l.length) (hc : i < cs.length), NdIn eI eV base w l[i] cs[i] v.ownBlock
theorem OwnNds.nil (eN eI eV : TypeId) (base : Nat) (w : World) : OwnNds eN eI eV base w (.slice none 0 0) [] := ⟨[], rfl, World.ownsRow_nil w base eN 16, fun i hi => by simp at hi⟩
theorem OwnNds.kept {eN eI eV : TypeId} {base : Nat} {w w' : World} {v : Value} {l : List Nd} {row : Option Nat} (h : OwnNds eN eI eV base w v l) (hg : w.grownBy w' row) (hr : ∀ b, row = some b → b < base) : OwnNds eN eI eV base w' v l := by
  obtain ⟨cs, h1, h2, h3⟩ := h
  have hlt := h2.lt
  refine ⟨cs, h1, h2.kept hg ?_, fun i hi hc => (h3 i hi hc).keep hg (fun b hb => .inl (hr b hb)) (fun b hb => .inl hb)⟩
  cases hv : v.ownBlock with
  | none => exact .inl rfl
  | some b => right; exact fun e => by have := hr b e.symm; have := (hlt b hv).1; omega
theorem OwnNds.ext {eN eI eV : TypeId} {base : Nat} {w w' : World} {v : Value} {l : List Nd} (h : OwnNds eN eI eV base w v l) (hE : Ext w w') : OwnNds eN eI eV base w' v l := h.kept (row := none) hE.grownBy (fun b hb => by cases hb)
theorem NdIn.mono {eI eV : TypeId} {base base' : Nat} {w : World} {n : Nd} {C : List Value} {g : Option Nat} (h : NdIn eI eV base w n C g) (hb : base' ≤ base) : NdIn eI eV base' w n C g := by
  obtain ⟨a, m, c, k, N, S, l, F, rfl, h1, h2, h3, h4, h5⟩ := h
  exact ⟨a, m, c, k, N, S, l, F, rfl, h1.mono hb, h2, h3.mono hb, h4, h5⟩
theorem OwnNds.mono {eN eI eV : TypeId} {base base' : Nat} {w : World} {v : Value} {l : List Nd} (h : OwnNds eN eI eV base w v l) (hb : base' ≤ base) : OwnNds eN eI eV base' w v l := by
  obtain ⟨cs, h1, h2, h3⟩ := h
  exact ⟨cs, h1, ownsRow_base h2 hb, fun i hi hc => (h3 i hi hc).mono hb⟩
theorem flat16 : ∀ (cs : List (List Value)) (i j : Nat) (hi : i < cs.length), (∀ C, C ∈ cs → C.length = 16) → j < 16 → cs.flatten[i * 16 + j]? = cs[i][j]?
  | [], i, _, hi, _, _ => by simp at hi
  | C :: cs, 0, j, _, h, hj => by
    have := h C (List.mem_cons_self ..)
    rw [List.flatten_cons, List.getElem?_append_left (by omega)]
    simp
  | C :: cs, i + 1, j, hi, h, hj => by
    have hC := h C (List.mem_cons_self ..)
    have ih := flat16 cs i j (by simpa using hi) (fun D hD => h D (List.mem_cons_of_mem _ hD)) hj
    rw [List.flatten_cons, List.getElem?_append_right (by omega)]
    have e : (i + 1) * 16 + j - C.length = i * 16 + j := by omega
    rw [e, ih]
    simp
theorem OwnNds.row {eN eI eV : TypeId} {base : Nat} {w : World} {v : Value} {l : List Nd} (h : OwnNds eN eI eV base w v l) : ndE.Row w l v := by
  obtain ⟨cs, h1, h2, h3⟩ := h
  have hc := fun g => World.ownsRow.cells h2 (g := g)
  have h16 : ∀ C, C ∈ cs → C.length = 16 := fun C hC => by
    obtain ⟨i, hi, rfl⟩ := List.getElem_of_mem hC
    exact (h3 i (by omega) hi).cells
  rcases h2.2 with ⟨rfl, h0⟩ | ⟨g, cap, cur, rfl, hb, hg, hl, hm, h5, h6⟩
  · have : l = [] := List.eq_nil_of_length_eq_zero h0
    subst this
    exact Elem.Row.void ndE w none
  · refine Elem.Row.mk rfl hl hm (Array.getElem?_eq_some_iff.1 hg).1 (fun i hi => ?_)
    have hd : i < cs.length := by omega
    have hn := h3 i hi hd
    refine ⟨fun j => cs[i].getD j .nilFunc, ?_, fun j hj => ?_⟩
    · obtain ⟨a, m, c, k, N, S, x, F, e, k1, -, k2, -, k3⟩ := hn
      obtain ⟨w1, w2, w3, w4, w5, w6, w7, w8, w9, w10, w11⟩ := k3
      rw [e]
      exact ⟨⟨rfl, rfl, rfl, rfl, rfl, rfl⟩, k1.row w11, ⟨rfl, rfl, rfl, rfl, rfl⟩, k2.lies, w1, w2, w3, w4, w5, w6, w7, w8, w9⟩
    · have hj16 : j < 16 := hj
      have hlen := hn.cells
      have := hc g rfl (i * 16 + j) (cs[i].getD j .nilFunc) (by
        rw [flat16 cs i j hd h16 hj16, List.getD_eq_getElem?_getD, List.getElem?_eq_getElem (by omega)]; rfl)
      rw [Addr.add_lit] at this
      exact this
theorem OwnNds.snoc {eN eI eV : TypeId} {base : Nat} {w w' : World} {v v' : Value} {l : List Nd} {n : Nd} {C : List Value} {cs : List (List Value)} (h1 : cs.length = l.length)
    (h3 : ∀ (i : Nat) (hi : i < l.length) (hc : i < cs.length), NdIn eI eV base w l[i] cs[i] v.ownBlock) (hn : NdIn eI eV base w n C v.ownBlock)
    (hrow : w'.ownsRow base eN 16 v' (l.length + 1) (cs.flatten ++ C)) (hg : w.grownBy w' v.ownBlock) (hat : v'.ownBlock = v.ownBlock ∨ v'.ownBlock = some w.heap.size) : OwnNds eN eI eV base w' v' (l ++ [n]) := by
  have keep : ∀ (m : Nd) (D : List Value), NdIn eI eV base w m D v.ownBlock → NdIn eI eV base w' m D v'.ownBlock := fun m D h =>
    h.keep hg (fun b hb => .inr hb) (fun b hb => by
      rcases hat with e | e
      · left; rw [← e]; exact hb
      · right; rw [e] at hb; injection hb with hb; omega)
  refine ⟨cs ++ [C], by simp [h1], by rw [List.length_append, List.flatten_append]; simpa using hrow, fun i hi hid => ?_⟩
  by_cases hil : i < l.length
  · have hil2 : i < cs.length := by omega
    rw [List.getElem_append_left hil, List.getElem_append_left hil2]
    exact keep _ _ (h3 i hil hil2)
  · have e1 : i = l.length := by simp at hi; omega
    subst e1
    have e2 : (cs ++ [C])[l.length]'hid = C := by rw [List.getElem_append_right (by omega)]; simp [h1]
    rw [List.getElem_append_right (Nat.le_refl _), e2]
    simp only [Nat.sub_self, List.getElem_cons_zero]
    exact keep _ _ hn
/-- A state in memory of its own. -/
def SnOwn (eN eI eV : TypeId) (base : Nat) (w : World) (s : Sn) (v : Value) : Prop :=
  ∃ (a : Option Addr) (m c : Nat), v = .agg #[.int .i64 s.cq, .int .i64 s.cd, .int .i64 s.cw, .int .i64 s.cr, .int .i64 s.cf, .int .i64 s.flows, .slice a m c, .int .i64 s.tok] ∧ OwnNds eN eI eV base w (.slice a m c) s.nodes ∧
    isI64 s.cq ∧ isI64 s.cd ∧ isI64 s.cw ∧ isI64 s.cr ∧ isI64 s.cf ∧ isI64 s.flows ∧ isI64 s.tok
theorem SnOwn.v {eN eI eV : TypeId} {base : Nat} {w : World} {s : Sn} {v : Value} (h : SnOwn eN eI eV base w s v) : SnV w s v := by
  obtain ⟨a, m, c, h1, h2, h3⟩ := h
  exact ⟨a, m, c, h1, h2.row, h3⟩
theorem SnOwn.kept {eN eI eV : TypeId} {base : Nat} {w w' : World} {s : Sn} {v : Value} {row : Option Nat} (h : SnOwn eN eI eV base w s v) (hg : w.grownBy w' row) (hr : ∀ b, row = some b → b < base) : SnOwn eN eI eV base w' s v := by
  obtain ⟨a, m, c, h1, h2, h3⟩ := h
  exact ⟨a, m, c, h1, h2.kept hg hr, h3⟩
theorem SnOwn.ext {eN eI eV : TypeId} {base : Nat} {w w' : World} {s : Sn} {v : Value} (h : SnOwn eN eI eV base w s v) (hE : Ext w w') : SnOwn eN eI eV base w' s v := h.kept (row := none) hE.grownBy (fun b hb => by cases hb)

/-! ### Parse's steps -/
def z8 : List Value := [.int .i64 0, .int .i64 0, .int .i64 0, .int .i64 0, .int .i64 0, .int .i64 0, .slice none 0 0, .int .i64 0]
structure PSt (w wr : World) (ss : List Value) : Prop where
  e : Ext w wr
  pb : BoxL wr w.heap.size z8
  sb : BoxL wr (w.heap.size + 1 + 1) ss
theorem PSt.then {w wr wx : World} {ss : List Value} (h : PSt w wr ss) (hE : Ext wr wx) : PSt w wx ss := ⟨h.e.trans hE, h.pb.ext hE, h.sb.ext hE⟩
theorem PSt.step {w wr wx : World} {ss : List Value} (h : PSt w wr ss) (hg : wr.grownBy wx (some (w.heap.size + 1))) : PSt w wx ss :=
  ⟨h.e.grown hg (fun k hk => by injection hk with hk; omega), h.pb.kept hg (fun e => by injection e with e; omega), h.sb.kept hg (fun e => by injection e with e; omega)⟩
theorem PSt.far {w wr wx : World} {ss : List Value} (h : PSt w wr ss) {row : Option Nat} (hg : wr.grownBy wx row) (hr : ∀ k, row = some k → w.heap.size + 1 + 1 < k) : PSt w wx ss :=
  ⟨h.e.grown hg (fun k hk => by have := hr k hk; omega), h.pb.kept hg (fun e => by have := hr _ e; omega), h.sb.kept hg (fun e => by have := hr _ e; omega)⟩
theorem PSt.set {w wr : World} {ss : List Value} (h : PSt w wr ss) (j : Nat) (hj : j < ss.length) (u : Value) : PSt w (wr.setCell ⟨w.heap.size + 1 + 1, j, none⟩ u) (ss.set j u) := by
  have hg := setOne_grown wr (w.heap.size + 1 + 1) j u
  exact ⟨h.e.grown hg (fun k hk => by injection hk with hk; omega), h.pb.kept hg (fun e => by injection e with e; omega), h.sb.set j hj u⟩
end Fm

namespace Fm
open Go
open Go.RowKit

theorem flat16_all : ∀ (cs : List (List Value)), (∀ C, C ∈ cs → C.length = 16) → cs.flatten.length = cs.length * 16
  | [], _ => rfl
  | C :: cs, h => by
    have h1 := h C (List.mem_cons_self ..)
    have h2 := flat16_all cs (fun D hD => h D (List.mem_cons_of_mem _ hD))
    rw [List.flatten_cons, List.length_append, h1, h2, List.length_cons]; omega
theorem flat16_set : ∀ (cs : List (List Value)) (i j : Nat) (u : Value) (hi : i < cs.length), (∀ C, C ∈ cs → C.length = 16) → j < 16 → cs.flatten.set (i * 16 + j) u = (cs.set i (cs[i].set j u)).flatten
  | [], i, _, _, hi, _, _ => by simp at hi
  | C :: cs, 0, j, u, _, h, hj => by
    have := h C (List.mem_cons_self ..)
    simp only [List.flatten_cons, List.set_cons_zero, List.getElem_cons_zero, Nat.zero_mul, Nat.zero_add]
    rw [List.set_append_left _ _ (by omega)]
  | C :: cs, i + 1, j, u, hi, h, hj => by
    have hC := h C (List.mem_cons_self ..)
    have ih := flat16_set cs i j u (by simpa using hi) (fun D hD => h D (List.mem_cons_of_mem _ hD)) hj
    simp only [List.flatten_cons, List.set_cons_succ, List.getElem_cons_succ]
    rw [List.set_append_right _ _ (by omega), ← ih]
    congr 2
    omega
/-- A node whose slices are not its own. -/
def ShNd (w : World) (n : Nd) (C : List Value) : Prop :=
  ∃ (a : Option Addr) (m c : Nat) (k N s d : Value), C = ndCells n (.slice a m c) k N s d ∧ NdV w n (.agg C.toArray) ∧ (∀ u, u ∈ C → u.oneCell' = true)
theorem ShNd.cells {w : World} {n : Nd} {C : List Value} (h : ShNd w n C) : C.length = 16 := by
  obtain ⟨a, m, c, k, N, s, d, rfl, -⟩ := h; rfl
/-- Nodes whose row is of its own. -/
def ShN (eN : TypeId) (w0 : World) (base : Nat) (w : World) (v : Value) (l : List Nd) : Prop :=
  ∃ cs : List (List Value), cs.length = l.length ∧ w.ownsRow base eN 16 v l.length cs.flatten ∧ ∀ (i : Nat) (hi : i < l.length) (hc : i < cs.length), ShNd w0 l[i] cs[i]
/-- A node whose slices lie from p on, ahead of q. -/
def NdW (eI eV : TypeId) (p q : Nat) (w : World) (n : Nd) (C : List Value) : Prop :=
  ∃ (a : Option Addr) (m c : Nat) (k N S d : Value) (F : Nat → Prop), C = ndCells n (.slice a m c) k N S d ∧ OwnN eI p w (.slice a m c) n.after ∧ (∀ b, (Value.slice a m c).ownBlock = some b → b < q ∧ ¬ F b) ∧
    Owns eV w p n.val (.agg #[k, N, S, d]) F ∧ (∀ b, F b → b < q) ∧ ndWf n
theorem NdW.cells {eI eV : TypeId} {p q : Nat} {w : World} {n : Nd} {C : List Value} (h : NdW eI eV p q w n C) : C.length = 16 := by
  obtain ⟨a, m, c, k, N, s, d, F, rfl, -⟩ := h; rfl
theorem NdW.far {eI eV : TypeId} {p q : Nat} {w w' : World} {n : Nd} {C : List Value} (h : NdW eI eV p q w n C) (hk : ∀ b, p ≤ b → b < q → w'.heap[b]? = w.heap[b]?) : NdW eI eV p q w' n C := by
  obtain ⟨a, m, c, k, N, S, d, F, rfl, h1, h2, h3, h4, h5⟩ := h
  exact ⟨a, m, c, k, N, S, d, F, rfl, ownsRow_block h1 (fun b hb => hk b (World.ownsRow.lt h1 b hb).1 (h2 b hb).1), h2, h3.kept (fun b hb => hk b (h3.bounds b hb).1 (h4 b hb)), h4, h5⟩
theorem NdW.v {eI eV : TypeId} {p q : Nat} {w : World} {n : Nd} {C : List Value} (h : NdW eI eV p q w n C) : NdV w n (.agg C.toArray) := by
  obtain ⟨a, m, c, k, N, S, d, F, rfl, h1, -, h2, -, h3⟩ := h
  obtain ⟨w1, w2, w3, w4, w5, w6, w7, w8, w9, w10, w11⟩ := h3
  exact ⟨a, m, c, k, N, S, d, rfl, h1.row w11, h2.lies, w1, w2, w3, w4, w5, w6, w7, w8, w9⟩
/-- A copy of nodes, the row ahead of lo 0, node i's slices from lo i on, ahead of lo (i + 1). -/
def CopyN (eN eI eV : TypeId) (base : Nat) (w : World) (v : Value) (l : List Nd) : Prop :=
  ∃ (cs : List (List Value)) (lo : Nat → Nat), cs.length = l.length ∧ w.ownsRow base eN 16 v l.length cs.flatten ∧ (∀ b, v.ownBlock = some b → b < lo 0) ∧ base ≤ lo 0 ∧ (∀ i, i < l.length → lo i ≤ lo (i + 1)) ∧ lo l.length ≤ w.heap.size ∧
    ∀ (i : Nat) (hi : i < l.length) (hc : i < cs.length), NdW eI eV (lo i) (lo (i + 1)) w l[i] cs[i]
/-- The first j nodes are copied. -/
def HalfN (eN eI eV : TypeId) (w0 : World) (base : Nat) (w : World) (v : Value) (l : List Nd) (j : Nat) : Prop :=
  ∃ (cs : List (List Value)) (lo : Nat → Nat), cs.length = l.length ∧ w.ownsRow base eN 16 v l.length cs.flatten ∧ (∀ b, v.ownBlock = some b → b < lo 0) ∧ base ≤ lo 0 ∧ (∀ i, i < j → lo i ≤ lo (i + 1)) ∧ lo j ≤ w.heap.size ∧
    (∀ (i : Nat) (hi : i < l.length) (hc : i < cs.length), j ≤ i → ShNd w0 l[i] cs[i]) ∧ ∀ (i : Nat) (hi : i < l.length) (hc : i < cs.length), i < j → NdW eI eV (lo i) (lo (i + 1)) w l[i] cs[i]
theorem HalfN.start {eN eI eV : TypeId} {w0 w : World} {base : Nat} {v : Value} {l : List Nd} (h : ShN eN w0 base w v l) (hw : base ≤ w.heap.size) : HalfN eN eI eV w0 base w v l 0 := by
  obtain ⟨cs, h1, h2, h3⟩ := h
  exact ⟨cs, fun _ => w.heap.size, h1, h2, fun b hb => (h2.lt b hb).2, hw, fun i hi => by omega, Nat.le_refl _, fun i hi hc _ => h3 i hi hc, fun i hi hc h => by omega⟩
theorem HalfN.full {eN eI eV : TypeId} {w0 w : World} {base : Nat} {v : Value} {l : List Nd} (h : HalfN eN eI eV w0 base w v l l.length) : CopyN eN eI eV base w v l := by
  obtain ⟨cs, lo, h1, h2, h3, h4, h5, h6, h7, h8⟩ := h
  exact ⟨cs, lo, h1, h2, h3, h4, h5, h6, fun i hi hc => h8 i hi hc hi⟩
theorem HalfN.ext {eN eI eV : TypeId} {w0 w w' : World} {base : Nat} {v : Value} {l : List Nd} {j : Nat} (h : HalfN eN eI eV w0 base w v l j) (hE : Ext w w') : HalfN eN eI eV w0 base w' v l j := by
  obtain ⟨cs, lo, h1, h2, h3, h4, h5, h6, h7, h8⟩ := h
  have hmon : ∀ k, k ≤ j → ∀ i, i ≤ k → lo i ≤ lo k := fun k => by
    induction k with
    | zero => intro _ i hi; have : i = 0 := by omega
              subst this; exact Nat.le_refl _
    | succ k ih =>
      intro hk i hi
      rcases Nat.lt_or_ge i (k + 1) with h | h
      · exact Nat.le_trans (ih (by omega) i (by omega)) (h5 k (by omega))
      · have : i = k + 1 := by omega
        subst this; exact Nat.le_refl _
  exact ⟨cs, lo, h1, hE.own h2, h3, h4, h5, Nat.le_trans h6 hE.size, h7, fun i hi hc hij => (h8 i hi hc hij).far (fun b _ hb => hE.block b (by have := hmon j (Nat.le_refl _) (i + 1) (by omega); omega))⟩
theorem set5 {n : Nd} {e k N s d e' k' N' s' d' : Value} : (((((ndCells n e k N s d).set 6 e').set 12 k').set 13 N').set 14 s').set 15 d' = ndCells n e' k' N' s' d' := rfl
theorem set5_flat {cs : List (List Value)} {j : Nat} (hj : j < cs.length) (h16 : ∀ C, C ∈ cs → C.length = 16) (e k N s d : Value) :
    ((((cs.flatten.set (j * 16 + 6) e).set (j * 16 + 12) k).set (j * 16 + 13) N).set (j * 16 + 14) s).set (j * 16 + 15) d = (cs.set j (((((cs[j].set 6 e).set 12 k).set 13 N).set 14 s).set 15 d)).flatten := by
  have step : ∀ (ds : List (List Value)) (hl : j < ds.length), (∀ C, C ∈ ds → C.length = 16) → ∀ (i : Nat) (u : Value), i < 16 → ds.flatten.set (j * 16 + i) u = (ds.set j (ds[j].set i u)).flatten := fun ds hl h i u hi => flat16_set ds j i u hl h hi
  have keep : ∀ (ds : List (List Value)) (hl : j < ds.length) (i : Nat) (u : Value), (∀ C, C ∈ ds → C.length = 16) → ∀ C, C ∈ ds.set j (ds[j].set i u) → C.length = 16 := fun ds hl i u h C hC => by
    rcases List.mem_or_eq_of_mem_set hC with h1 | h1
    · exact h C h1
    · rw [h1, List.length_set]; exact h _ (List.getElem_mem hl)
  have k1 := keep cs hj 6 e h16
  rw [step cs hj h16 6 e (by omega)]
  have l1 : j < (cs.set j (cs[j].set 6 e)).length := by simpa using hj
  have k2 := keep _ l1 12 k k1
  rw [step _ l1 k1 12 k (by omega)]
  have l2 : j < ((cs.set j (cs[j].set 6 e)).set j ((cs.set j (cs[j].set 6 e))[j].set 12 k)).length := by simpa using hj
  have k3 := keep _ l2 13 N k2
  rw [step _ l2 k2 13 N (by omega)]
  have l3 := l2
  rw [← List.length_set (i := j) (a := (((cs.set j (cs[j].set 6 e)).set j ((cs.set j (cs[j].set 6 e))[j].set 12 k))[j].set 13 N))] at l3
  have k4 := keep _ l3 14 s k3
  rw [step _ l3 k3 14 s (by omega)]
  rw [step _ (by simpa using hj) k4 15 d (by omega)]
  simp
theorem HalfN.step {eN eI eV : TypeId} {w0 wr w W : World} {base : Nat} {l : List Nd} {j g cap : Nat} (h : HalfN eN eI eV w0 base wr (.slice (some ⟨g, 0, none⟩) l.length cap) l j) (hj : j < l.length) (hE : Ext wr w) {a : Option Addr} {m c : Nat} {k N s d : Value} {F : Nat → Prop}
    (hA : OwnN eI wr.heap.size w (.slice a m c) l[j].after) (hF : ∀ b, (Value.slice a m c).ownBlock = some b → ¬ F b) (hV : Owns eV w wr.heap.size l[j].val (.agg #[k, N, s, d]) F)
    (hW : ∀ xs, w.ownsRow base eN 16 (.slice (some ⟨g, 0, none⟩) l.length cap) l.length xs → W.ownsRow base eN 16 (.slice (some ⟨g, 0, none⟩) l.length cap) l.length (((((xs.set (j * 16 + 6) (.slice a m c)).set (j * 16 + 12) k).set (j * 16 + 13) N).set (j * 16 + 14) s).set (j * 16 + 15) d))
    (hg : w.grownBy W (some g)) : HalfN eN eI eV w0 base W (.slice (some ⟨g, 0, none⟩) l.length cap) l (j + 1) := by
  obtain ⟨cs, lo, h1, h2, h3, h4, h5, h6, h7, h8⟩ := h
  have hmon : ∀ k, k ≤ j → ∀ i, i ≤ k → lo i ≤ lo k := fun k => by
    induction k with
    | zero => intro _ i hi; have : i = 0 := by omega
              subst this; exact Nat.le_refl _
    | succ k ih =>
      intro hk i hi
      rcases Nat.lt_or_ge i (k + 1) with h | h
      · exact Nat.le_trans (ih (by omega) i (by omega)) (h5 k (by omega))
      · have : i = k + 1 := by omega
        subst this; exact Nat.le_refl _
  have hgl : g < lo 0 := h3 g rfl
  have hjc : j < cs.length := by omega
  have h16 : ∀ C, C ∈ cs → C.length = 16 := fun C hC => by
    obtain ⟨i, hi, rfl⟩ := List.getElem_of_mem hC
    rcases Nat.lt_or_ge i j with h | h
    · exact (h8 i (by omega) hi h).cells
    · exact (h7 i (by omega) hi h).cells
  obtain ⟨a0, m0, c0, k0, N0, s0, d0, eC, hC, -⟩ := h7 j hj hjc (Nat.le_refl _)
  have hw := hW _ (hE.own h2)
  rw [set5_flat hjc h16, eC, set5] at hw
  have hlj := hmon j (Nat.le_refl _) 0 (by omega)
  refine ⟨cs.set j (ndCells l[j] (.slice a m c) k N s d), fun i => if i ≤ j then lo i else W.heap.size, by simp [h1], hw, ?_, ?_, fun i hi => ?_, ?_, fun i hi hc hji => ?_, fun i hi hc hij => ?_⟩
  · intro b hb; simpa using h3 b hb
  · simpa using h4
  · dsimp only
    rw [if_pos (by omega)]
    by_cases e : i + 1 ≤ j
    · rw [if_pos e]; exact h5 i (by omega)
    · rw [if_neg e]
      have : i = j := by omega
      subst this
      exact Nat.le_trans h6 (Nat.le_trans hE.size hg.size)
  · dsimp only; rw [if_neg (by omega)]; exact Nat.le_refl _
  · have hic : i < cs.length := by simpa using hc
    rw [List.getElem_set_ne (by omega)]
    exact h7 i hi hic (by omega)
  · have hic : i < cs.length := by simpa using hc
    dsimp only
    rw [if_pos (by omega)]
    by_cases e : i = j
    · subst e
      rw [if_neg (by omega), List.getElem_set_self]
      have hn : ndWf l[i] := hC.wf
      refine ⟨a, m, c, k, N, s, d, F, rfl, ?_, fun b hb => ⟨?_, hF b hb⟩, ?_, fun b hb => ?_, hn⟩
      · refine ownsRow_mono (ownsRow_block hA (fun b hb => hg.block b (World.ownsRow.lt hA b hb).2 (fun e => ?_))) h6
        have := (World.ownsRow.lt hA b hb).1
        injection e with e
        omega
      · exact Nat.lt_of_lt_of_le (World.ownsRow.lt hA b hb).2 hg.size
      · refine (hV.kept (fun b hb => hg.block b (hV.bounds b hb).2 (fun e => ?_))).mono h6
        have := (hV.bounds b hb).1
        injection e with e
        omega
      · exact Nat.lt_of_lt_of_le (hV.bounds b hb).2 hg.size
    · rw [if_pos (by omega), List.getElem_set_ne (fun h => e h.symm)]
      refine (h8 i hi hic (by omega)).far (fun b hb1 hb2 => ?_)
      have hb3 : b < lo j := Nat.lt_of_lt_of_le hb2 (hmon j (Nat.le_refl _) (i + 1) (by omega))
      have hb4 : g < b := Nat.lt_of_lt_of_le hgl (Nat.le_trans (hmon i (by omega) 0 (by omega)) hb1)
      rw [hg.block b (by have := hE.size; omega) (fun e => by injection e with e; omega)]
      exact hE.block b (by omega)
/-- The same in a world where a block ahead of the copy has changed. -/
theorem HalfN.set {eN eI eV : TypeId} {w0 w : World} {base : Nat} {v : Value} {l : List Nd} {j b : Nat} (h : HalfN eN eI eV w0 base w v l j) (hb : b < base) (o : Nat) (u : Value) : HalfN eN eI eV w0 base (w.setCell ⟨b, o, none⟩ u) v l j := by
  obtain ⟨cs, lo, h1, h2, h3, h4, h5, h6, h7, h8⟩ := h
  have hg := setOne_grown w b o u
  have hmon : ∀ i, i ≤ j → base ≤ lo i := fun i => by
    induction i with
    | zero => exact fun _ => h4
    | succ i ih => exact fun hi => Nat.le_trans (ih (by omega)) (h5 i (by omega))
  refine ⟨cs, lo, h1, ownsRow_block h2 (fun k hk => hg.block k (h2.lt k hk).2 (fun e => ?_)), h3, h4, h5, Nat.le_trans h6 hg.size, h7, fun i hi hc hij => ?_⟩
  · injection e with e
    have := (h2.lt k hk).1
    omega
  · have q := h8 i hi hc hij
    obtain ⟨a, m, c, k, N, S, d, F, rfl', k1, k2, k3, k4, k5⟩ := q
    have hbi := hmon i (by omega)
    refine ⟨a, m, c, k, N, S, d, F, rfl', ownsRow_block k1 (fun x hx => hg.block x (World.ownsRow.lt k1 x hx).2 (fun e => ?_)), k2, k3.kept (fun x hx => hg.block x (k3.bounds x hx).2 (fun e => ?_)), k4, k5⟩
    · injection e with e
      have := (World.ownsRow.lt k1 x hx).1
      omega
    · injection e with e
      have := (k3.bounds x hx).1
      omega
/-- A node that is still to be copied. -/
theorem HalfN.at {eN eI eV : TypeId} {w0 w : World} {base g cap : Nat} {l : List Nd} {j : Nat} (h : HalfN eN eI eV w0 base w (.slice (some ⟨g, 0, none⟩) l.length cap) l j) (hj : j < l.length) :
    ∃ (a : Option Addr) (m c : Nat) (k N s d : Value), NdV w0 l[j] (.agg (ndCells l[j] (.slice a m c) k N s d).toArray) ∧ (∀ i u, (ndCells l[j] (.slice a m c) k N s d)[i]? = some u → w.cell? ⟨g, j * 16 + i, none⟩ = some u) ∧ (∀ i, w.frozen? ⟨g, i, none⟩ = false) ∧ base ≤ g ∧ g < w.heap.size := by
  obtain ⟨cs, lo, h1, h2, h3, h4, h5, h6, h7, h8⟩ := h
  have hjc : j < cs.length := by omega
  have h16 : ∀ C, C ∈ cs → C.length = 16 := fun C hC => by
    obtain ⟨i, hi, rfl⟩ := List.getElem_of_mem hC
    rcases Nat.lt_or_ge i j with h | h
    · exact (h8 i (by omega) hi h).cells
    · exact (h7 i (by omega) hi h).cells
  obtain ⟨a, m, c, k, N, s, d, eC, hC, -⟩ := h7 j hj hjc (Nat.le_refl _)
  rw [eC] at hC
  refine ⟨a, m, c, k, N, s, d, hC, fun i u hu => ?_, fun i => h2.frozenAt _, (h2.lt g rfl).1, (h2.lt g rfl).2⟩
  have hi : i < 16 := (List.getElem?_eq_some_iff.1 hu).1
  have hfl := flat16_all cs h16
  rw [h2.cellAt _ (by omega), flat16 cs j i hjc h16 hi, eC]
  exact hu
theorem CopyN.mono {eN eI eV : TypeId} {base base' : Nat} {w : World} {v : Value} {l : List Nd} (h : CopyN eN eI eV base w v l) (hb : base' ≤ base) : CopyN eN eI eV base' w v l := by
  obtain ⟨cs, lo, h1, h2, h3, h4, h5⟩ := h
  exact ⟨cs, lo, h1, ownsRow_mono h2 hb, h3, Nat.le_trans hb h4, h5⟩
theorem CopyN.slice {eN eI eV : TypeId} {base : Nat} {w : World} {v : Value} {l : List Nd} (h : CopyN eN eI eV base w v l) : ∃ a c, v = .slice a l.length c := by
  obtain ⟨cs, lo, h1, h2, _⟩ := h
  rcases h2.2 with ⟨e, e2⟩ | ⟨g, cap, cur, e, _⟩
  · exact ⟨none, 0, by rw [e, e2]⟩
  · exact ⟨_, _, e⟩
theorem ShN.slice {eN : TypeId} {w0 w : World} {base : Nat} {v : Value} {l : List Nd} (h : ShN eN w0 base w v l) : (l = [] ∧ v = .slice none 0 0) ∨ ∃ g c, v = .slice (some ⟨g, 0, none⟩) l.length c ∧ l.length ≤ c := by
  obtain ⟨cs, h1, h2, _⟩ := h
  rcases h2.2 with ⟨e, e2⟩ | ⟨g, cap, cur, e, hb, hg, hl, _⟩
  · exact .inl ⟨List.eq_nil_of_length_eq_zero e2, e⟩
  · exact .inr ⟨g, cap, e, hl⟩
end Fm

/- Nodes in blocks that are open, changed and written over: plain facts. No program is imported. -/
namespace Fm
open Go Go.RowKit

/-- What lies outside the open blocks stays. -/
structure Keep (O : Nat → Prop) (w w' : World) : Prop where
  os : w'.os = w.os
  tape : w'.tape = w.tape
  output : w'.output = w.output
  size : w.heap.size ≤ w'.heap.size
  block : ∀ b, b < w.heap.size → ¬ O b → w'.heap[b]? = w.heap[b]?
theorem Keep.refl (O : Nat → Prop) (w : World) : Keep O w w := ⟨rfl, rfl, rfl, Nat.le_refl _, fun _ _ _ => rfl⟩
theorem Keep.trans {O : Nat → Prop} {a b c : World} (h : Keep O a b) (k : Keep O b c) : Keep O a c :=
  ⟨k.os.trans h.os, k.tape.trans h.tape, k.output.trans h.output, Nat.le_trans h.size k.size, fun x hx ho => (k.block x (Nat.lt_of_lt_of_le hx h.size) ho).trans (h.block x hx ho)⟩
theorem Keep.grown {O : Nat → Prop} {a b c : World} {row : Option Nat} (h : Keep O a b) (hg : b.grownBy c row) (hr : ∀ k, row = some k → O k) : Keep O a c :=
  h.trans ⟨hg.os, hg.tape, hg.output, hg.size, fun x hx ho => hg.block x hx (fun e => ho (hr x e.symm))⟩
theorem Keep.ext {O : Nat → Prop} {a b c : World} (h : Keep O a b) (hE : Ext b c) : Keep O a c := h.grown (row := none) hE.grownBy (fun k hk => by cases hk)
theorem Keep.mono {O O' : Nat → Prop} {w w' : World} (h : Keep O w w') (hO : ∀ b, O b → O' b) : Keep O' w w' := ⟨h.os, h.tape, h.output, h.size, fun b hb ho => h.block b hb (fun q => ho (hO b q))⟩
/-- Cells that are there, and may be written. -/
def Has (w : World) (b n : Nat) : Prop := b < w.heap.size ∧ ∀ j, j < n → (∃ u, w.cell? ⟨b, j, none⟩ = some u) ∧ w.frozen? ⟨b, j, none⟩ = false
theorem Has.set {w : World} {b n : Nat} (h : Has w b n) (b' j' : Nat) (u : Value) : Has (w.setCell ⟨b', j', none⟩ u) b n := by
  refine ⟨by simp [h.1], fun j hj => ?_⟩
  obtain ⟨⟨x, hx⟩, hf⟩ := h.2 j hj
  refine ⟨?_, by rw [World.frozen?_setCell]; exact hf⟩
  by_cases e : (⟨b, j, none⟩ : Addr) = ⟨b', j', none⟩
  · rw [← e]; exact ⟨u, World.cell?_setCell_same _ _ _ hx⟩
  · exact ⟨x, (World.cell?_setCell_other w _ _ u (fun h => e h.symm)).trans hx⟩
theorem Has.block {w w' : World} {b n : Nat} (h : Has w b n) (hb : w'.heap[b]? = w.heap[b]?) (hs : w.heap.size ≤ w'.heap.size) : Has w' b n := by
  refine ⟨Nat.lt_of_lt_of_le h.1 hs, fun j hj => ?_⟩
  obtain ⟨⟨x, hx⟩, hf⟩ := h.2 j hj
  exact ⟨⟨x, (World.cell?_of_block (a := ⟨b, j, none⟩) hb).trans hx⟩, (World.frozen?_of_block (a := ⟨b, j, none⟩) hb).trans hf⟩
theorem Has.ext {w w' : World} {b n : Nat} (h : Has w b n) (hE : Ext w w') : Has w' b n := h.block (hE.block b h.1) hE.size
/-- A slice whose cells may be written, in an open block, none of two others. -/
def OpenSl (O : Nat → Prop) (w : World) (g p sz : Nat) (v : Value) : Prop :=
  ∃ a m c, v = .slice a m c ∧ m ≤ 9223372036854775807 ∧ (0 < m → ∃ b, a = some ⟨b, 0, none⟩ ∧ O b ∧ b ≠ g ∧ b ≠ p ∧ Has w b (m * sz))
theorem OpenSl.set {O : Nat → Prop} {w : World} {g p sz : Nat} {v : Value} (h : OpenSl O w g p sz v) (b' j' : Nat) (u : Value) : OpenSl O (w.setCell ⟨b', j', none⟩ u) g p sz v := by
  obtain ⟨a, m, c, h1, h2, h3⟩ := h
  refine ⟨a, m, c, h1, h2, fun hm => ?_⟩
  obtain ⟨b, k1, k2, k3, k4, k5⟩ := h3 hm
  exact ⟨b, k1, k2, k3, k4, k5.set _ _ _⟩
theorem OpenSl.ext {O : Nat → Prop} {w w' : World} {g p sz : Nat} {v : Value} (h : OpenSl O w g p sz v) (hE : Ext w w') : OpenSl O w' g p sz v := by
  obtain ⟨a, m, c, h1, h2, h3⟩ := h
  refine ⟨a, m, c, h1, h2, fun hm => ?_⟩
  obtain ⟨b, k1, k2, k3, k4, k5⟩ := h3 hm
  exact ⟨b, k1, k2, k3, k4, k5.ext hE⟩
theorem OpenSl.own {O : Nat → Prop} {w : World} {g p sz base e n : Nat} {v : Value} {xs : List Value} (h : w.ownsRow base e sz v n xs) (hO : ∀ b, v.ownBlock = some b → O b ∧ b ≠ g ∧ b ≠ p) : OpenSl O w g p sz v := by
  have hx := h.1
  rcases h.2 with ⟨e1, e2⟩ | ⟨b, cap, cur, e1, h1, h2, h3, h4, h5, h6⟩
  · exact ⟨none, 0, 0, e1, by omega, fun h => by omega⟩
  · subst e1
    obtain ⟨k1, k2, k3⟩ := hO b rfl
    refine ⟨_, _, _, rfl, by unfold maxLen at h4; omega, fun hm => ⟨b, rfl, k1, k2, k3, (h.lt b rfl).2, fun j hj => ⟨⟨_, (h.cellAt j (by omega)).trans (List.getElem?_eq_getElem (by omega))⟩, h.frozenAt j⟩⟩⟩
/-- Nodes from their cells. -/
theorem ndRow_parts {eN : TypeId} {base : Nat} {w : World} {v : Value} {l : List Nd} {cs : List (List Value)} (h1 : cs.length = l.length) (h2 : w.ownsRow base eN 16 v l.length cs.flatten)
    (h3 : ∀ (i : Nat) (hi : i < l.length) (hc : i < cs.length), cs[i].length = 16 ∧ NdV w l[i] (.agg cs[i].toArray)) : ndE.Row w l v := by
  have hc := fun g => World.ownsRow.cells h2 (g := g)
  have h16 : ∀ C, C ∈ cs → C.length = 16 := fun C hC => by
    obtain ⟨i, hi, rfl⟩ := List.getElem_of_mem hC
    exact (h3 i (by omega) hi).1
  rcases h2.2 with ⟨rfl, h0⟩ | ⟨g, cap, cur, rfl, hb, hg, hl, hm, h5, h6⟩
  · have : l = [] := List.eq_nil_of_length_eq_zero h0
    subst this
    exact Elem.Row.void ndE w none
  · refine Elem.Row.mk rfl hl hm (Array.getElem?_eq_some_iff.1 hg).1 (fun i hi => ?_)
    have hd : i < cs.length := by omega
    obtain ⟨hlen, hn⟩ := h3 i hi hd
    refine ⟨fun j => cs[i].getD j .nilFunc, ?_, fun j hj => ?_⟩
    · obtain ⟨a, m, c, k, N, S, x, e, k1, k2, k3⟩ := hn
      injection e with e
      have e := congrArg Array.toList e
      simp only at e
      rw [e]
      exact ⟨⟨rfl, rfl, rfl, rfl, rfl, rfl⟩, k1, ⟨rfl, rfl, rfl, rfl, rfl⟩, k2, k3⟩
    · have hj16 : j < 16 := hj
      have := hc g rfl (i * 16 + j) (cs[i].getD j .nilFunc) (by
        rw [flat16 cs i j hd h16 hj16, List.getD_eq_getElem?_getD, List.getElem?_eq_getElem (by omega)]; rfl)
      rw [Addr.add_lit] at this
      exact this
/-- Nodes that may be written over: their row in an open block, and what they are after and their lists too. -/
def RigN (eN : TypeId) (O : Nat → Prop) (p : Nat) (w : World) (v : Value) (l : List Nd) : Prop :=
  ∃ cs : List (List Value), cs.length = l.length ∧ w.ownsRow 0 eN 16 v l.length cs.flatten ∧ (∀ g, v.ownBlock = some g → O g ∧ g ≠ p) ∧
    ∀ (i : Nat) (hi : i < l.length) (hc : i < cs.length), cs[i].length = 16 ∧ NdV w l[i] (.agg cs[i].toArray) ∧
      ∀ g, v.ownBlock = some g → OpenSl O w g p 1 (cs[i].getD 6 .nilFunc) ∧ OpenSl O w g p 4 (cs[i].getD 15 .nilFunc)
theorem RigN.row {eN : TypeId} {O : Nat → Prop} {p : Nat} {w : World} {v : Value} {l : List Nd} (h : RigN eN O p w v l) : ndE.Row w l v := by
  obtain ⟨cs, h1, h2, h3, h4⟩ := h
  exact ndRow_parts h1 h2 (fun i hi hc => ⟨(h4 i hi hc).1, (h4 i hi hc).2.1⟩)
theorem RigN.ext {eN : TypeId} {O : Nat → Prop} {p : Nat} {w w' : World} {v : Value} {l : List Nd} (h : RigN eN O p w v l) (hE : Ext w w') : RigN eN O p w' v l := by
  obtain ⟨cs, h1, h2, h3, h4⟩ := h
  exact ⟨cs, h1, hE.own h2, h3, fun i hi hc => ⟨(h4 i hi hc).1, (h4 i hi hc).2.1.ext hE, fun g hg => ⟨((h4 i hi hc).2.2 g hg).1.ext hE, ((h4 i hi hc).2.2 g hg).2.ext hE⟩⟩⟩
/-- A copy of nodes, all its blocks from base on, ahead of top. -/
def CopyT (eN eI eV : TypeId) (base top : Nat) (w : World) (v : Value) (l : List Nd) : Prop :=
  ∃ (cs : List (List Value)) (lo : Nat → Nat), cs.length = l.length ∧ w.ownsRow base eN 16 v l.length cs.flatten ∧ (∀ b, v.ownBlock = some b → b < lo 0) ∧ base ≤ lo 0 ∧ (∀ i, i < l.length → lo i ≤ lo (i + 1)) ∧ lo l.length ≤ top ∧ top ≤ w.heap.size ∧
    ∀ (i : Nat) (hi : i < l.length) (hc : i < cs.length), NdW eI eV (lo i) (lo (i + 1)) w l[i] cs[i]
theorem CopyN.top {eN eI eV : TypeId} {base : Nat} {w : World} {v : Value} {l : List Nd} (h : CopyN eN eI eV base w v l) : CopyT eN eI eV base w.heap.size w v l := by
  obtain ⟨cs, lo, h1, h2, h3, h4, h5, h6, h7⟩ := h
  exact ⟨cs, lo, h1, h2, h3, h4, h5, h6, Nat.le_refl _, h7⟩
theorem lo_mono {lo : Nat → Nat} {n : Nat} (h5 : ∀ i, i < n → lo i ≤ lo (i + 1)) : ∀ k, k ≤ n → ∀ i, i ≤ k → lo i ≤ lo k := fun k => by
  induction k with
  | zero => intro _ i hi; have : i = 0 := by omega
            subst this; exact Nat.le_refl _
  | succ k ih =>
    intro hk i hi
    rcases Nat.lt_or_ge i (k + 1) with h | h
    · exact Nat.le_trans (ih (by omega) i (by omega)) (h5 k (by omega))
    · have : i = k + 1 := by omega
      subst this; exact Nat.le_refl _
/-- What is not within the copy's blocks may change. -/
theorem CopyT.far {eN eI eV : TypeId} {base top : Nat} {w w' : World} {v : Value} {l : List Nd} (h : CopyT eN eI eV base top w v l) (hk : ∀ b, base ≤ b → b < top → w'.heap[b]? = w.heap[b]?) (hs : w.heap.size ≤ w'.heap.size) : CopyT eN eI eV base top w' v l := by
  obtain ⟨cs, lo, h1, h2, h3, h4, h5, h6, h7, h8⟩ := h
  have hm := lo_mono h5
  refine ⟨cs, lo, h1, ownsRow_block h2 (fun b hb => hk b (h2.lt b hb).1 ?_), h3, h4, h5, h6, Nat.le_trans h7 hs, fun i hi hc => (h8 i hi hc).far (fun b hb1 hb2 => hk b ?_ ?_)⟩
  · have := h3 b hb; have := hm l.length (Nat.le_refl _) 0 (by omega); omega
  · have := hm i (by omega) 0 (by omega); omega
  · have := hm l.length (Nat.le_refl _) (i + 1) (by omega); omega
theorem CopyT.ext {eN eI eV : TypeId} {base top : Nat} {w w' : World} {v : Value} {l : List Nd} (h : CopyT eN eI eV base top w v l) (hE : Ext w w') : CopyT eN eI eV base top w' v l := by
  have ht : top ≤ w.heap.size := by obtain ⟨_, _, _, _, _, _, _, _, h7, _⟩ := h; exact h7
  exact h.far (fun b _ hb => hE.block b (by omega)) hE.size
theorem CopyT.row {eN eI eV : TypeId} {base top : Nat} {w : World} {v : Value} {l : List Nd} (h : CopyT eN eI eV base top w v l) : ndE.Row w l v := by
  obtain ⟨cs, lo, h1, h2, h3, h4, h5, h6, h7, h8⟩ := h
  exact ndRow_parts h1 h2 (fun i hi hc => ⟨(h8 i hi hc).cells, (h8 i hi hc).v⟩)
theorem CopyT.slice {eN eI eV : TypeId} {base top : Nat} {w : World} {v : Value} {l : List Nd} (h : CopyT eN eI eV base top w v l) : (l = [] ∧ v = .slice none 0 0) ∨ ∃ g c, v = .slice (some ⟨g, 0, none⟩) l.length c ∧ l.length ≤ c ∧ base ≤ g ∧ g < top := by
  obtain ⟨cs, lo, h1, h2, h3, h4, h5, h6, h7, h8⟩ := h
  rcases h2.2 with ⟨e, e2⟩ | ⟨g, cap, cur, e, hb, hg, hl, _⟩
  · exact .inl ⟨List.eq_nil_of_length_eq_zero e2, e⟩
  · subst e
    exact .inr ⟨g, cap, rfl, hl, (h2.lt g rfl).1, by have := h3 g rfl; have := lo_mono h5 l.length (Nat.le_refl _) 0 (by omega); omega⟩
/-- The slices of a node within a window. -/
theorem NdW.open {eI eV : TypeId} {p q : Nat} {w : World} {n : Nd} {C : List Value} (h : NdW eI eV p q w n C) {O : Nat → Prop} {g P : Nat} (hO : ∀ b, p ≤ b → b < q → O b ∧ b ≠ g ∧ b ≠ P) : OpenSl O w g P 1 (C.getD 6 .nilFunc) ∧ OpenSl O w g P 4 (C.getD 15 .nilFunc) := by
  obtain ⟨a, m, c, k, N, S, d, F, rfl, h1, h2, h3, h4, h5⟩ := h
  refine ⟨OpenSl.own (show w.ownsRow p eI 1 (.slice a m c) n.after.length (n.after.map (Value.int .i64)) from h1) (fun b hb => hO b (World.ownsRow.lt h1 b hb).1 (h2 b hb).1), ?_⟩
  obtain ⟨kk, nn, ss, ll, hv⟩ : ∃ kk nn ss ll, n.val = .node kk nn ss ll := by cases h : n.val with | node k n s l => exact ⟨k, n, s, l, rfl⟩
  rw [hv] at h3
  obtain ⟨d', e, -, -, C, G, hrow, hch, hF, -⟩ := h3.parts
  injection e with e
  injection e with e
  simp only [List.cons.injEq, and_true] at e
  obtain ⟨-, -, -, rfl⟩ := e
  exact OpenSl.own hrow (fun b hb => hO b (hrow.lt b hb).1 (h4 b ((hF b).2 (.inl hb))))
/-- One cell of a node of a copy is written. -/
theorem CopyT.put {eN eI eV : TypeId} {base top g cap i : Nat} {w : World} {l : List Nd} (h : CopyT eN eI eV base top w (.slice (some ⟨g, 0, none⟩) l.length cap) l) (hi : i < l.length) (j : Nat) (hj : j < 16) (u : Value) (n' : Nd)
    (hN : ∀ p q C, NdW eI eV p q w l[i] C → NdW eI eV p q w n' (C.set j u)) : CopyT eN eI eV base top (w.setCell ⟨g, i * 16 + j, none⟩ u) (.slice (some ⟨g, 0, none⟩) l.length cap) (l.set i n') ∧ w.grownBy (w.setCell ⟨g, i * 16 + j, none⟩ u) (some g) := by
  obtain ⟨cs, lo, h1, h2, h3, h4, h5, h6, h7, h8⟩ := h
  have hm := lo_mono h5
  have h16 : ∀ C, C ∈ cs → C.length = 16 := fun C hC => by
    obtain ⟨k, hk, rfl⟩ := List.getElem_of_mem hC
    exact (h8 k (by omega) hk).cells
  have hic : i < cs.length := by omega
  have st := h2.stored (i * 16 + j) u
  have hg0 := h3 g rfl
  rw [flat16_set cs i j u hic h16 hj] at st
  refine ⟨⟨cs.set i (cs[i].set j u), lo, by simp [h1], by rw [List.length_set]; exact st.1, h3, h4, by rw [List.length_set]; exact h5, by rw [List.length_set]; exact h6, Nat.le_trans h7 st.2.size, fun k hk hkc => ?_⟩, st.2⟩
  have hkl : k < l.length := by simpa using hk
  have hkc' : k < cs.length := by simpa using hkc
  have key : NdW eI eV (lo k) (lo (k + 1)) w (l.set i n')[k] (cs.set i (cs[i].set j u))[k] := by
    by_cases e : i = k
    · subst e
      rw [List.getElem_set_self, List.getElem_set_self]
      exact hN _ _ _ (h8 i hi hic)
    · rw [List.getElem_set_ne e, List.getElem_set_ne e]
      exact h8 k hkl hkc'
  refine key.far (fun b hb1 hb2 => st.2.block b ?_ (fun e => ?_))
  · have := hm l.length (Nat.le_refl _) (k + 1) (by omega); omega
  · injection e with e
    have := hm k (by omega) 0 (by omega)
    omega
/-- The node's cells. -/
theorem CopyT.at {eN eI eV : TypeId} {base top g cap i : Nat} {w : World} {l : List Nd} (h : CopyT eN eI eV base top w (.slice (some ⟨g, 0, none⟩) l.length cap) l) (hi : i < l.length) :
    ∃ (a : Option Addr) (m c : Nat) (k N s d : Value), NdV w l[i] (.agg (ndCells l[i] (.slice a m c) k N s d).toArray) ∧ (∀ j u, (ndCells l[i] (.slice a m c) k N s d)[j]? = some u → w.cell? ⟨g, i * 16 + j, none⟩ = some u) ∧ (∀ j, w.frozen? ⟨g, j, none⟩ = false) ∧ base ≤ g ∧ g < top ∧ g < w.heap.size ∧
      OwnN eI base w (.slice a m c) l[i].after ∧ (∀ b, (Value.slice a m c).ownBlock = some b → b < top ∧ b ≠ g) ∧
      ∀ (O : Nat → Prop) (p : Nat) (w2 : World) (v' : Value) (n' : Nd), (∀ b, base ≤ b → b < top → O b ∧ b ≠ p) → w.grownBy w2 (Value.slice a m c).ownBlock → OwnN eI base w2 v' n'.after → (∀ b, v'.ownBlock = some b → O b ∧ b ≠ g ∧ b ≠ p) →
        ndCells n' v' k N s d = (ndCells l[i] (.slice a m c) k N s d).set 6 v' → n'.val = l[i].val → ndWf n' → (∃ a' m' c', v' = .slice a' m' c') →
        w2.cell? ⟨g, i * 16 + 6, none⟩ = some (.slice a m c) ∧ w2.frozen? ⟨g, i * 16 + 6, none⟩ = false ∧ RigN eN O p (w2.setCell ⟨g, i * 16 + 6, none⟩ v') (.slice (some ⟨g, 0, none⟩) l.length cap) (l.set i n') ∧ w2.grownBy (w2.setCell ⟨g, i * 16 + 6, none⟩ v') (some g) := by
  obtain ⟨cs, lo, h1, h2, h3, h4, h5, h6, h7, h8⟩ := h
  have hm := lo_mono h5
  have h16 : ∀ C, C ∈ cs → C.length = 16 := fun C hC => by
    obtain ⟨k, hk, rfl⟩ := List.getElem_of_mem hC
    exact (h8 k (by omega) hk).cells
  have hic : i < cs.length := by omega
  have hg0 := h3 g rfl
  have hgt : g < top := by have := hm l.length (Nat.le_refl _) 0 (by omega); omega
  have hv := (h8 i hi hic).v
  obtain ⟨a, m, c, k, N, S, d, F, eC, k1, k2, k3, k4, k5⟩ := h8 i hi hic
  have hfl := flat16_all cs h16
  have l1 := hm i (by omega) 0 (by omega)
  have l2 := hm l.length (Nat.le_refl _) (i + 1) (by omega)
  have hblk : ∀ b, (Value.slice a m c).ownBlock = some b → lo i ≤ b ∧ b < lo (i + 1) := fun b hb => ⟨(World.ownsRow.lt k1 b hb).1, (k2 b hb).1⟩
  have hcell : ∀ w2 : World, w2.ownsRow base eN 16 (.slice (some ⟨g, 0, none⟩) l.length cap) l.length cs.flatten → ∀ j u, (ndCells l[i] (.slice a m c) k N S d)[j]? = some u → w2.cell? ⟨g, i * 16 + j, none⟩ = some u := fun w2 hr j u hu => by
    have hj : j < 16 := (List.getElem?_eq_some_iff.1 hu).1
    rw [hr.cellAt _ (by omega), flat16 cs i j hic h16 hj, eC]
    exact hu
  rw [eC] at hv
  refine ⟨a, m, c, k, N, S, d, hv, hcell w h2, fun j => h2.frozenAt _, (h2.lt g rfl).1, hgt, (h2.lt g rfl).2, ownsRow_mono k1 (by omega), fun b hb => ⟨by have := hblk b hb; omega, by have := hblk b hb; omega⟩, ?_⟩
  intro O p w2 v' n' hO hg hown hv' hcs hval hwf hsl
  have r2 : w2.ownsRow base eN 16 (.slice (some ⟨g, 0, none⟩) l.length cap) l.length cs.flatten := by
    refine ownsRow_block h2 (fun b hb => hg.block b (h2.lt b hb).2 (fun e => ?_))
    have := hblk b e.symm
    have := h3 b hb
    omega
  have st := r2.stored (i * 16 + 6) v'
  rw [flat16_set cs i 6 v' hic h16 (by omega)] at st
  refine ⟨hcell w2 r2 6 _ rfl, r2.frozenAt _, ⟨cs.set i (cs[i].set 6 v'), by simp [h1], ownsRow_mono (by rw [List.length_set]; exact st.1) (Nat.zero_le _), fun b hb => ?_, fun x hx hxc => ?_⟩, st.2⟩
  · obtain rfl : g = b := by injection hb
    exact hO g (h2.lt g rfl).1 hgt
  have hxl : x < l.length := by simpa using hx
  have hxc' : x < cs.length := by simpa using hxc
  by_cases e : i = x
  · subst e
    rw [List.getElem_set_self, List.getElem_set_self, eC, ← hcs]
    obtain ⟨w1, w3, w4, w5, w6, w7, w8, w9, w10, w11, w12⟩ := hwf
    obtain ⟨a', m', c', rfl⟩ := hsl
    have o2 : OwnN eI base (w2.setCell ⟨g, i * 16 + 6, none⟩ (.slice a' m' c')) (.slice a' m' c') n'.after := ownsRow_block hown (fun b hb => st.2.block b (World.ownsRow.lt hown b hb).2 (fun e => by injection e with e; exact (hv' b hb).2.1 e))
    have v2 : Owns eV (w2.setCell ⟨g, i * 16 + 6, none⟩ (.slice a' m' c')) (lo i) l[i].val (.agg #[k, N, S, d]) F := (k3.kept (fun b hb => hg.block b (k3.bounds b hb).2 (fun e => (k2 b e.symm).2 hb))).kept (fun b hb => st.2.block b (Nat.lt_of_lt_of_le (k3.bounds b hb).2 hg.size) (fun e => by injection e with e; have := (k3.bounds b hb).1; omega))
    refine ⟨rfl, ⟨a', m', c', k, N, S, d, rfl, o2.row w12, by rw [hval]; exact v2.lies, w1, w3, w4, w5, w6, w7, w8, w9, w10⟩, fun b hb => ?_⟩
    obtain rfl : g = b := by injection hb
    refine ⟨OpenSl.own (show World.ownsRow _ base eI 1 (.slice a' m' c') n'.after.length (n'.after.map (Value.int .i64)) from o2) hv', ?_⟩
    have nw : NdW eI eV (lo i) (lo (i + 1)) (w2.setCell ⟨g, i * 16 + 6, none⟩ (.slice a' m' c')) ⟨l[i].id, l[i].name, l[i].kind, l[i].flow, l[i].owner, l[i].place, [], l[i].width, l[i].quota, l[i].stand, l[i].fails, l[i].tok, l[i].val⟩ (ndCells l[i] (.slice none 0 0) k N S d) := by
      obtain ⟨y1, y2, y3, y4, y5, y6, y7, y8, y9, y10, y11⟩ := k5
      exact ⟨none, 0, 0, k, N, S, d, F, rfl, OwnN.nil _ _ _, fun b hb => by simp [Value.ownBlock] at hb, v2, k4, y1, y2, y3, y4, y5, y6, y7, y8, y9, y10, fun z hz => by cases hz⟩
    exact (nw.open (fun b hb1 hb2 => by
      obtain ⟨o1, o2⟩ := hO b (by omega) (by omega)
      exact ⟨o1, by omega, o2⟩)).2
  · rw [List.getElem_set_ne e, List.getElem_set_ne e]
    have m1 := hm x (by omega) 0 (by omega)
    have m2 := hm l.length (Nat.le_refl _) (x + 1) (by omega)
    have nw : NdW eI eV (lo x) (lo (x + 1)) (w2.setCell ⟨g, i * 16 + 6, none⟩ v') l[x] cs[x] := by
      refine ((h8 x hxl hxc').far (w' := w2) (fun b hb1 hb2 => hg.block b (by omega) (fun e2 => ?_))).far (fun b hb1 hb2 => st.2.block b (Nat.lt_of_lt_of_le (show b < w.heap.size by omega) hg.size) (fun e2 => ?_))
      · have := hblk b e2.symm
        rcases Nat.lt_or_ge i x with q | q
        · have := hm x (by omega) (i + 1) (by omega); omega
        · have := hm i (by omega) (x + 1) (by omega); omega
      · injection e2 with e2; omega
    refine ⟨nw.cells, nw.v, fun b hb => ?_⟩
    obtain rfl : g = b := by injection hb
    exact nw.open (fun b hb1 hb2 => by
      obtain ⟨o1, o2⟩ := hO b (by omega) (by omega)
      exact ⟨o1, by omega, o2⟩)
/-- A node more. -/
theorem CopyT.grow {eN eI eV : TypeId} {base top : Nat} {w : World} {v : Value} {l : List Nd} (h : CopyT eN eI eV base top w v l) : ∃ xs : List Value, w.ownsRow base eN 16 v l.length xs ∧
    ∀ (O : Nat → Prop) (p : Nat) (w' : World) (v' : Value) (n : Nd) (C : List Value), (∀ b, base ≤ b → b < top → O b ∧ b ≠ p) → C.length = 16 → w'.ownsRow base eN 16 v' (l.length + 1) (xs ++ C) → (∀ b, base ≤ b → b < top → v.ownBlock ≠ some b → w'.heap[b]? = w.heap[b]?) →
      (∀ b, v'.ownBlock = some b → v.ownBlock = some b ∨ (O b ∧ b ≠ p ∧ top ≤ b)) → NdV w' n (.agg C.toArray) → C.getD 6 .nilFunc = .slice none 0 0 → C.getD 15 .nilFunc = .slice none 0 0 → RigN eN O p w' v' (l ++ [n]) := by
  obtain ⟨cs, lo, h1, h2, h3, h4, h5, h6', h7, h8⟩ := h
  have hm := lo_mono h5
  have htop := hm l.length (Nat.le_refl _) 0 (by omega)
  refine ⟨cs.flatten, h2, ?_⟩
  intro O p w' v' n C hO hC hrow hg hat hn h6 h15
  refine ⟨cs ++ [C], by simp [h1], ownsRow_mono (by rw [List.length_append, List.flatten_append]; simpa using hrow) (Nat.zero_le _), fun b hb => ?_, fun i hi hic => ?_⟩
  · rcases hat b hb with q | q
    · exact hO b (h2.lt b q).1 (by have := h3 b q; omega)
    · exact ⟨q.1, q.2.1⟩
  · by_cases hil : i < l.length
    · have hil2 : i < cs.length := by omega
      rw [List.getElem_append_left hil, List.getElem_append_left hil2]
      have m1 := hm i (by omega) 0 (by omega)
      have m2 := hm l.length (Nat.le_refl _) (i + 1) (by omega)
      have nw : NdW eI eV (lo i) (lo (i + 1)) w' l[i] cs[i] := (h8 i hil hil2).far (fun b hb1 hb2 => hg b (by omega) (by omega) (fun e => by have := h3 b e; omega))
      refine ⟨nw.cells, nw.v, fun g hg' => nw.open (fun b hb1 hb2 => ?_)⟩
      obtain ⟨o1, o2⟩ := hO b (by omega) (by omega)
      refine ⟨o1, ?_, o2⟩
      rcases hat g hg' with q | q
      · have := h3 g q; omega
      · omega
    · have e1 : i = l.length := by simp at hi; omega
      subst e1
      have e2 : (cs ++ [C])[l.length]'hic = C := by rw [List.getElem_append_right (by omega)]; simp [h1]
      rw [List.getElem_append_right (Nat.le_refl _), e2]
      simp only [Nat.sub_self, List.getElem_cons_zero]
      refine ⟨hC, hn, fun g hg' => ?_⟩
      rw [h6, h15]
      exact ⟨⟨none, 0, 0, rfl, by omega, fun h => by omega⟩, ⟨none, 0, 0, rfl, by omega, fun h => by omega⟩⟩
theorem CopyT.n {eN eI eV : TypeId} {base top : Nat} {w : World} {v : Value} {l : List Nd} (h : CopyT eN eI eV base top w v l) : CopyN eN eI eV base w v l := by
  obtain ⟨cs, lo, h1, h2, h3, h4, h5, h6, h7, h8⟩ := h
  exact ⟨cs, lo, h1, h2, h3, h4, h5, Nat.le_trans h6 h7, h8⟩
theorem CopyN.kept {eN eI eV : TypeId} {base : Nat} {w w' : World} {v : Value} {l : List Nd} {row : Option Nat} (h : CopyN eN eI eV base w v l) (hg : w.grownBy w' row) (hr : ∀ b, row = some b → b < base) : CopyN eN eI eV base w' v l :=
  (h.top.far (fun b hb1 hb2 => hg.block b hb2 (fun e => by have := hr b e.symm; omega)) hg.size).n
theorem CopyT.size {eN eI eV : TypeId} {base top : Nat} {w : World} {v : Value} {l : List Nd} (h : CopyT eN eI eV base top w v l) : top ≤ w.heap.size := by
  obtain ⟨_, _, _, _, _, _, _, _, h7, _⟩ := h; exact h7
theorem CopyT.block {eN eI eV : TypeId} {base top : Nat} {w : World} {v : Value} {l : List Nd} (h : CopyT eN eI eV base top w v l) (b : Nat) (hb : v.ownBlock = some b) : base ≤ b ∧ b < top := by
  obtain ⟨cs, lo, h1, h2, h3, h4, h5, h6, h7, h8⟩ := h
  have := lo_mono h5 l.length (Nat.le_refl _) 0 (by omega)
  have := h3 b hb
  exact ⟨(h2.lt b hb).1, by omega⟩
end Fm

/- Two copies of a state, and what is written over: plain facts. No program is imported. -/
namespace Fm
open Go Go.RowKit

/-- Two copies, each in blocks of its own, and their boxes. -/
structure Two (eN eI eV : TypeId) (w0 w : World) (u1 u2 : List Value) (l : List Nd) (b1 b2 : Nat) (v1 v2 : Value) (p1 q1 p2 q2 : Nat) : Prop where
  e : Ext w0 w
  x1 : BoxL w b1 u1
  x2 : BoxL w b2 u2
  c1 : CopyT eN eI eV p1 q1 w v1 l
  c2 : CopyT eN eI eV p2 q2 w v2 l
  n1 : w0.heap.size ≤ b1
  n2 : w0.heap.size ≤ b2
  ne : b1 ≠ b2
  lo : w0.heap.size ≤ p1
  mid : q1 ≤ p2
  f11 : b1 < p1 ∨ q1 ≤ b1
  f12 : b1 < p2 ∨ q2 ≤ b1
  f21 : b2 < p1 ∨ q1 ≤ b2
  f22 : b2 < p2 ∨ q2 ≤ b2
theorem Two.ext {eN eI eV : TypeId} {w0 w w' : World} {u1 u2 : List Value} {l : List Nd} {b1 b2 : Nat} {v1 v2 : Value} {p1 q1 p2 q2 : Nat} (h : Two eN eI eV w0 w u1 u2 l b1 b2 v1 v2 p1 q1 p2 q2) (hE : Ext w w') : Two eN eI eV w0 w' u1 u2 l b1 b2 v1 v2 p1 q1 p2 q2 :=
  ⟨h.e.trans hE, h.x1.ext hE, h.x2.ext hE, h.c1.ext hE, h.c2.ext hE, h.n1, h.n2, h.ne, h.lo, h.mid, h.f11, h.f12, h.f21, h.f22⟩
/-- What is open when the first of the two is changed: all that is new, but the second, and the boxes. -/
def OpT (w0 : World) (b1 b2 p2 q2 : Nat) (b : Nat) : Prop := w0.heap.size ≤ b ∧ (b < p2 ∨ q2 ≤ b) ∧ b ≠ b1 ∧ b ≠ b2
/-- Behind the first one's change: the second stands, and what is old. -/
structure Aft (eN eI eV : TypeId) (w0 w : World) (u2 : List Value) (l : List Nd) (b1 b2 : Nat) (v2 : Value) (p2 q2 : Nat) : Prop where
  e : Ext w0 w
  x2 : BoxL w b2 u2
  c2 : CopyT eN eI eV p2 q2 w v2 l
  n1 : w0.heap.size ≤ b1
  n2 : w0.heap.size ≤ b2
  ne : b1 ≠ b2
  f12 : b1 < p2 ∨ q2 ≤ b1
  lo : w0.heap.size ≤ p2
theorem Aft.ext {eN eI eV : TypeId} {w0 w w' : World} {u2 : List Value} {l : List Nd} {b1 b2 : Nat} {v2 : Value} {p2 q2 : Nat} (h : Aft eN eI eV w0 w u2 l b1 b2 v2 p2 q2) (hE : Ext w w') : Aft eN eI eV w0 w' u2 l b1 b2 v2 p2 q2 :=
  ⟨h.e.trans hE, h.x2.ext hE, h.c2.ext hE, h.n1, h.n2, h.ne, h.f12, h.lo⟩
theorem Aft.keep {eN eI eV : TypeId} {w0 w w' : World} {u2 : List Value} {l : List Nd} {b1 b2 : Nat} {v2 : Value} {p2 q2 : Nat} (h : Aft eN eI eV w0 w u2 l b1 b2 v2 p2 q2) {k j : Nat} {u : Value} (ho : OpT w0 b1 b2 p2 q2 k) (hw : w' = w.setCell ⟨k, j, none⟩ u) : Aft eN eI eV w0 w' u2 l b1 b2 v2 p2 q2 := by
  subst hw
  have hg := setOne_grown w k j u
  unfold OpT at ho
  have s2 := h.c2.size
  exact ⟨h.e.grown hg (fun x hx => by injection hx with hx; omega), h.x2.kept hg (fun e => by injection e with e; omega), h.c2.far (fun b q1 q2 => hg.block b (by omega) (fun e => by injection e with e; omega)) hg.size, h.n1, h.n2, h.ne, h.f12, h.lo⟩
/-- While the first one is written over. -/
structure Lp (eN eI eV : TypeId) (w0 w : World) (u1 u2 : List Value) (l : List Nd) (b1 b2 : Nat) (v2 : Value) (p2 q2 g cap : Nat) (cs : List (List Value)) : Prop where
  a : Aft eN eI eV w0 w u2 l b1 b2 v2 p2 q2
  x1 : BoxL w b1 u1
  r : w.ownsRow 0 eN 16 (.slice (some ⟨g, 0, none⟩) cs.length cap) cs.length cs.flatten
  s : ∀ (i : Nat) (hi : i < cs.length), cs[i].length = 16 ∧ OpenSl (OpT w0 b1 b2 p2 q2) w g b1 1 (cs[i].getD 6 .nilFunc) ∧ OpenSl (OpT w0 b1 b2 p2 q2) w g b1 4 (cs[i].getD 15 .nilFunc)
theorem Lp.set {eN eI eV : TypeId} {w0 w : World} {u1 u2 : List Value} {l : List Nd} {b1 b2 : Nat} {v2 : Value} {p2 q2 g cap : Nat} {cs : List (List Value)} (h : Lp eN eI eV w0 w u1 u2 l b1 b2 v2 p2 q2 g cap cs) {k : Nat} (ho : OpT w0 b1 b2 p2 q2 k) (hg : k ≠ g) (j : Nat) (u : Value) :
    Lp eN eI eV w0 (w.setCell ⟨k, j, none⟩ u) u1 u2 l b1 b2 v2 p2 q2 g cap cs := by
  have hgr := setOne_grown w k j u
  refine ⟨h.a.keep ho rfl, h.x1.kept hgr (fun e => by injection e with e; exact ho.2.2.1 e), ownsRow_block h.r (fun b hb => hgr.block b (h.r.lt b hb).2 (fun e => ?_)), fun i hi => ⟨(h.s i hi).1, (h.s i hi).2.1.set _ _ _, (h.s i hi).2.2.set _ _ _⟩⟩
  injection e with e
  have hb : g = b := by injection hb
  omega
theorem Lp.at {eN eI eV : TypeId} {w0 w : World} {u1 u2 : List Value} {l : List Nd} {b1 b2 : Nat} {v2 : Value} {p2 q2 g cap : Nat} {cs : List (List Value)} (h : Lp eN eI eV w0 w u1 u2 l b1 b2 v2 p2 q2 g cap cs) (i : Nat) (hi : i < cs.length) :
    w.cell? ⟨g, i * 16 + 6, none⟩ = some (cs[i].getD 6 .nilFunc) ∧ w.cell? ⟨g, i * 16 + 12 + 3, none⟩ = some (cs[i].getD 15 .nilFunc) := by
  have h16 : ∀ C, C ∈ cs → C.length = 16 := fun C hC => by
    obtain ⟨k, hk, rfl⟩ := List.getElem_of_mem hC
    exact (h.s k hk).1
  have hfl := flat16_all cs h16
  have hl := (h.s i hi).1
  refine ⟨?_, ?_⟩
  · rw [h.r.cellAt (i * 16 + 6) (by omega), flat16 cs i 6 hi h16 (by omega), List.getD_eq_getElem?_getD, List.getElem?_eq_getElem (by omega)]; rfl
  · show w.cell? ⟨g, i * 16 + 15, none⟩ = _
    rw [h.r.cellAt (i * 16 + 15) (by omega), flat16 cs i 15 hi h16 (by omega), List.getD_eq_getElem?_getD, List.getElem?_eq_getElem (by omega)]; rfl
end Fm

namespace Fm
open Go Go.RowKit

def setL : List Value → Nat → List Value → List Value
  | xs, _, [] => xs
  | xs, o, v :: vs => setL (xs.set o v) (o + 1) vs
theorem setL_get : ∀ (vs xs : List Value) (o p : Nat), o + vs.length ≤ xs.length → (setL xs o vs)[p]? = if o ≤ p ∧ p < o + vs.length then vs[p - o]? else xs[p]?
  | [], xs, o, p, _ => by rw [setL, if_neg (by rw [List.length_nil]; omega)]
  | v :: vs, xs, o, p, h => by
    rw [List.length_cons] at h
    rw [setL, setL_get vs (xs.set o v) (o + 1) p (by simp; omega)]
    by_cases h1 : p = o
    · subst h1
      rw [if_neg (by omega), if_pos (by simp), List.getElem?_set_self (by omega)]; simp
    · by_cases h2 : o + 1 ≤ p ∧ p < o + 1 + vs.length
      · rw [if_pos h2, if_pos (by simp; omega), show p - o = (p - (o + 1)) + 1 by omega, List.getElem?_cons_succ]
      · rw [if_neg h2, if_neg (by simp; omega), List.getElem?_set_ne (by omega)]
theorem setL_flat {cs : List (List Value)} {j : Nat} {C : List Value} (hj : j < cs.length) (h16 : ∀ D, D ∈ cs → D.length = 16) (hC : C.length = 16) : setL cs.flatten (j * 16) C = (cs.set j C).flatten := by
  have hl := flat16_all cs h16
  have h16' : ∀ D, D ∈ cs.set j C → D.length = 16 := fun D hD => by
    rcases List.mem_or_eq_of_mem_set hD with h | h
    · exact h16 D h
    · rw [h]; exact hC
  apply List.ext_getElem?
  intro p
  rw [setL_get C cs.flatten (j * 16) p (by rw [hl, hC]; omega), hC]
  by_cases hp : p < cs.length * 16
  · obtain ⟨i, k, hk, rfl⟩ : ∃ i k, k < 16 ∧ p = i * 16 + k := ⟨p / 16, p % 16, Nat.mod_lt _ (by omega), by omega⟩
    have hi : i < cs.length := by omega
    rw [flat16 (cs.set j C) i k (by simpa using hi) h16' hk]
    by_cases e : i = j
    · subst e
      rw [if_pos (by omega), List.getElem_set_self, show i * 16 + k - i * 16 = k by omega]
    · rw [if_neg (by omega), List.getElem_set_ne (fun h => e h.symm), flat16 cs i k hi h16 hk]
  · rw [if_neg (by omega), List.getElem?_eq_none (by rw [hl]; omega), List.getElem?_eq_none (by rw [flat16_all _ h16']; simp; omega)]
theorem ownsRow_setCells {base e size n g cap : Nat} : ∀ (vs : List Value) (o : Nat) (w : World) (xs : List Value), w.ownsRow base e size (.slice (some ⟨g, 0, none⟩) n cap) n xs →
    (w.setCells g o vs).ownsRow base e size (.slice (some ⟨g, 0, none⟩) n cap) n (setL xs o vs)
  | [], _, _, _, h => h
  | v :: vs, o, _, _, h => ownsRow_setCells vs (o + 1) _ _ (h.stored o v).1
/-- The first j nodes of a row of n are made, node i's slices from lo i on. -/
def MadeN (eN eI eV : TypeId) (base : Nat) (w : World) (v : Value) (n : Nat) (f : Nat → Nd) (j : Nat) : Prop :=
  ∃ (cs : List (List Value)) (lo : Nat → Nat), cs.length = n ∧ w.ownsRow base eN 16 v n cs.flatten ∧ (∀ b, v.ownBlock = some b → b < lo 0) ∧ base ≤ lo 0 ∧ (∀ i, i < j → lo i ≤ lo (i + 1)) ∧ lo j ≤ w.heap.size ∧
    (∀ C, C ∈ cs → C.length = 16) ∧ ∀ (i : Nat) (_ : i < n) (hc : i < cs.length), i < j → NdW eI eV (lo i) (lo (i + 1)) w (f i) cs[i]
theorem MadeN.start {eN eI eV : TypeId} {base : Nat} {w : World} {g n cap : Nat} {f : Nat → Nd} {C : List Value} (h : w.ownsRow base eN 16 (.slice (some ⟨g, 0, none⟩) n cap) n (List.replicate n C).flatten) (hC : C.length = 16) (hg : g < w.heap.size) (hb : base ≤ g) : MadeN eN eI eV base w (.slice (some ⟨g, 0, none⟩) n cap) n f 0 :=
  ⟨List.replicate n C, fun _ => w.heap.size, by simp, h, fun b hb => by injection hb with hb; show b < w.heap.size; rw [← hb]; exact hg, by dsimp only; omega, fun i hi => by omega, Nat.le_refl _, fun D hD => by rw [List.eq_of_mem_replicate hD]; exact hC, fun i _ _ hi => by omega⟩
theorem MadeN.ext {eN eI eV : TypeId} {base : Nat} {w w' : World} {v : Value} {n j : Nat} {f : Nat → Nd} (h : MadeN eN eI eV base w v n f j) (hE : Ext w w') : MadeN eN eI eV base w' v n f j := by
  obtain ⟨cs, lo, h1, h2, h3, h4, h5, h6, h7, h8⟩ := h
  have hmon := lo_mono h5
  refine ⟨cs, lo, h1, hE.own h2, h3, h4, h5, Nat.le_trans h6 hE.size, h7, fun i hi hc hij => (h8 i hi hc hij).far (fun b _ hb => ?_)⟩
  have := hmon j (Nat.le_refl _) (i + 1) (by omega)
  exact (hE.grownBy).block b (by omega) (by simp)
theorem MadeN.lt {eN eI eV : TypeId} {base : Nat} {w : World} {n j g cap : Nat} {f : Nat → Nd} (h : MadeN eN eI eV base w (.slice (some ⟨g, 0, none⟩) n cap) n f j) : base ≤ g ∧ g < w.heap.size := by
  obtain ⟨cs, lo, h1, h2, -⟩ := h
  exact World.ownsRow.lt h2 g rfl
theorem MadeN.there {eN eI eV : TypeId} {base : Nat} {w : World} {n j g cap : Nat} {f : Nat → Nd} (h : MadeN eN eI eV base w (.slice (some ⟨g, 0, none⟩) n cap) n f j) {k : Nat} (hk : k < n) : w.there g (k * 16) 16 := by
  obtain ⟨cs, lo, h1, h2, -⟩ := h
  intro i hi
  have hl : cs.flatten.length = n * 16 := h2.1
  have hlt : k * 16 + i < cs.flatten.length := by omega
  refine ⟨?_, World.ownsRow.frozenAt h2 _⟩
  rw [World.ownsRow.cellAt h2 _ (by omega), List.getElem?_eq_getElem hlt]
  rfl
theorem MadeN.full {eN eI eV : TypeId} {base : Nat} {w : World} {v : Value} {n : Nat} {f : Nat → Nd} (h : MadeN eN eI eV base w v n f n) : CopyN eN eI eV base w v ((List.range n).map f) := by
  obtain ⟨cs, lo, h1, h2, h3, h4, h5, h6, h7, h8⟩ := h
  refine ⟨cs, lo, by simpa using h1, by simpa using h2, h3, h4, by simpa using h5, by simpa using h6, fun i hi hc => ?_⟩
  have hi : i < n := by simpa using hi
  have := h8 i hi hc hi
  simpa using this
theorem MadeN.step {eN eI eV : TypeId} {wr w : World} {base : Nat} {n j g cap : Nat} {f : Nat → Nd} (h : MadeN eN eI eV base wr (.slice (some ⟨g, 0, none⟩) n cap) n f j) (hj : j < n) (hE : Ext wr w) {a : Option Addr} {m c : Nat} {k N s d : Value} {F : Nat → Prop}
    (hA : OwnN eI wr.heap.size w (.slice a m c) (f j).after) (hF : ∀ b, (Value.slice a m c).ownBlock = some b → ¬ F b) (hV : Owns eV w wr.heap.size (f j).val (.agg #[k, N, s, d]) F) (hwf : ndWf (f j)) :
    MadeN eN eI eV base (w.setCells g (j * 16) (ndCells (f j) (.slice a m c) k N s d)) (.slice (some ⟨g, 0, none⟩) n cap) n f (j + 1) := by
  have hg := setCells_grown g (ndCells (f j) (.slice a m c) k N s d) (j * 16) w
  obtain ⟨cs, lo, h1, h2, h3, h4, h5, h6, h7, h8⟩ := h
  have hmon := lo_mono h5
  have hgl : g < lo 0 := h3 g rfl
  have hjc : j < cs.length := by omega
  have hw := ownsRow_setCells (ndCells (f j) (.slice a m c) k N s d) (j * 16) w _ (hE.own h2)
  rw [setL_flat hjc h7 rfl] at hw
  have hlj := hmon j (Nat.le_refl _) 0 (by omega)
  generalize hW : w.setCells g (j * 16) (ndCells (f j) (.slice a m c) k N s d) = W at *
  refine ⟨cs.set j (ndCells (f j) (.slice a m c) k N s d), fun i => if i ≤ j then lo i else W.heap.size, by simp [h1], hw, ?_, ?_, fun i hi => ?_, ?_, fun C hC => ?_, fun i hi hc hij => ?_⟩
  · intro b hb; simpa using h3 b hb
  · simpa using h4
  · dsimp only
    rw [if_pos (by omega)]
    by_cases e : i + 1 ≤ j
    · rw [if_pos e]; exact h5 i (by omega)
    · rw [if_neg e]
      have : i = j := by omega
      subst this
      exact Nat.le_trans h6 (Nat.le_trans hE.size hg.size)
  · dsimp only; rw [if_neg (by omega)]; exact Nat.le_refl _
  · rcases List.mem_or_eq_of_mem_set hC with h | h
    · exact h7 C h
    · rw [h]; rfl
  · have hic : i < cs.length := by simpa using hc
    dsimp only
    rw [if_pos (by omega)]
    by_cases e : i = j
    · subst e
      rw [if_neg (by omega), List.getElem_set_self]
      refine ⟨a, m, c, k, N, s, d, F, rfl, ?_, fun b hb => ⟨?_, hF b hb⟩, ?_, fun b hb => ?_, hwf⟩
      · refine ownsRow_mono (ownsRow_block hA (fun b hb => hg.block b (World.ownsRow.lt hA b hb).2 (fun e => ?_))) h6
        have := (World.ownsRow.lt hA b hb).1
        injection e with e
        have := hE.size
        omega
      · exact Nat.lt_of_lt_of_le (World.ownsRow.lt hA b hb).2 hg.size
      · refine (hV.kept (fun b hb => hg.block b (hV.bounds b hb).2 (fun e => ?_))).mono h6
        have := (hV.bounds b hb).1
        injection e with e
        omega
      · exact Nat.lt_of_lt_of_le (hV.bounds b hb).2 hg.size
    · rw [if_pos (by omega), List.getElem_set_ne (fun h => e h.symm)]
      refine (h8 i hi hic (by omega)).far (fun b hb1 hb2 => ?_)
      have h9 := hmon j (Nat.le_refl _) (i + 1) (by omega)
      have h10 := hmon i (by omega) 0 (by omega)
      rw [hg.block b (by have := hE.size; omega) (fun e => by injection e with e; omega)]
      exact (hE.grownBy).block b (by omega) (by simp)
end Fm

namespace Fm
open Go Go.RowKit

theorem grown_row {a b c : World} {r r' : Option Nat} (h : a.grownBy b r) (k : b.grownBy c r') (hr : r' = r ∨ ∃ g, r' = some g ∧ a.heap.size ≤ g) : a.grownBy c r := by
  rcases hr with rfl | ⟨g, rfl, hg⟩
  · exact grown_trans h k
  · exact ⟨k.os.trans h.os, k.tape.trans h.tape, k.output.trans h.output, Nat.le_trans h.size k.size, fun b hb hne => (k.block b (Nat.lt_of_lt_of_le hb h.size) (fun e => by injection e with e; omega)).trans (h.block b hb hne)⟩
/-- A node's cells, whatever becomes of that block. -/
def FarNd (w : World) (row : Option Nat) (n : Nd) (C : List Value) : Prop := C.length = 16 ∧ (∀ u, u ∈ C → u.oneCell' = true) ∧ ∀ w', w.grownBy w' row → NdV w' n (.agg C.toArray)
theorem FarNd.then {w w' : World} {row row' : Option Nat} {n : Nd} {C : List Value} (h : FarNd w row n C) (hg : w.grownBy w' row) (hr : row' = row ∨ ∃ g, row' = some g ∧ w.heap.size ≤ g) : FarNd w' row' n C :=
  ⟨h.1, h.2.1, fun w'' hg' => h.2.2 w'' (grown_row hg hg' hr)⟩
theorem ndV_one {w : World} {n : Nd} {C : List Value} (h : NdV w n (.agg C.toArray)) : C.length = 16 ∧ ∀ u, u ∈ C → u.oneCell' = true := by
  obtain ⟨a, m, c, k, N, s, l, e, h1, h2, -⟩ := h
  injection e with e
  injection e with e
  subst e
  obtain ⟨t, ht⟩ : ∃ t, t = n.val := ⟨_, rfl⟩
  rw [← ht] at h2
  obtain ⟨kk, nn, ss, ls⟩ := t
  obtain ⟨d, hd, -, -, hls⟩ := h2.parts
  obtain ⟨av, capv, rfl, -⟩ := hls
  injection hd with hd
  injection hd with hd
  simp only [List.cons.injEq, and_true] at hd
  obtain ⟨rfl, rfl, rfl, rfl⟩ := hd
  refine ⟨rfl, fun u hu => ?_⟩
  simp only [ndCells, List.mem_cons, List.not_mem_nil, or_false] at hu
  rcases hu with rfl | rfl | rfl | rfl | rfl | rfl | rfl | rfl | rfl | rfl | rfl | rfl | rfl | rfl | rfl | rfl <;> rfl
theorem farNd_of {w : World} {row : Option Nat} {n : Nd} {C : List Value} (h : ∀ w', w.grownBy w' row → NdV w' n (.agg C.toArray)) : FarNd w row n C :=
  ⟨(ndV_one (h w (grown_ext (Ext.refl w) row))).1, (ndV_one (h w (grown_ext (Ext.refl w) row))).2, h⟩
/-- Nodes in a row of one's own. -/
def HeldN (eN : TypeId) (base : Nat) (w : World) (v : Value) (l : List Nd) : Prop :=
  ∃ cs : List (List Value), cs.length = l.length ∧ w.ownsRow base eN 16 v l.length cs.flatten ∧ ∀ (i : Nat) (hi : i < l.length) (hc : i < cs.length), FarNd w v.ownBlock l[i] cs[i]
theorem HeldN.row {eN : TypeId} {base : Nat} {w : World} {v : Value} {l : List Nd} (h : HeldN eN base w v l) : ndE.Row w l v := by
  obtain ⟨cs, h1, h2, h3⟩ := h
  exact ndRow_parts h1 h2 (fun i hi hc => ⟨(h3 i hi hc).1, (h3 i hi hc).2.2 w (grown_ext (Ext.refl w) _)⟩)
theorem HeldN.ext {eN : TypeId} {base : Nat} {w w' : World} {v : Value} {l : List Nd} (h : HeldN eN base w v l) (hE : Ext w w') : HeldN eN base w' v l := by
  obtain ⟨cs, h1, h2, h3⟩ := h
  exact ⟨cs, h1, hE.own h2, fun i hi hc => (h3 i hi hc).then (grown_ext hE _) (.inl rfl)⟩
theorem HeldN.mono {eN : TypeId} {base base' : Nat} {w : World} {v : Value} {l : List Nd} (h : HeldN eN base w v l) (hb : base' ≤ base) : HeldN eN base' w v l := by
  obtain ⟨cs, h1, h2, h3⟩ := h
  exact ⟨cs, h1, ownsRow_mono h2 hb, h3⟩
theorem HeldN.slice {eN : TypeId} {base : Nat} {w : World} {v : Value} {l : List Nd} (h : HeldN eN base w v l) : ∃ a c, v = .slice a l.length c := by
  obtain ⟨cs, h1, h2, h3⟩ := h
  rcases h2.2 with ⟨e1, e2⟩ | ⟨g, cap, cur, e1, _⟩
  · exact ⟨none, 0, by rw [e1, e2]⟩
  · exact ⟨_, _, e1⟩
theorem HeldN.form {eN : TypeId} {base : Nat} {w : World} {v : Value} {l : List Nd} (h : HeldN eN base w v l) (hl : 0 < l.length) : ∃ g c, v = .slice (some ⟨g, 0, none⟩) l.length c ∧ base ≤ g ∧ g < w.heap.size := by
  obtain ⟨cs, h1, h2, h3⟩ := h
  exact World.ownsRow.form h2 hl
theorem HeldN.lt {eN : TypeId} {base : Nat} {w : World} {v : Value} {l : List Nd} (h : HeldN eN base w v l) : ∀ k, v.ownBlock = some k → base ≤ k ∧ k < w.heap.size := by
  obtain ⟨cs, h1, h2, h3⟩ := h
  exact World.ownsRow.lt h2
theorem HeldN.nil (eN : TypeId) (base : Nat) (w : World) : HeldN eN base w (.slice none 0 0) [] := ⟨[], rfl, World.ownsRow_nil _ _ _ _, fun i hi => (by cases hi)⟩
/-- The cells of one node. -/
theorem HeldN.at {eN : TypeId} {base : Nat} {w : World} {g cap : Nat} {l : List Nd} (h : HeldN eN base w (.slice (some ⟨g, 0, none⟩) l.length cap) l) {i : Nat} (hi : i < l.length) :
    ∃ C : List Value, FarNd w (some g) l[i] C ∧ w.rangeAt g (i * 16) C ∧ w.there g (i * 16) 16 := by
  obtain ⟨cs, h1, h2, h3⟩ := h
  have hc : i < cs.length := by omega
  have h16 : ∀ D, D ∈ cs → D.length = 16 := fun D hD => by
    obtain ⟨j, hj, rfl⟩ := List.getElem_of_mem hD
    exact (h3 j (by omega) hj).1
  have hl : cs.flatten.length = l.length * 16 := h2.1
  have hcell : ∀ j, j < 16 → w.cell? ⟨g, i * 16 + j, none⟩ = cs[i][j]? := fun j hj => by
    rw [World.ownsRow.cellAt h2 _ (by omega), flat16 cs i j hc h16 hj]
  refine ⟨cs[i], h3 i hi hc, fun j v hv => ?_, fun j hj => ⟨?_, World.ownsRow.frozenAt h2 _⟩⟩
  · have hj : j < 16 := by
      have := (List.getElem?_eq_some_iff.1 hv).1
      have := (h3 i hi hc).1
      omega
    rw [hcell j hj]; exact hv
  · rw [hcell j hj, List.getElem?_eq_getElem (by have := (h3 i hi hc).1; omega)]; rfl
theorem HeldN.idAt {eN : TypeId} {base : Nat} {w : World} {g cap : Nat} {l : List Nd} (h : HeldN eN base w (.slice (some ⟨g, 0, none⟩) l.length cap) l) {i : Nat} (hi : i < l.length) : w.cell? ⟨g, i * 16, none⟩ = some (.string (str l[i].id)) := by
  obtain ⟨C, h1, h2, -⟩ := h.at hi
  obtain ⟨a, m, c, k, N, s, l, e, -⟩ := h1.2.2 w (grown_ext (Ext.refl w) _)
  injection e with e
  injection e with e
  subst e
  exact h2 0 _ rfl
theorem HeldN.spot {eN : TypeId} {base : Nat} {w : World} {g cap : Nat} {l : List Nd} (h : HeldN eN base w (.slice (some ⟨g, 0, none⟩) l.length cap) l) {i : Nat} (hi : i < l.length) (j : Nat) (hj : j < 16) : (∃ u, w.cell? ⟨g, i * 16 + j, none⟩ = some u) ∧ w.frozen? ⟨g, i * 16 + j, none⟩ = false := by
  obtain ⟨C, -, -, h3⟩ := h.at hi
  obtain ⟨h4, h5⟩ := h3 j hj
  exact ⟨Option.isSome_iff_exists.1 h4, h5⟩
/-- One node is another one now. -/
theorem HeldN.upd {eN : TypeId} {base : Nat} {w W : World} {g cap : Nat} {l : List Nd} (h : HeldN eN base w (.slice (some ⟨g, 0, none⟩) l.length cap) l) {i : Nat} (hi : i < l.length) (n' : Nd) (f : List Value → List Value)
    (hW : ∀ cs : List (List Value), cs.length = l.length → (∀ D, D ∈ cs → D.length = 16) → ∀ hc : i < cs.length, w.ownsRow base eN 16 (.slice (some ⟨g, 0, none⟩) l.length cap) l.length cs.flatten → W.ownsRow base eN 16 (.slice (some ⟨g, 0, none⟩) l.length cap) l.length (cs.set i (f cs[i])).flatten)
    (hg : w.grownBy W (some g)) (hN : ∀ C, FarNd w (some g) l[i] C → FarNd W (some g) n' (f C)) : HeldN eN base W (.slice (some ⟨g, 0, none⟩) l.length cap) (l.set i n') := by
  obtain ⟨cs, h1, h2, h3⟩ := h
  have hc : i < cs.length := by omega
  have h16 : ∀ D, D ∈ cs → D.length = 16 := fun D hD => by
    obtain ⟨j, hj, rfl⟩ := List.getElem_of_mem hD
    exact (h3 j (by omega) hj).1
  refine ⟨cs.set i (f cs[i]), by simp [h1], by rw [List.length_set]; exact hW cs h1 h16 hc h2, fun j hj hd => ?_⟩
  have hj' : j < l.length := by simpa using hj
  have hd' : j < cs.length := by simpa using hd
  by_cases e : i = j
  · subst e
    rw [List.getElem_set_self, List.getElem_set_self]
    exact hN _ (h3 i hi hc)
  · rw [List.getElem_set_ne e, List.getElem_set_ne e]
    exact (h3 j hj' hd').then hg (.inl rfl)
theorem flat16_set1 {cs : List (List Value)} {i j : Nat} {u : Value} (hi : i < cs.length) (h16 : ∀ C, C ∈ cs → C.length = 16) (hj : j < 16) : cs.flatten.set (i * 16 + j) u = (cs.set i (cs[i].set j u)).flatten := flat16_set cs i j u hi h16 hj
/-- One cell of one node is written. -/
theorem HeldN.put {eN : TypeId} {base : Nat} {w : World} {g cap : Nat} {l : List Nd} (h : HeldN eN base w (.slice (some ⟨g, 0, none⟩) l.length cap) l) {i : Nat} (hi : i < l.length) (j : Nat) (hj : j < 16) (u : Value) (n' : Nd)
    (hN : ∀ (w' : World) (C : List Value), NdV w' (l[i]'hi) (.agg C.toArray) → NdV w' n' (.agg (C.set j u).toArray)) : HeldN eN base (w.setCell ⟨g, i * 16 + j, none⟩ u) (.slice (some ⟨g, 0, none⟩) l.length cap) (l.set i n') ∧ w.grownBy (w.setCell ⟨g, i * 16 + j, none⟩ u) (some g) := by
  have hg := setOne_grown w g (i * 16 + j) u
  refine ⟨h.upd hi n' (fun C => C.set j u) (fun cs _ h16 hc ho => ?_) hg (fun C hC => farNd_of (fun w' hw' => hN w' C (hC.2.2 w' (grown_trans hg hw')))), hg⟩
  rw [← flat16_set1 hc h16 hj]
  exact (ho.stored (i * 16 + j) u).1
def setVal (w : World) (g o : Nat) (c0 c1 c2 c3 : Value) : World := (((w.setCell ⟨g, o, none⟩ c0).setCell ⟨g, o + 1, none⟩ c1).setCell ⟨g, o + 2, none⟩ c2).setCell ⟨g, o + 3, none⟩ c3
/-- A node's value is written. -/
theorem HeldN.putV {eN : TypeId} {base : Nat} {w : World} {g cap : Nat} {l : List Nd} (h : HeldN eN base w (.slice (some ⟨g, 0, none⟩) l.length cap) l) {i : Nat} (hi : i < l.length) (t : Tr) (c0 c1 c2 c3 : Value)
    (hT : ∀ w', w.grownBy w' (some g) → Lies w' t (.agg #[c0, c1, c2, c3])) :
    HeldN eN base (setVal w g (i * 16 + 12) c0 c1 c2 c3) (.slice (some ⟨g, 0, none⟩) l.length cap) (l.set i { l[i] with val := t }) ∧ w.grownBy (setVal w g (i * 16 + 12) c0 c1 c2 c3) (some g) := by
  have hg : w.grownBy (setVal w g (i * 16 + 12) c0 c1 c2 c3) (some g) := grown_trans (grown_trans (grown_trans (setOne_grown w g _ c0) (setOne_grown _ g _ c1)) (setOne_grown _ g _ c2)) (setOne_grown _ g _ c3)
  refine ⟨h.upd hi _ (fun C => (((C.set 12 c0).set 13 c1).set 14 c2).set 15 c3) (fun cs h1 h16 hc ho => ?_) hg (fun C hC => farNd_of (fun w' hw' => ?_)), hg⟩
  · have o1 := ((((ho.stored (i * 16 + 12) c0).1.stored (i * 16 + 12 + 1) c1).1.stored (i * 16 + 12 + 2) c2).1.stored (i * 16 + 12 + 3) c3).1
    have hq : ∀ D, D ∈ cs → D.length = 16 := h16
    have e : (((cs.flatten.set (i * 16 + 12) c0).set (i * 16 + 12 + 1) c1).set (i * 16 + 12 + 2) c2).set (i * 16 + 12 + 3) c3 = (cs.set i ((((cs[i].set 12 c0).set 13 c1).set 14 c2).set 15 c3)).flatten := by
      have s : ∀ (ds : List (List Value)) (hd : i < ds.length) (_ : ∀ D, D ∈ ds → D.length = 16) (j : Nat) (_ : j < 16) (u : Value), ds.flatten.set (i * 16 + j) u = (ds.set i (ds[i].set j u)).flatten ∧ (i < (ds.set i (ds[i].set j u)).length) ∧ ∀ D, D ∈ ds.set i (ds[i].set j u) → D.length = 16 := fun ds hd h16 j hj u =>
        ⟨flat16_set ds i j u hd h16 hj, by simpa using hd, fun D hD => by
          rcases List.mem_or_eq_of_mem_set hD with h | h
          · exact h16 D h
          · rw [h, List.length_set]; exact h16 _ (List.getElem_mem hd)⟩
      obtain ⟨a1, a2, a3⟩ := s cs hc hq 12 (by omega) c0
      obtain ⟨b1, b2, b3⟩ := s _ a2 a3 13 (by omega) c1
      obtain ⟨d1, d2, d3⟩ := s _ b2 b3 14 (by omega) c2
      obtain ⟨f1, -, -⟩ := s _ d2 d3 15 (by omega) c3
      rw [a1, show i * 16 + 12 + 1 = i * 16 + 13 by omega, b1, show i * 16 + 12 + 2 = i * 16 + 14 by omega, d1, show i * 16 + 12 + 3 = i * 16 + 15 by omega, f1]
      simp
    rw [e] at o1
    exact o1
  · obtain ⟨a, m, c, k, N, s, d, e, h1, h2, h3⟩ := hC.2.2 w' (grown_trans hg hw')
    injection e with e
    injection e with e
    subst e
    exact ⟨a, m, c, c0, c1, c2, c3, rfl, h1, hT w' (grown_trans hg hw'), h3⟩
/-- Nodes are appended. -/
theorem HeldN.app {eN : TypeId} {base : Nat} {w w' : World} {v v' : Value} {l m : List Nd} {cs ds : List (List Value)} (h1 : cs.length = l.length) (h3 : ∀ (i : Nat) (hi : i < l.length) (hc : i < cs.length), FarNd w v.ownBlock l[i] cs[i])
    (g1 : ds.length = m.length) (g3 : ∀ (i : Nat) (hi : i < m.length) (hc : i < ds.length), FarNd w v.ownBlock m[i] ds[i])
    (hrow : w'.ownsRow base eN 16 v' (l.length + m.length) (cs.flatten ++ ds.flatten)) (hg : w.grownBy w' v.ownBlock) (hat : v'.ownBlock = v.ownBlock ∨ v'.ownBlock = some w.heap.size) : HeldN eN base w' v' (l ++ m) := by
  have hr : v'.ownBlock = v.ownBlock ∨ ∃ g, v'.ownBlock = some g ∧ w.heap.size ≤ g := by
    rcases hat with h | h
    · exact .inl h
    · exact .inr ⟨_, h, Nat.le_refl _⟩
  refine ⟨cs ++ ds, by simp [h1, g1], by rw [List.length_append, List.flatten_append]; exact hrow, fun i hi hc => ?_⟩
  by_cases hil : i < l.length
  · have hic : i < cs.length := by omega
    rw [List.getElem_append_left hil, List.getElem_append_left hic]
    exact (h3 i hil hic).then hg hr
  · have hi' : i - l.length < m.length := by rw [List.length_append] at hi; omega
    have e1 : (l ++ m)[i] = m[i - l.length] := List.getElem_append_right (by omega)
    have e2 : (cs ++ ds)[i] = ds[i - l.length]'(by omega) := by rw [List.getElem_append_right (by omega)]; simp [h1]
    rw [e1, e2]
    exact (g3 _ hi' (by omega)).then hg hr
/-- The cells that a copy's nodes have. -/
theorem CopyN.far {eN eI eV : TypeId} {base : Nat} {w : World} {v : Value} {l : List Nd} (h : CopyN eN eI eV base w v l) {row : Option Nat} (hr : ∀ b, row = some b → b < base) :
    ∃ ds : List (List Value), ds.length = l.length ∧ w.ownsRow base eN 16 v l.length ds.flatten ∧ ∀ (i : Nat) (hi : i < l.length) (hc : i < ds.length), FarNd w row l[i] ds[i] := by
  obtain ⟨cs, lo, h1, h2, h3, h4, h5, h6, h7⟩ := h
  have hmon := lo_mono h5
  refine ⟨cs, h1, h2, fun i hi hc => farNd_of (fun w' hw' => ((h7 i hi hc).far (fun b hb1 hb2 => hw'.block b ?_ (fun e => ?_))).v)⟩
  · have := hmon l.length (Nat.le_refl _) (i + 1) (by omega)
    omega
  · have := hr b e.symm
    have := hmon i (by omega) 0 (by omega)
    omega
/-- A row of nodes of one's own as what is appended. -/
theorem _root_.Go.Src.nodes {P : Program} {tx e' : TypeId} (hk : P.underlying tx = some (.slice e')) {w : World} {base n : Nat} {eN : TypeId} {v : Value} {ds : List (List Value)} (h : w.ownsRow base eN 16 v n ds.flatten) (h1 : ∀ D, D ∈ ds → ∀ u, u ∈ D → u.oneCell' = true) : Src P 16 tx v n ds.flatten w := by
  have hone : ∀ u, u ∈ ds.flatten → u.oneCell' = true := fun u hu => by
    obtain ⟨D, hD, hu⟩ := List.mem_flatten.1 hu
    exact h1 D hD u hu
  have hc := fun g => World.ownsRow.cells h (g := g)
  have hl := h.1
  rcases h.2 with ⟨rfl, rfl⟩ | ⟨g, cap, cur, rfl, -⟩
  · have : ds.flatten = [] := List.eq_nil_of_length_eq_zero (by omega)
    rw [this]
    exact Src.ofNil w hk 0
  · exact Src.ofSlice w hk _ _ _ _ hl (fun j u hu => hc g rfl j u hu) hone
/-! ### one field of a node -/
theorem ndV_stand {w : World} {n : Nd} {C : List Value} (h : NdV w n (.agg C.toArray)) (s : UInt8) : NdV w { n with stand := s } (.agg (C.set 9 (.int .u8 (s.toNat : Int))).toArray) := by
  obtain ⟨a, m, c, k, N, S, d, e, h1, h2, h3⟩ := h
  injection e with e
  injection e with e
  subst e
  exact ⟨a, m, c, k, N, S, d, rfl, h1, h2, h3⟩
theorem ndV_width {w : World} {n : Nd} {C : List Value} (h : NdV w n (.agg C.toArray)) {x : Int} (hx : isI64 x) : NdV w { n with width := x } (.agg (C.set 7 (.int .i64 x)).toArray) := by
  obtain ⟨a, m, c, k, N, S, d, e, h1, h2, h3, h4, h5, h6, h7, h8, h9, h10, h11⟩ := h
  injection e with e
  injection e with e
  subst e
  exact ⟨a, m, c, k, N, S, d, rfl, h1, h2, h3, h4, h5, h6, h7, hx, h9, h10, h11⟩
end Fm
