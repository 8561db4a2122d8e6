/- The reference of states: num. -/
import Derived.Test.YtdienbcjfljjnaaGreatDoorBoxS
import Derived.Test.YtdienbcjfljjnaaGreatDoorWireB
import Derived.Deep.MidRow
import Derived.Test.YtdienbcjfljjnaaGreatDoorSnY
import Derived.Test.YtdienbcjfljjnaaGreatDoorFrgM
namespace Fm
open Go Go.RowKit

/-- A node, its numbers wherever they are. -/
def rnd (xs : List UInt8) : Option (Nd × List UInt8) :=
  (hdX 400 xs).bind fun a => (hdX 20 a.2).bind fun b => (readM hdN 5 b.2).bind fun c =>
    if c.1.getD 0 0 < 0 ∨ 2 < c.1.getD 0 0 ∨ c.1.getD 4 0 < 0 ∨ 21 < c.1.getD 4 0 then none else (readM hdN (c.1.getD 4 0).toNat c.2).bind fun d => (readM hdN 5 d.2).bind fun e =>
      if e.1.getD 2 0 < 0 ∨ 6 < e.1.getD 2 0 then none else (takeV' e.2).bind fun f => some (mkNd a.1 b.1 c.1 d.1 e.1 (e.1.getD 4 0) f.1, f.2)
theorem five {l : List Int} (h : l.length = 5) : ∃ a b c d e, l = [a, b, c, d, e] := by
  match l, h with
  | [a, b, c, d, e], _ => exact ⟨a, b, c, d, e, rfl⟩
theorem eight {l : List Int} (h : l.length = 8) : ∃ a b c d e f g i, l = [a, b, c, d, e, f, g, i] := by
  match l, h with
  | [a, b, c, d, e, f, g, i], _ => exact ⟨a, b, c, d, e, f, g, i, rfl⟩
theorem readM_nums (l : List Int) (r : List UInt8) (h : ∀ n, n ∈ l → isI64 n) : readM hdN l.length (numsB l ++ r) = some (l, r) :=
  readM_by hdN numB l r (fun x hx r => hdN_num (h x hx) r)
theorem readM_numsk {k : Nat} (l : List Int) (hk : l.length = k) (r : List UInt8) (h : ∀ n, n ∈ l → isI64 n) : readM hdN k (numsB l ++ r) = some (l, r) := by
  subst hk; exact readM_nums l r h
theorem readM_nums_inv {k : Nat} {xs : List UInt8} {l : List Int} {r : List UInt8} (h : readM hdN k xs = some (l, r)) : l.length = k ∧ xs = numsB l ++ r ∧ ∀ n, n ∈ l → isI64 n :=
  readM_inv hdN numB (fun n => isI64 n) (fun xs x r h => by obtain ⟨a, b⟩ := hdN_inv h; exact ⟨b, a⟩) k xs l r h
theorem numsB_append (l m : List Int) : numsB (l ++ m) = numsB l ++ numsB m := by unfold numsB; simp
theorem numsB_one (n : Int) : numsB [n] = numB n := by unfold numsB; simp
theorem rnd_by {n : Nd} (h : ndB n = true) (hw : ndWf n) (r : List UInt8) : rnd (ndBy n ++ r) = some (n, r) := by
  obtain ⟨h1, h2, h3, h4, h5, h6, h7, h8⟩ := ndB_iff.1 h
  have hid := (idB_iff.1 h1).2.2
  have hnm : n.name.length ≤ 20 := by
    rcases h2 with h2 | h2
    · omega
    · exact (nameB_iff.1 h2).2.2
  have hw1 := nF_i64 hw
  have hw2 := nL_i64 hw
  obtain ⟨_, _, _, _, _, _, _, _, hw3, hw4, hw5⟩ := hw
  simp only [fF, nF, fitB, Bool.and_true, Bool.and_eq_true, inB_iff] at h3
  simp only [fL, nL, fitB, Bool.and_true, Bool.and_eq_true, inB_iff] at h4
  have e1 : numsB (nF n) ++ (numB n.after.length ++ (numsB n.after ++ (numsB (nL n) ++ (numB n.tok ++ (bytesT n.val ++ r))))) = numsB (nF n ++ [(n.after.length : Int)]) ++ (numsB n.after ++ (numsB (nL n ++ [n.tok]) ++ (bytesT n.val ++ r))) := by
    rw [numsB_append, numsB_append, numsB_one, numsB_one]; simp only [List.append_assoc]
  unfold rnd ndBy
  simp only [List.append_assoc]
  rw [hdX_text (by omega) (by omega), Option.bind_some]
  simp only
  rw [hdX_text (by omega) (by omega), Option.bind_some]
  simp only
  rw [e1, readM_numsk (k := 5) _ rfl _ (fun m hm => by
    rcases List.mem_append.1 hm with q | q
    · exact hw1 m q
    · rw [List.mem_singleton] at q; subst q; unfold isI64; omega), Option.bind_some]
  simp only [nF, List.cons_append, List.nil_append, List.getD_cons_zero, List.getD_cons_succ]
  rw [if_neg (by omega), Int.toNat_natCast, readM_nums _ _ hw5, Option.bind_some]
  simp only
  rw [readM_numsk (k := 5) (nL n ++ [n.tok]) rfl _ (fun m hm => by
    rcases List.mem_append.1 hm with q | q
    · exact hw2 m q
    · rw [List.mem_singleton] at q; subst q; exact hw3), Option.bind_some]
  simp only [nL, List.cons_append, List.nil_append, List.getD_cons_zero, List.getD_cons_succ]
  rw [if_neg (by omega), takeV_bytes h8 hw4, Option.bind_some]
  simp only [Option.some.injEq, Prod.mk.injEq, and_true]
  unfold mkNd
  simp only [List.getD_cons_zero, List.getD_cons_succ, u8_back]
theorem rnd_inv {xs r : List UInt8} {n : Nd} (h : rnd xs = some (n, r)) : xs = ndBy n ++ r ∧ ndWf n := by
  unfold rnd at h
  obtain ⟨⟨i, r1⟩, h1, h⟩ := Option.bind_eq_some_iff.1 h
  simp only at h
  obtain ⟨⟨nm, r2⟩, h2, h⟩ := Option.bind_eq_some_iff.1 h
  simp only at h
  obtain ⟨⟨c, r3⟩, h3, h⟩ := Option.bind_eq_some_iff.1 h
  simp only at h
  split at h
  · cases h
  rename_i hb1
  obtain ⟨⟨d, r4⟩, h4, h⟩ := Option.bind_eq_some_iff.1 h
  simp only at h
  obtain ⟨⟨e, r5⟩, h5, h⟩ := Option.bind_eq_some_iff.1 h
  simp only at h
  split at h
  · cases h
  rename_i hb2
  obtain ⟨⟨v, r6⟩, h6, h⟩ := Option.bind_eq_some_iff.1 h
  simp only [Option.some.injEq, Prod.mk.injEq] at h
  obtain ⟨hn, rfl⟩ := h
  have e1 := hdX_inv h1
  have e2 := hdX_inv h2
  obtain ⟨l3, e3, w3⟩ := readM_nums_inv h3
  obtain ⟨l4, e4, w4⟩ := readM_nums_inv h4
  obtain ⟨l5, e5, w5⟩ := readM_nums_inv h5
  obtain ⟨e6, b6, w6⟩ := takeV_inv h6
  obtain ⟨c0, c1, c2, c3, c4, rfl⟩ := five l3
  obtain ⟨d0, d1, d2, d3, d4, rfl⟩ := five l5
  simp only [List.getD_cons_zero, List.getD_cons_succ] at hb1 hb2 l4 hn
  have q1 : ((UInt8.ofNat c0.toNat).toNat : Int) = c0 := by rw [UInt8.toNat_ofNat']; omega
  have q2 : ((UInt8.ofNat d2.toNat).toNat : Int) = d2 := by rw [UInt8.toNat_ofNat']; omega
  have hm : c4 = (d.length : Int) := by omega
  unfold mkNd at hn
  simp only [List.getD_cons_zero, List.getD_cons_succ] at hn
  subst hn
  refine ⟨?_, by have := e1.1; show i.length ≤ _; omega, by have := e2.1; show nm.length ≤ _; omega, w3 _ (by simp), w3 _ (by simp), w3 _ (by simp), w5 _ (by simp), w5 _ (by simp), w5 _ (by simp), w5 _ (by simp), w6, w4⟩
  unfold ndBy nF nL
  simp only [q1, q2]
  rw [e1.2, e2.2, e3, e4, e5, e6, hm]
  simp only [numsB_cons, numsB_nil, List.append_assoc, List.append_nil]
/-- A state. -/
def rsn (xs : List UInt8) : Option Sn :=
  (readM hdN 8 xs).bind fun l => if l.1.getD 7 0 < 0 ∨ 4800 < l.1.getD 7 0 then none else (readM rnd (l.1.getD 7 0).toNat l.2).bind fun d =>
    if d.2 = [] ∧ snB (mkSn l.1 (l.1.getD 6 0) d.1) = true then some (mkSn l.1 (l.1.getD 6 0) d.1) else none
theorem rsn_some {xs : List UInt8} {s : Sn} (h : rsn xs = some s) : parseS xs = some s := by
  unfold rsn at h
  obtain ⟨⟨l, r1⟩, h1, h⟩ := Option.bind_eq_some_iff.1 h
  simp only at h
  split at h
  · cases h
  rename_i hb
  obtain ⟨⟨d, r2⟩, h2, h⟩ := Option.bind_eq_some_iff.1 h
  simp only at h
  split at h
  case isFalse => cases h
  rename_i hc
  obtain ⟨rfl, hs⟩ := hc
  simp only [Option.some.injEq] at h
  obtain ⟨l1, e1, w1⟩ := readM_nums_inv h1
  obtain ⟨a0, a1, a2, a3, a4, a5, a6, a7, rfl⟩ := eight l1
  simp only [List.getD_cons_zero, List.getD_cons_succ] at hb h2 h hs
  obtain ⟨l2, e2, w2⟩ := readM_inv rnd ndBy (fun n => ndWf n) (fun xs x r h => rnd_inv h) _ _ _ _ h2
  have hm : a7 = (d.length : Int) := by omega
  subst h
  refine parseS_iff.2 ⟨hs, ⟨w1 _ (by simp [mkSn]), w1 _ (by simp [mkSn]), w1 _ (by simp [mkSn]), w1 _ (by simp [mkSn]), w1 _ (by simp [mkSn]), w1 _ (by simp [mkSn]), w1 _ (by simp [mkSn]), w2⟩, ?_⟩
  unfold snBy mkSn nH
  simp only [List.getD_cons_zero, List.getD_cons_succ]
  rw [e1, e2, hm]
  unfold nodesBy
  simp only [numsB_cons, numsB_nil, List.append_assoc, List.append_nil]
theorem rsn_by {s : Sn} (h : snB s = true) (hw : snWf s) : rsn (snBy s) = some s := by
  have hH := nH_i64 hw
  obtain ⟨h1, h2, h3, h4⟩ := snB_iff.1 h
  obtain ⟨_, _, _, _, _, _, w1, w2⟩ := hw
  have e : snBy s = numsB (nH s ++ [s.tok, (s.nodes.length : Int)]) ++ ((s.nodes.map ndBy).flatten ++ []) := by
    unfold snBy nodesBy
    rw [numsB_append]
    simp only [numsB_cons, numsB_nil, List.append_assoc, List.append_nil]
  unfold rsn
  rw [e, readM_numsk (k := 8) _ rfl _ (fun m hm => by
    rcases List.mem_append.1 hm with q | q
    · exact hH m q
    · simp only [List.mem_cons, List.not_mem_nil, or_false] at q
      rcases q with rfl | rfl
      · exact w1
      · unfold isI64; omega), Option.bind_some]
  simp only [nH, List.cons_append, List.nil_append, List.getD_cons_zero, List.getD_cons_succ]
  rw [if_neg (by omega), Int.toNat_natCast, readM_by rnd ndBy s.nodes [] (fun x hx r => rnd_by (List.all_eq_true.1 h4 x hx) (w2 x hx) r), Option.bind_some]
  simp only
  have e2 : mkSn [s.cq, s.cd, s.cw, s.cr, s.cf, s.flows, s.tok, (s.nodes.length : Int)] s.tok s.nodes = s := rfl
  rw [e2, h]
  simp
/-- What the reference parses is what is parsed. -/
theorem rsn_eq (xs : List UInt8) : rsn xs = parseS xs := by
  cases h : rsn xs with
  | some s => exact (rsn_some h).symm
  | none =>
    cases h2 : parseS xs with
    | none => rfl
    | some s =>
      obtain ⟨a1, a2, rfl⟩ := parseS_iff.1 h2
      rw [rsn_by a1 a2] at h
      cases h
end Fm

namespace Fm
open Go Go.RowKit

/-- A number from one to another one. -/
def numR (lo hi : Int) (s : Option (List UInt8)) : Int × Option (List UInt8) := match s.bind (hdR lo hi) with | some (n, r) => (n, some r) | none => (0, none)
/-- A text. -/
def textR (top : Int) (s : Option (List UInt8)) : List UInt8 × Option (List UInt8) := match s.bind (hdX top) with | some (t, r) => (t, some r) | none => ([], none)
theorem numR_none (lo hi : Int) : numR lo hi none = (0, none) := rfl
theorem numR_some {lo hi : Int} {xs r : List UInt8} {n : Int} (h : hdR lo hi xs = some (n, r)) : numR lo hi (some xs) = (n, some r) := by unfold numR; rw [Option.bind_some, h]
theorem numR_bad {lo hi : Int} {xs : List UInt8} (h : hdR lo hi xs = none) : numR lo hi (some xs) = (0, none) := by unfold numR; rw [Option.bind_some, h]
theorem textR_some {top : Int} {xs r t : List UInt8} (h : hdX top xs = some (t, r)) : textR top (some xs) = (t, some r) := by unfold textR; rw [Option.bind_some, h]
theorem textR_bad {top : Int} {xs : List UInt8} (h : hdX top xs = none) : textR top (some xs) = ([], none) := by unfold textR; rw [Option.bind_some, h]
theorem numR_inv {lo hi : Int} {s : Option (List UInt8)} {r : List UInt8} (h : (numR lo hi s).2 = some r) : ∃ xs, s = some xs ∧ hdR lo hi xs = some ((numR lo hi s).1, r) := by
  cases s with
  | none => cases h
  | some xs =>
    cases hq : hdR lo hi xs with
    | none => rw [numR_bad hq] at h; cases h
    | some p =>
      obtain ⟨n, r2⟩ := p
      rw [numR_some hq] at h ⊢
      injection h with h
      subst h
      exact ⟨xs, rfl, hq⟩
theorem textR_inv {top : Int} {s : Option (List UInt8)} {r : List UInt8} (h : (textR top s).2 = some r) : ∃ xs, s = some xs ∧ hdX top xs = some ((textR top s).1, r) := by
  cases s with
  | none => cases h
  | some xs =>
    cases hq : hdX top xs with
    | none => rw [textR_bad hq] at h; cases h
    | some p =>
      obtain ⟨n, r2⟩ := p
      rw [textR_some hq] at h ⊢
      injection h with h
      subst h
      exact ⟨xs, rfl, hq⟩
/-- A number is 0, or where it may be. -/
theorem numR_range (lo hi : Int) (s : Option (List UInt8)) : (numR lo hi s).1 = 0 ∨ (lo ≤ (numR lo hi s).1 ∧ (numR lo hi s).1 ≤ hi) := by
  cases s with
  | none => exact .inl rfl
  | some xs =>
    cases hq : hdR lo hi xs with
    | none => rw [numR_bad hq]; exact .inl rfl
    | some p =>
      obtain ⟨n, r⟩ := p
      rw [numR_some hq]
      obtain ⟨a, b, _⟩ := hdR_inv hq
      exact .inr ⟨a, b⟩
theorem numR_i64 (lo hi : Int) (s : Option (List UInt8)) : isI64 (numR lo hi s).1 := by
  cases s with
  | none => exact (by unfold isI64; omega : isI64 0)
  | some xs =>
    cases hq : hdR lo hi xs with
    | none => rw [numR_bad hq]; exact (by unfold isI64; omega : isI64 0)
    | some p =>
      obtain ⟨n, r⟩ := p
      rw [numR_some hq]
      exact (hdR_inv hq).2.2.1
theorem textR_len (top : Int) (h0 : 0 ≤ top) (s : Option (List UInt8)) : ((textR top s).1.length : Int) ≤ top := by
  cases s with
  | none => exact h0
  | some xs =>
    cases hq : hdX top xs with
    | none => rw [textR_bad hq]; exact h0
    | some p =>
      obtain ⟨n, r⟩ := p
      rw [textR_some hq]
      exact (hdX_inv hq).1
/-- Numbers, one behind the other. -/
def allR : List (Int × Int) → Option (List UInt8) → List Int × Option (List UInt8)
  | [], s => ([], s)
  | f :: fs, s => ((numR f.1 f.2 s).1 :: (allR fs (numR f.1 f.2 s).2).1, (allR fs (numR f.1 f.2 s).2).2)
theorem allR_len : ∀ (fs : List (Int × Int)) (s : Option (List UInt8)), (allR fs s).1.length = fs.length
  | [], s => rfl
  | f :: fs, s => by rw [allR]; simp only [List.length_cons]; rw [allR_len fs]
theorem allR_i64 : ∀ (fs : List (Int × Int)) (s : Option (List UInt8)) (n : Int), n ∈ (allR fs s).1 → isI64 n
  | [], s, n, h => by cases h
  | f :: fs, s, n, h => by
    rw [allR] at h
    rcases List.mem_cons.1 h with rfl | h
    · exact numR_i64 _ _ _
    · exact allR_i64 fs _ n h
theorem allR_snoc : ∀ (fs : List (Int × Int)) (f : Int × Int) (s : Option (List UInt8)), allR (fs ++ [f]) s = ((allR fs s).1 ++ [(numR f.1 f.2 (allR fs s).2).1], (numR f.1 f.2 (allR fs s).2).2)
  | [], f, s => rfl
  | g :: fs, f, s => by
    rw [List.cons_append, allR, allR_snoc fs f, allR]
    rfl
theorem allR_some : ∀ (fs : List (Int × Int)) (s : Option (List UInt8)) (r : List UInt8), (allR fs s).2 = some r → ∃ xs, s = some xs ∧ readN fs xs = some ((allR fs s).1, r)
  | [], s, r, h => ⟨r, h, rfl⟩
  | f :: fs, s, r, h => by
    rw [allR] at h ⊢
    obtain ⟨ys, h1, h2⟩ := allR_some fs _ r h
    obtain ⟨xs, h3, h4⟩ := numR_inv h1
    refine ⟨xs, h3, ?_⟩
    rw [readN, h4, Option.bind_some]
    simp only
    rw [h2]
    rfl
theorem allR_none : ∀ (fs : List (Int × Int)) (xs : List UInt8), (allR fs (some xs)).2 = none → readN fs xs = none
  | [], xs, h => by cases h
  | f :: fs, xs, h => by
    rw [allR] at h
    rw [readN]
    cases hq : hdR f.1 f.2 xs with
    | none => rfl
    | some p =>
      obtain ⟨n, r⟩ := p
      rw [numR_some hq] at h
      rw [Option.bind_some]
      simp only
      rw [allR_none fs r h]
      rfl
/-- So many numbers of one kind. -/
def repR (lo hi : Int) (k : Nat) (s : Option (List UInt8)) : List Int × Option (List UInt8) := allR (List.replicate k (lo, hi)) s
theorem repR_snoc (lo hi : Int) (k : Nat) (s : Option (List UInt8)) : repR lo hi (k + 1) s = ((repR lo hi k s).1 ++ [(numR lo hi (repR lo hi k s).2).1], (numR lo hi (repR lo hi k s).2).2) := by
  unfold repR
  rw [List.replicate_succ', allR_snoc]
theorem repR_len (lo hi : Int) (k : Nat) (s : Option (List UInt8)) : (repR lo hi k s).1.length = k := by unfold repR; rw [allR_len, List.length_replicate]
theorem repR_i64 (lo hi : Int) (k : Nat) (s : Option (List UInt8)) (n : Int) (h : n ∈ (repR lo hi k s).1) : isI64 n := allR_i64 _ _ n h
theorem readN_rep (lo hi : Int) : ∀ (k : Nat) (xs : List UInt8), readN (List.replicate k (lo, hi)) xs = readM (hdR lo hi) k xs
  | 0, xs => rfl
  | k + 1, xs => by
    rw [List.replicate_succ, readN, readM]
    simp only
    congr 1
    funext p
    rw [readN_rep lo hi k p.2]

/-! ### fields in a block of their own -/
def FRow (w : World) (B : Nat) (fs : List Fld) : Prop := B < w.heap.size ∧ ∀ (i j : Nat) (hi : i < fs.length), j < 3 → w.cell? ⟨B, i * 3 + j, none⟩ = (fdCells fs[i])[j]?
theorem FRow.kept {w w' : World} {B : Nat} {fs : List Fld} {row : Option Nat} (h : FRow w B fs) (hg : w.grownBy w' row) (hr : row ≠ some B) : FRow w' B fs :=
  ⟨Nat.lt_of_lt_of_le h.1 hg.size, fun i j hi hj => (hg.cell_far ⟨B, _, none⟩ h.1 (fun e => hr e.symm)).trans (h.2 i j hi hj)⟩
theorem FRow.ext {w w' : World} {B : Nat} {fs : List Fld} (h : FRow w B fs) (hE : Ext w w') : FRow w' B fs :=
  ⟨Nat.lt_of_lt_of_le h.1 hE.size, fun i j hi hj => (hE.cell (p := ⟨B, _, none⟩) h.1).trans (h.2 i j hi hj)⟩
theorem FRow.new (w : World) (fs : List Fld) (e : TypeId) : FRow (w.alloc (.cells (fdsCells fs).toArray e)) w.heap.size fs := by
  refine ⟨by simp, fun i j hi hj => ?_⟩
  have := heap_alloc_new w (.cells (fdsCells fs).toArray e)
  simp only [World.cell?, this]
  show (fdsCells fs).toArray[i * 3 + j]? = _
  rw [List.getElem?_toArray, fdsCells_at fs i j hi hj]
theorem FRow.three {w : World} {B : Nat} {fs : List Fld} (h : FRow w B fs) (i : Nat) (hi : i < fs.length) :
    w.cell? ⟨B, i * 3, none⟩ = some (.pointer (some ⟨fs[i].b, fs[i].off, none⟩)) ∧ w.cell? ⟨B, i * 3 + 1, none⟩ = some (.int .i64 fs[i].lo) ∧ w.cell? ⟨B, i * 3 + 2, none⟩ = some (.int .i64 fs[i].hi) :=
  ⟨h.2 i 0 hi (by omega), h.2 i 1 hi (by omega), h.2 i 2 hi (by omega)⟩
/-- Fields that are told, in a new block. -/
def FdsNew (w : World) (fs : List Fld) (e : Ending) (w' : World) : Prop :=
  ∃ B, e = .returned (.slice (some ⟨B, 0, none⟩) fs.length fs.length) ∧ w.heap.size ≤ B ∧ FRow w' B fs ∧ fdE.Row w' fs (.slice (some ⟨B, 0, none⟩) fs.length fs.length) ∧ Ext w w'
theorem FdsNew.new (w w2 : World) (fs : List Fld) (e : TypeId) (h : Ext w w2) (hl : fs.length ≤ 1000) : FdsNew w fs (.returned (.slice (some ⟨w2.heap.size, 0, none⟩) fs.length fs.length)) (w2.alloc (.cells (fdsCells fs).toArray e)) :=
  ⟨w2.heap.size, rfl, h.size, FRow.new w2 fs e, fdRow_new w2 fs e hl, h.alloc _⟩
theorem FdsNew.post {w : World} {fs : List Fld} {e : Ending} {w' : World} (h : FdsNew w fs e w') : FdsPost w fs e w' := by
  obtain ⟨B, h1, h2, h3, h4, h5⟩ := h
  exact ⟨_, h1, h4, h5⟩
end Fm

namespace Fm
open Go Go.RowKit

/-- The state behind a node. -/
def nodeS (s : Option (List UInt8)) : Option (List UInt8) := s.bind fun xs => (readNd xs).map Prod.snd
/-- The steps. -/
def sA (s : Option (List UInt8)) := textR 400 s
def sB (s : Option (List UInt8)) := textR 20 (sA s).2
def sC (s : Option (List UInt8)) := allR fF (sB s).2
def sD (s : Option (List UInt8)) := numR 0 21 (sC s).2
def sE (s : Option (List UInt8)) := repR 0 4799 (sD s).1.toNat (sD s).2
def sF (s : Option (List UInt8)) := allR fL (sE s).2
def sG (s : Option (List UInt8)) := numR 0 hiK (sF s).2
def ndOf (s : Option (List UInt8)) (v : Tr) : Nd := mkNd (sA s).1 (sB s).1 (sC s).1 (sE s).1 (sF s).1 (sG s).1 v
theorem node_chain {s : Option (List UInt8)} {g : List UInt8} (hG : (sG s).2 = some g) :
    ∃ xs, s = some xs ∧ readNd xs = (takeV' g).bind fun h => if ndB (ndOf s h.1) = true then some (ndOf s h.1, h.2) else none := by
  obtain ⟨f, hF, eG⟩ := numR_inv hG
  obtain ⟨e, hE, eF⟩ := allR_some _ _ _ hF
  obtain ⟨d, hD, eE⟩ := allR_some _ _ _ hE
  rw [readN_rep] at eE
  obtain ⟨c, hC, eD⟩ := numR_inv hD
  obtain ⟨b, hB, eC⟩ := allR_some _ _ _ hC
  obtain ⟨a, hA, eB⟩ := textR_inv hB
  obtain ⟨xs, hs, eA⟩ := textR_inv hA
  refine ⟨xs, hs, ?_⟩
  have eA : hdX 400 xs = some ((sA s).1, a) := eA
  have eB : hdX 20 a = some ((sB s).1, b) := eB
  have eC : readN fF b = some ((sC s).1, c) := eC
  have eD : hdR 0 21 c = some ((sD s).1, d) := eD
  have eE : readM (hdR 0 4799) (sD s).1.toNat d = some ((sE s).1, e) := eE
  have eF : readN fL e = some ((sF s).1, f) := eF
  have eG : hdR 0 hiK f = some ((sG s).1, g) := eG
  unfold readNd
  rw [eA, Option.bind_some]
  simp only
  rw [eB, Option.bind_some]
  simp only
  rw [eC, Option.bind_some]
  simp only
  rw [eD, Option.bind_some]
  simp only
  rw [eE, Option.bind_some]
  simp only
  rw [eF, Option.bind_some]
  simp only
  rw [eG, Option.bind_some]
  rfl
theorem node_dead {s : Option (List UInt8)} (hG : (sG s).2 = none) : nodeS s = none := by
  cases s with
  | none => rfl
  | some xs =>
    unfold nodeS
    rw [Option.bind_some]
    unfold readNd
    cases eA : hdX 400 xs with
    | none => rfl
    | some a =>
    have hA : sA (some xs) = (a.1, some a.2) := textR_some eA
    rw [Option.bind_some]
    cases eB : hdX 20 a.2 with
    | none => rfl
    | some b =>
    have hB : sB (some xs) = (b.1, some b.2) := by unfold sB; rw [hA]; exact textR_some eB
    rw [Option.bind_some]
    cases eC : readN fF b.2 with
    | none => rfl
    | some c =>
    have hC : (sC (some xs)).2 = some c.2 ∧ (sC (some xs)).1 = c.1 := by
      unfold sC; rw [hB]
      cases h : (allR fF (some b.2)).2 with
      | none => rw [allR_none _ _ h] at eC; cases eC
      | some r =>
        obtain ⟨ys, h1, h2⟩ := allR_some _ _ _ h
        injection h1 with h1
        subst h1
        rw [eC] at h2
        injection h2 with h2
        rw [h2]
        exact ⟨rfl, rfl⟩
    rw [Option.bind_some]
    cases eD : hdR 0 21 c.2 with
    | none => rfl
    | some d =>
    have hD : sD (some xs) = (d.1, some d.2) := by unfold sD; rw [hC.1]; exact numR_some eD
    rw [Option.bind_some]
    cases eE : readM (hdR 0 4799) d.1.toNat d.2 with
    | none => rfl
    | some e =>
    have hE : (sE (some xs)).2 = some e.2 := by
      unfold sE repR; rw [hD]
      cases h : (allR (List.replicate d.1.toNat (0, 4799)) (some d.2)).2 with
      | none => have := allR_none _ _ h; rw [readN_rep, eE] at this; cases this
      | some r =>
        obtain ⟨ys, h1, h2⟩ := allR_some _ _ _ h
        injection h1 with h1
        subst h1
        rw [readN_rep, eE] at h2
        injection h2 with h2
        rw [h2]
    rw [Option.bind_some]
    cases eF : readN fL e.2 with
    | none => rfl
    | some f =>
    have hF : (sF (some xs)).2 = some f.2 := by
      unfold sF; rw [hE]
      cases h : (allR fL (some e.2)).2 with
      | none => rw [allR_none _ _ h] at eF; cases eF
      | some r =>
        obtain ⟨ys, h1, h2⟩ := allR_some _ _ _ h
        injection h1 with h1
        subst h1
        rw [eF] at h2
        injection h2 with h2
        rw [h2]
    rw [Option.bind_some]
    cases eG : hdR 0 hiK f.2 with
    | none => rfl
    | some g =>
      exfalso
      unfold sG at hG
      rw [hF, numR_some eG] at hG
      cases hG
theorem node_some {s : Option (List UInt8)} {g : List UInt8} (hG : (sG s).2 = some g) : nodeS s = (takeV' g).bind fun h => if ndB (ndOf s h.1) = true then some h.2 else none := by
  obtain ⟨xs, rfl, h⟩ := node_chain hG
  unfold nodeS
  rw [Option.bind_some, h]
  cases takeV' g with
  | none => rfl
  | some p =>
    rw [Option.bind_some, Option.bind_some]
    split <;> rfl

/-! ### what the node's walk holds -/
structure NSt (w wr : World) (R : Nat) (ps vs ks : List Value) : Prop where
  g : w.grownBy wr (some R)
  pb : BoxL wr w.heap.size ps
  bv : BoxL wr (w.heap.size + 1) vs
  bk : BoxL wr (w.heap.size + 1 + 1) ks
  hR : R < w.heap.size
theorem NSt.then {w wr wx : World} {R : Nat} {ps vs ks : List Value} (h : NSt w wr R ps vs ks) (hE : Ext wr wx) : NSt w wx R ps vs ks :=
  ⟨grown_trans h.g (grown_ext hE _), h.pb.ext hE, h.bv.ext hE, h.bk.ext hE, h.hR⟩
theorem NSt.step {w wr wx : World} {R : Nat} {ps vs ks : List Value} (h : NSt w wr R ps vs ks) (hg : wr.grownBy wx (some R)) : NSt w wx R ps vs ks := by
  have a := h.hR
  exact ⟨grown_trans h.g hg, h.pb.kept hg (fun e => by injection e with e; omega), h.bv.kept hg (fun e => by injection e with e; omega), h.bk.kept hg (fun e => by injection e with e; omega), a⟩
theorem NSt.far {w wr wx : World} {R : Nat} {ps vs ks : List Value} (h : NSt w wr R ps vs ks) {row : Option Nat} (hg : wr.grownBy wx row) (hr : ∀ k, row = some k → w.heap.size + 1 + 1 < k) : NSt w wx R ps vs ks := by
  have a := h.hR
  exact ⟨grown_row' h.g hg (fun x hx => by have := hr x hx; omega), h.pb.kept hg (fun e => by have := hr _ e; omega), h.bv.kept hg (fun e => by have := hr _ e; omega), h.bk.kept hg (fun e => by have := hr _ e; omega), a⟩
theorem NSt.setV {w wr : World} {R : Nat} {ps vs ks : List Value} (h : NSt w wr R ps vs ks) (j : Nat) (hj : j < vs.length) (u : Value) : NSt w (wr.setCell ⟨w.heap.size + 1, j, none⟩ u) R ps (vs.set j u) ks := by
  have hg := setOne_grown wr (w.heap.size + 1) j u
  have a := h.hR
  exact ⟨grown_row' h.g hg (fun x hx => by injection hx with hx; omega), h.pb.kept hg (fun e => by injection e with e; omega), h.bv.set j hj u, h.bk.kept hg (fun e => by injection e with e; omega), a⟩
theorem NSt.setK {w wr : World} {R : Nat} {ps vs ks : List Value} (h : NSt w wr R ps vs ks) (j : Nat) (hj : j < ks.length) (u : Value) : NSt w (wr.setCell ⟨w.heap.size + 1 + 1, j, none⟩ u) R ps vs (ks.set j u) := by
  have hg := setOne_grown wr (w.heap.size + 1 + 1) j u
  have a := h.hR
  exact ⟨grown_row' h.g hg (fun x hx => by injection hx with hx; omega), h.pb.kept hg (fun e => by injection e with e; omega), h.bv.kept hg (fun e => by injection e with e; omega), h.bk.set j hj u, a⟩
def ndZ : List Value := [.string { data := #[] }, .string { data := #[] }, .int .u8 0, .int .i64 0, .int .i64 0, .int .i64 0, .slice none 0 0, .int .i64 0, .int .i64 0, .int .u8 0, .int .i64 0, .int .i64 0, .int .u8 0, .int .i64 0, .string { data := #[] }, .slice none 0 0]

/-- The node's cells on their way. -/
def ndV (A B : List UInt8) (k f o p : Int) (d : Value) (wd q st fa tk : Int) (v0 v1 v2 v3 : Value) : List Value :=
  [.string (str A), .string (str B), .int .u8 k, .int .i64 f, .int .i64 o, .int .i64 p, d, .int .i64 wd, .int .i64 q, .int .u8 st, .int .i64 fa, .int .i64 tk, v0, v1, v2, v3]
def zV : Value := .slice none 0 0
/-- The first numbers, one by one. -/
def J1 (w : World) (R : Nat) (A B : List UInt8) (ns : List Int) (wr : World) : Prop :=
  NSt w wr R ndZ (ndV A B 0 (ns.getD 1 0) (ns.getD 2 0) (ns.getD 3 0) zV 0 0 0 0 0 (.int .u8 0) (.int .i64 0) (.string { data := #[] }) zV) [.int .i64 (ns.getD 0 0), .int .i64 0]
theorem J1_step {w a b : World} {R : Nat} {A B : List UInt8} {ns : List Int} {n : Int} {f : Fld} (h : J1 w R A B ns a) (hf : (firstF (w.heap.size + 1) (w.heap.size + 1 + 1))[ns.length]? = some f) (hg : a.grownBy b (some R)) : J1 w R A B (ns ++ [n]) (b.setCell ⟨f.b, f.off, none⟩ (.int .i64 n)) := by
  match ns, hf with
  | [], hf => simp only [firstF, List.length_nil, List.getElem?_cons_zero, Option.some.injEq] at hf; subst hf; exact (NSt.step h hg).setK 0 (by simp) _
  | [x], hf => simp [firstF] at hf; subst hf; exact (NSt.step h hg).setV 3 (by simp [ndV]) _
  | [x, y], hf => simp [firstF] at hf; subst hf; exact (NSt.step h hg).setV 4 (by simp [ndV]) _
  | [x, y, z], hf => simp [firstF] at hf; subst hf; exact (NSt.step h hg).setV 5 (by simp [ndV]) _
  | _ :: _ :: _ :: _ :: l, hf => simp [firstF] at hf
theorem BoxL.has {w : World} {b : Nat} {vs : List Value} (h : BoxL w b vs) (j : Nat) (hj : j < vs.length) : ∃ u, w.cell? ⟨b, j, none⟩ = some u ∧ w.frozen? ⟨b, j, none⟩ = false :=
  ⟨_, h.cell j _ (List.getElem?_eq_getElem hj), h.free j⟩
theorem J1_cell {w a : World} {R : Nat} {A B : List UInt8} {ns : List Int} {f : Fld} (h : J1 w R A B ns a) (hf : f ∈ firstF (w.heap.size + 1) (w.heap.size + 1 + 1)) : ∃ u, a.cell? ⟨f.b, f.off, none⟩ = some u ∧ a.frozen? ⟨f.b, f.off, none⟩ = false := by
  simp only [firstF, List.mem_cons, List.not_mem_nil, or_false] at hf
  rcases hf with rfl | rfl | rfl | rfl
  · exact h.bk.has 0 (by simp)
  · exact h.bv.has 3 (by simp [ndV])
  · exact h.bv.has 4 (by simp [ndV])
  · exact h.bv.has 5 (by simp [ndV])
theorem first_far {n k : Nat} {f : Fld} (hf : f ∈ firstF n k) : f.b = n ∨ f.b = k := by
  simp only [firstF, List.mem_cons, List.not_mem_nil, or_false] at hf
  rcases hf with rfl | rfl | rfl | rfl <;> simp
theorem last_far {n k : Nat} {f : Fld} (hf : f ∈ lastF n k) : f.b = n ∨ f.b = k := by
  simp only [lastF, List.mem_cons, List.not_mem_nil, or_false] at hf
  rcases hf with rfl | rfl | rfl | rfl <;> simp
/-- Numbers in a row of one's own. -/
def OwnN (e : TypeId) (base : Nat) (w : World) (v : Value) (l : List Int) : Prop := w.ownsRow base e 1 v l.length (l.map (Value.int .i64))
theorem OwnN.nil (e : TypeId) (base : Nat) (w : World) : OwnN e base w (.slice none 0 0) [] := World.ownsRow_nil w base e 1
theorem OwnN.ext {e : TypeId} {base : Nat} {w w' : World} {v : Value} {l : List Int} (h : OwnN e base w v l) (hE : Ext w w') : OwnN e base w' v l := hE.own h
theorem OwnN.mono {e : TypeId} {base base' : Nat} {w : World} {v : Value} {l : List Int} (h : OwnN e base w v l) (hb : base' ≤ base) : OwnN e base' w v l := ownsRow_base h hb
theorem OwnN.kept {e : TypeId} {base : Nat} {w w' : World} {v : Value} {l : List Int} {row : Option Nat} (h : OwnN e base w v l) (hg : w.grownBy w' row) (hr : ∀ b, row = some b → b < base) : OwnN e base w' v l := by
  refine World.ownsRow.kept h hg ?_
  cases hv : v.ownBlock with
  | none => exact .inl rfl
  | some b => right; intro e; have := hr b e.symm; have := (World.ownsRow.lt h b hv).1; omega
theorem OwnN.row {e : TypeId} {base : Nat} {w : World} {v : Value} {l : List Int} (h : OwnN e base w v l) (hl : ∀ i, i ∈ l → isI64 i) : intE.Row w l v := by
  have hc := fun g => World.ownsRow.cells h (g := g)
  rcases h.2 with ⟨rfl, h0⟩ | ⟨g, cap, cur, rfl, hb, hg, h1, h2, h5, h6⟩
  · have : l = [] := List.eq_nil_of_length_eq_zero h0
    subst this
    exact Elem.Row.void intE w none
  · refine Elem.Row.mk rfl h1 h2 (Array.getElem?_eq_some_iff.1 hg).1 (fun i hi => ⟨fun _ => .int .i64 l[i], ⟨rfl, hl _ (List.getElem_mem hi)⟩, fun j hj => ?_⟩)
    have hj0 : j = 0 := by have : j < 1 := hj; omega
    subst hj0
    have := hc g rfl i (.int .i64 l[i]) (by simp [hi])
    rw [Addr.add_lit] at this
    show w.cell? ⟨g, 0 + (i * 1 + 0), none⟩ = _
    rw [show 0 + (i * 1 + 0) = 0 + i by omega]
    exact this
/-- The last numbers, one by one. -/
def J2 (e : TypeId) (w : World) (R : Nat) (A B : List UInt8) (f o p : Int) (d : Value) (l : List Int) (K0 : Value) (ns : List Int) (wr : World) : Prop :=
  NSt w wr R ndZ (ndV A B 0 f o p d (ns.getD 0 0) (ns.getD 1 0) 0 (ns.getD 3 0) 0 (.int .u8 0) (.int .i64 0) (.string { data := #[] }) zV) [K0, .int .i64 (ns.getD 2 0)] ∧ OwnN e (w.heap.size + 1 + 1 + 1) wr d l
theorem J2_step {e : TypeId} {w a b : World} {R : Nat} {A B : List UInt8} {f o p : Int} {d : Value} {l : List Int} {K0 : Value} {ns : List Int} {n : Int} {g : Fld} (h : J2 e w R A B f o p d l K0 ns a) (hf : (lastF (w.heap.size + 1) (w.heap.size + 1 + 1))[ns.length]? = some g) (hg : a.grownBy b (some R)) : J2 e w R A B f o p d l K0 (ns ++ [n]) (b.setCell ⟨g.b, g.off, none⟩ (.int .i64 n)) := by
  have hR := h.1.hR
  have ho : OwnN e (w.heap.size + 1 + 1 + 1) (b.setCell ⟨g.b, g.off, none⟩ (.int .i64 n)) d l := by
    refine (h.2.kept hg (fun k hk => by injection hk with hk; omega)).kept (setOne_grown b g.b g.off _) (fun k hk => ?_)
    injection hk with hk
    have := last_far (List.mem_of_getElem? hf)
    omega
  refine ⟨?_, ho⟩
  match ns, hf with
  | [], hf => simp only [lastF, List.length_nil, List.getElem?_cons_zero, Option.some.injEq] at hf; subst hf; exact (NSt.step h.1 hg).setV 7 (by simp [ndV]) _
  | [x], hf => simp [lastF] at hf; subst hf; exact (NSt.step h.1 hg).setV 8 (by simp [ndV]) _
  | [x, y], hf => simp [lastF] at hf; subst hf; exact (NSt.step h.1 hg).setK 1 (by simp) _
  | [x, y, z], hf => simp [lastF] at hf; subst hf; exact (NSt.step h.1 hg).setV 10 (by simp [ndV]) _
  | _ :: _ :: _ :: _ :: l, hf => simp [lastF] at hf
theorem J2_cell {e : TypeId} {w a : World} {R : Nat} {A B : List UInt8} {f o p : Int} {d : Value} {l : List Int} {K0 : Value} {ns : List Int} {g : Fld} (h : J2 e w R A B f o p d l K0 ns a) (hf : g ∈ lastF (w.heap.size + 1) (w.heap.size + 1 + 1)) : ∃ u, a.cell? ⟨g.b, g.off, none⟩ = some u ∧ a.frozen? ⟨g.b, g.off, none⟩ = false := by
  simp only [lastF, List.mem_cons, List.not_mem_nil, or_false] at hf
  rcases hf with rfl | rfl | rfl | rfl
  · exact h.1.bv.has 7 (by simp [ndV])
  · exact h.1.bv.has 8 (by simp [ndV])
  · exact h.1.bk.has 1 (by simp)
  · exact h.1.bv.has 10 (by simp [ndV])

theorem setCells_grown (b : Nat) : ∀ (vs : List Value) (o : Nat) (w : World), w.grownBy (w.setCells b o vs) (some b)
  | [], o, w => ⟨rfl, rfl, rfl, Nat.le_refl _, fun _ _ _ => rfl⟩
  | v :: r, o, w => by rw [World.setCells]; exact grown_trans (setOne_grown w b o v) (setCells_grown b r (o + 1) _)
theorem BoxL.range {w : World} {b : Nat} {vs : List Value} (h : BoxL w b vs) : w.rangeAt b 0 vs := fun j v hv => by rw [Nat.zero_add]; exact h.cell j v hv
theorem BoxL.there {w : World} {b n : Nat} {vs : List Value} (h : BoxL w b vs) (hn : n ≤ vs.length) : w.there b 0 n := fun j hj => by
  rw [Nat.zero_add]
  exact ⟨by rw [h.cell j _ (List.getElem?_eq_getElem (by omega))]; rfl, h.free j⟩
/-- The node's cells are the node's. -/
theorem ndV_cells {s : Option (List UInt8)} {A B : List UInt8} {c0 c1 c2 c3 f0 f1 f2 f3 G : Int} {t : Tr} {d k n x l : Value} (hA : (sA s).1 = A) (hB : (sB s).1 = B) (hC : (sC s).1 = [c0, c1, c2, c3]) (hF : (sF s).1 = [f0, f1, f2, f3]) (hG : G = (sG s).1)
    (h0 : 0 ≤ c0) (h1 : c0 ≤ 255) (h2 : 0 ≤ f2) (h3 : f2 ≤ 255) : ndV A B c0 c1 c2 c3 d f0 f1 f2 f3 G k n x l = ndCells (ndOf s t) d k n x l := by
  unfold ndV ndCells ndOf mkNd
  rw [hA, hB, hC, hF, ← hG]
  simp only [List.getD_cons_zero, List.getD_cons_succ]
  rw [show ((UInt8.ofNat c0.toNat).toNat : Int) = c0 by rw [UInt8.toNat_ofNat']; omega, show ((UInt8.ofNat f2.toNat).toNat : Int) = f2 by rw [UInt8.toNat_ofNat']; omega]
theorem ndOf_wf {s : Option (List UInt8)} {t : Tr} {c0 c1 c2 c3 f0 f1 f2 f3 : Int} (hA : (sA s).1.length ≤ 400) (hB : (sB s).1.length ≤ 20) (hC : (sC s).1 = [c0, c1, c2, c3]) (hF : (sF s).1 = [f0, f1, f2, f3]) (ci : isI64 c0 ∧ isI64 c1 ∧ isI64 c2 ∧ isI64 c3) (fi : isI64 f0 ∧ isI64 f1 ∧ isI64 f2 ∧ isI64 f3) (ht : NumsT t) : ndWf (ndOf s t) := by
  unfold ndWf ndOf mkNd
  rw [hC, hF]
  simp only [List.getD_cons_zero, List.getD_cons_succ]
  exact ⟨by omega, by omega, ci.2.1, ci.2.2.1, ci.2.2.2, fi.1, fi.2.1, fi.2.2.2, numR_i64 _ _ _, ht, fun i hi => repR_i64 _ _ _ _ i hi⟩
end Fm

open Go.RowKit Go.Shelf
namespace Go.Proofs.YtdienbcjfljjnaaGreatDoor
open Go Go.Proofs Fm

theorem infointR : (Tryz.prog.info? 3).map (fun i => (i.zero, i.size, i.bytes)) = some (some (.int .i64 0), 1, 8) := by kernel_rfl
theorem elemintR : ElemOf Tryz.prog 57 3 (.int .i64 0) 1 8 := ⟨Tryz.underlying57, infointR, rfl, by decide⟩
/-- So many numbers. -/
def RNums (xs : List UInt8) (A0 k : Nat) (w : World) (e : Ending) (w' : World) : Prop :=
  ∃ (a : Option Addr) (m c n : Nat), e = .returned (.tuple #[.slice a m c, .int .i64 (n : Int)]) ∧ Ext w w' ∧
    ((readM hdN k (xs.drop A0) = none ∧ m = 0 ∧ n = 0) ∨ ∃ (l : List Int) (B : Nat), readM hdN k (xs.drop A0) = some (l, xs.drop B) ∧ B = A0 + n ∧ B ≤ xs.length ∧ OwnN 3 w.heap.size w' (.slice a m c) l ∧ (0 < k → 0 < n))

set_option maxRecDepth 100000 in
set_option maxHeartbeats 8000000 in
theorem rnums_any (xs : List UInt8) (A0 k : Nat) (hA : A0 ≤ xs.length) (hk : k ≤ 900) (v : Value) (w : World) (h : Bytes w v (xs.drop A0)) :
    Calls Tryz.prog 49 #[v, .int .i64 (k : Int)] w (RNums xs A0 k w) := by
  obtain ⟨ys, hys⟩ : ∃ ys, ys = xs.drop A0 := ⟨_, rfl⟩
  rw [← hys] at h
  have hyl : ys.length = xs.length - A0 := by rw [hys, List.length_drop]
  obtain ⟨a, cap, rfl, hcap, hcm⟩ := id h
  have hlm := h.length_le
  have HB := Lib.hid h
  have HY := Lib.hid hys
  have HYl := Lib.hid hyl
  have HA0 := Lib.hid hA
  clear h hys hyl hA
  go_enter Tryz.func49, Tryz.ntmps49
  go_wp2_with fail
  go_loopw [6, 7, 8] (fun o t i wr => ∃ (j A : Nat) (va : Option Addr) (vm vc : Nat) (l : List Int), j ≤ k ∧ o = .slice va vm vc ∧ t = .int .i64 (A : Int) ∧ i = .int .i64 (j : Int) ∧ A ≤ ys.length ∧ (0 < j → 0 < A) ∧ Hid (readM hdN j ys = some (l, ys.drop A)) ∧ Hid (OwnN 3 w.heap.size wr (.slice va vm vc) l) ∧ Hid (l.length = j) ∧ Hid (Ext w wr)) (fun _ _ i _ => k - (intOf i).toNat)
  case atStart => exact ⟨0, 0, none, 0, 0, [], by omega, rfl, rfl, rfl, by omega, fun h => by omega, Lib.hid rfl, Lib.hid (OwnN.nil _ _ _), Lib.hid rfl, Lib.hid (Ext.refl _)⟩
  case round =>
  obtain ⟨j, A, va, vm, vc, l, hj, rfl, rfl, rfl, hAl, hA1, HRd, HO, HLn, HE⟩ := hrel
  by_cases hlt : j < k
  case neg =>
    have hj2 : ¬ (j : Int) < (k : Int) := by omega
    have HP : Hid (RNums xs A0 k w (.returned (.tuple #[.slice va vm vc, .int .i64 (A : Int)])) wr) := Lib.hid ⟨va, vm, vc, A, rfl, HE.out, .inr ⟨l, A0 + A, by
      have e : j = k := by omega
      rw [← e, ← HY.out, HRd.out, HY.out, List.drop_drop], rfl, by have := HYl.out; have := HA0.out; omega, HO.out, fun h => hA1 (by omega)⟩⟩
    clear HRd HO HLn HE hA1
    go_wp2
    refine bodyPost_ret (v := .tuple #[.slice va vm vc, .int .i64 (A : Int)]) (by simp [results, Tryz.results49, go_sem]) rfl ?_
    exact HP.out
  have hj1 : (j : Int) < (k : Int) := by omega
  have hsk := fun w' => slice_from a ys.length cap (A : Int) (by omega) (by omega) w'
  rw [Int.toNat_natCast] at hsk
  go_wp2_with fail
  clear hsk
  refine (rnumN_any _ ys A hAl wr ((HB.out.ext HE.out).drop hAl)).mono ?_
  rintro e wq ⟨rfl, hq⟩
  rcases hq with ⟨hno, nn, rfl⟩ | ⟨tk, kT, AT, hyes, hBk, hBl, hkz, hti, rfl⟩
  · have HP : Hid (RNums xs A0 k w (.returned (.tuple #[.slice none 0 0, .int .i64 0])) wr) := Lib.hid ⟨none, 0, 0, 0, rfl, HE.out, .inl ⟨by
      rw [← HY.out]
      refine readM_none hdN (i := j + 1) ?_ (by omega)
      rw [readM_snoc, HRd.out, Option.bind_some]
      simp only
      rw [hno]; rfl, rfl, rfl⟩⟩
    clear hno HRd HO HLn HE hA1
    go_wp2
    refine bodyPost_ret (v := .tuple #[.slice none 0 0, .int .i64 0]) (by simp [results, Tryz.results49, go_sem]) rfl ?_
    exact HP.out
  · have HRd2 : Hid (readM hdN (j + 1) ys = some (l ++ [tk], ys.drop AT)) := Lib.hid (by rw [readM_snoc, HRd.out, Option.bind_some]; simp only; rw [hyes]; rfl)
    have hk0 : 0 < kT := by simp at hkz; omega
    have hadd : IntKind.i64.wrap ((A : Int) + (kT : Int)) = (AT : Int) := by rw [IntWalk.i64_in _ (by omega)]; omega
    have hsum : (A : Int) + (kT : Int) = (AT : Int) := by omega
    have hAT : 0 < AT := by omega
    have HA0' := Lib.hid (HO.out.ext ((Ext.refl wr).alloc (.cells #[.int .i64 tk] 3)))
    have HNb := Lib.hid (heap_alloc_new wr (.cells #[.int .i64 tk] 3))
    have HWs : Hid (wr.heap.size < (wr.alloc (.cells #[.int .i64 tk] 3)).heap.size) := Lib.hid (by simp)
    have HAW := Lib.hid (grown_ext ((Ext.refl wr).alloc (.cells #[.int .i64 tk] 3)) (Value.slice va vm vc).ownBlock)
    have HLow := Lib.hid (World.ownsRow.lt HO.out)
    have hln := HLn.out
    have hew := HE.out.size
    clear hyes hBk HRd HO
    go_wp2_with (at_builtin; refine wpList_appOne elemintR rfl _ _ rfl rfl HA0'.out rfl HNb.out rfl (by simp [Value.oneCell']) (by omega) (by omega) (by have := HWs.out; omega) ?_)
    intro v6 w6 ho hgr hat
    have ho6 : OwnN 3 w.heap.size w6 v6 (l ++ [tk]) := by
      unfold OwnN; rw [List.length_append, List.map_append, hln]; exact ho
    obtain ⟨a6, m6, c6, rfl⟩ : ∃ a6 m6 c6, v6 = .slice a6 m6 c6 := by
      rcases ho.2 with ⟨q, -⟩ | ⟨b, cap', cur, q, -⟩
      · exact ⟨_, _, _, q⟩
      · exact ⟨_, _, _, q⟩
    have HO6 := Lib.hid ho6
    have HE6 := Lib.hid (HE.out.grown (grown_trans HAW.out hgr) (fun b hb => (HLow.out b hb).1))
    have HL6 : Hid ((l ++ [tk]).length = j + 1) := Lib.hid (by simp [hln])
    clear ho hgr hat ho6 HA0' HNb HWs HAW HLow hln HE HLn
    go_wp2
    go_roundw
    case rel => exact ⟨j + 1, AT, a6, m6, c6, l ++ [tk], by omega, rfl, by first | rfl | (rw [hsum]) | simp [hsum], by go_num, hBl, fun _ => hAT, HRd2, HO6, HL6, HE6⟩
    case measure => simp [intOf]; omega
end Go.Proofs.YtdienbcjfljjnaaGreatDoor

open Go.RowKit Go.Shelf
namespace Go.Proofs.YtdienbcjfljjnaaGreatDoor
open Go Go.Proofs Fm

set_option maxHeartbeats 2000000 in
/-- A number behind bytes of one's own. -/
theorem rnumB_any (n : Int) (hn : isI64 n) (base : Nat) (w : World) (v : Value) (xs : List UInt8) (hv : OwnB base w v xs) (hb : base ≤ w.heap.size) (hx : xs.length ≤ 1099511627776) :
    Calls Tryz.prog 43 #[v, .int .i64 n] w fun e w' => ∃ v', e = .returned v' ∧ OwnB base w' v' (xs ++ numB n) ∧ w.grownBy w' v.ownBlock ∧ (v'.ownBlock = v.ownBlock ∨ ∃ b, v'.ownBlock = some b ∧ w.heap.size ≤ b) := by
  have HV := Lib.hid hv
  have hl := numB_le n
  obtain ⟨a, m, c, rfl⟩ : ∃ a m c, v = .slice a m c := by
    rcases hv.2 with ⟨q, -⟩ | ⟨b, cap', cur, q, -⟩
    · exact ⟨_, _, _, q⟩
    · exact ⟨_, _, _, q⟩
  clear hv
  go_enter Tryz.func43, Tryz.ntmps43
  go_wp2_with fail
  refine (rnum_any n hn w).mono ?_
  rintro e w1 ⟨v1, rfl, h1⟩
  have HO := Lib.hid (HV.out.ext h1.2)
  have HB1 := Lib.hid h1.bytes
  have HE1 := Lib.hid h1.2
  have hz := h1.2.size
  clear h1
  go_wp2_with (at_builtin; refine appBt rfl _ _ rfl rfl HO.out rfl HB1.out (by omega) (by omega) ?_)
  intro v2 w2 ho hg hat
  have HP : Hid (∃ v', Ending.returned v2 = .returned v' ∧ OwnB base w2 v' (xs ++ numB n) ∧ w.grownBy w2 (Value.slice a m c).ownBlock ∧ (v'.ownBlock = (Value.slice a m c).ownBlock ∨ ∃ b, v'.ownBlock = some b ∧ w.heap.size ≤ b)) :=
    Lib.hid ⟨v2, rfl, ho, grown_trans (grown_ext HE1.out _) hg, hat.elim .inl (fun h => .inr ⟨_, h, hz⟩)⟩
  clear ho hg hat
  go_wp2
  go_ret
  exact HP.out
end Go.Proofs.YtdienbcjfljjnaaGreatDoor
