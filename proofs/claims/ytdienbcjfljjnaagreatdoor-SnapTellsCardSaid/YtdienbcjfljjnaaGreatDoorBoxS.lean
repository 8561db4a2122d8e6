/- A struct's value into a box that was made last, in one step; whole structs out of and into slices. -/
import Derived.Test.YtdienbcjfljjnaaGreatDoorFrgM
import Derived.Test.YtdienbcjfljjnaaGreatDoorRefD
import Derived.Test.YtdienbcjfljjnaaGreatDoorWireB
import Derived.Test.YtdienbcjfljjnaaGreatDoorPlA
import Derived.Deep.WholeRow
import Derived.Deep.MidRow
open Go.RowKit Go.Shelf
namespace Go.Proofs.YtdienbcjfljjnaaGreatDoor
open Go Go.Proofs Fm

/-- The reference's text at a place, in the words of hdX; any top. -/
theorem rtextT_any (top : Int) (h0 : 0 ≤ top) (h1 : top ≤ 1000000) (v : Value) (xs : List UInt8) (AA : Nat) (hA : AA ≤ xs.length) (w : World) (h : Bytes w v (xs.drop AA)) (hl : xs.length ≤ 9223372036854775807) :
    Calls Tryz.prog 94 #[v, .int .i64 top] w fun e w' => w = w' ∧
      ((hdX top (xs.drop AA) = none ∧ e = .returned (.tuple #[.string (str []), .int .i64 0, .bool false])) ∨
        ∃ (s : List UInt8) (A B : Nat), hdX top (xs.drop AA) = some (s, xs.drop B) ∧ B = AA + A ∧ B ≤ xs.length ∧ 0 < A ∧ s.length ≤ 9223372036854775807 ∧ e = .returned (.tuple #[.string (str s), .int .i64 (A : Int), .bool true])) := by
  refine (rtakeText_any _ (xs.drop AA) top (by unfold isI64; omega) w h).mono ?_
  rintro e w1 ⟨hp, rfl⟩
  refine ⟨rfl, ?_⟩
  cases hT : takeT (xs.drop AA) top with
  | none => rw [hT] at hp; exact .inl ⟨hdX_none hT, hp⟩
  | some p =>
    obtain ⟨k, n⟩ := p
    rw [hT] at hp
    obtain ⟨h1, h2, h3⟩ := takeT_inv hT
    obtain ⟨-, h4, -⟩ := takeN_inv h1
    rw [List.length_drop] at h3
    refine .inr ⟨((xs.drop AA).drop k).take n, k + n, AA + (k + n), ?_, rfl, by omega, by omega, ?_, hp⟩
    · rw [hdX_of_some hT]; simp only [List.drop_drop]
    · simp only [List.length_take, List.length_drop]; omega
/-- The reference's number at a place, in the words of hdN. -/
theorem rnumN_any (v : Value) (xs : List UInt8) (AA : Nat) (hA : AA ≤ xs.length) (w : World) (h : Bytes w v (xs.drop AA)) :
    Calls Tryz.prog 93 #[v] w fun e w' => w = w' ∧
      ((hdN (xs.drop AA) = none ∧ ∃ n : Int, e = .returned (.tuple #[.int .i64 n, .int .i64 0])) ∨
        ∃ (n : Int) (A B : Nat), hdN (xs.drop AA) = some (n, xs.drop B) ∧ B = AA + A ∧ B ≤ xs.length ∧ ((A : Int) == 0) = false ∧ isI64 n ∧ e = .returned (.tuple #[.int .i64 n, .int .i64 (A : Int)])) := by
  refine (rtakeNum_any _ (xs.drop AA) w h).mono ?_
  rintro e w1 ⟨hp, rfl⟩
  refine ⟨rfl, ?_⟩
  cases hT : takeN (xs.drop AA) with
  | none => rw [hT] at hp; exact .inl ⟨hdN_none hT, 0, hp⟩
  | some p =>
    obtain ⟨n, k⟩ := p
    rw [hT] at hp
    obtain ⟨h1, h2, h3, h4, -⟩ := takeN_inv hT
    rw [List.length_drop] at h4
    exact .inr ⟨n, k, AA + k, by rw [hdN_some hT, List.drop_drop], rfl, by omega, by simp; omega, h1, hp⟩

/-- Two boxes: the results', and the operation's. -/
structure RSO (w W : World) (B : Nat) (us vs : List Value) : Prop where
  e : Ext w W
  p : BoxL W w.heap.size us
  v : BoxL W B vs
  o : w.heap.size < B
theorem RSO.set {w W : World} {B : Nat} {us vs : List Value} (h : RSO w W B us vs) (j : Nat) (hj : j < vs.length) (u : Value) : RSO w (W.setCell ⟨B, j, none⟩ u) B us (vs.set j u) :=
  ⟨h.e.setCell (p := ⟨B, j, none⟩) (by show w.heap.size ≤ B; have := h.o; omega) u, h.p.kept (setOne_grown W B j u) (fun e => by injection e with e; have := h.o; omega), h.v.set j hj u, h.o⟩
theorem RSO.ext {w W W' : World} {B : Nat} {us vs : List Value} (h : RSO w W B us vs) (hE : Ext W W') : RSO w W' B us vs := ⟨h.e.trans hE, h.p.ext hE, h.v.ext hE, h.o⟩
theorem RSO.new {w W : World} {us vs : List Value} (h : OSt w W us) (t : TypeId) : RSO w (W.alloc (.cells vs.toArray t)) W.heap.size us vs :=
  ⟨h.e.trans ((Ext.refl W).alloc _), h.b.ext ((Ext.refl W).alloc _), BoxL.new W vs t, h.b.lt⟩
theorem OwnT.far {e : TypeId} {w : World} {base : Nat} {t : Tr} {v : Value} (h : OwnT e w base t v) {B : Nat} (hB : B < base) (j : Nat) (u : Value) : OwnT e (w.setCell ⟨B, j, none⟩ u) base t v := h.grown (setOne_grown w B j u) (fun b hb => by injection hb with hb; omega)
theorem OwnFF.far {w : World} {base : Nat} {l : List It} {v : Value} (h : OwnFF base w v l) {B : Nat} (hB : B < base) (j : Nat) (u : Value) : OwnFF base (w.setCell ⟨B, j, none⟩ u) v l := OwnF.kept h (setOne_grown w B j u) (fun b hb => by injection hb with hb; omega)
end Go.Proofs.YtdienbcjfljjnaaGreatDoor

namespace Fm
open Go Go.RowKit

/-- A node. -/
structure Nd where
  id : List UInt8
  name : List UInt8
  kind : UInt8
  flow : Int
  owner : Int
  place : Int
  after : List Int
  width : Int
  quota : Int
  stand : UInt8
  fails : Int
  tok : Int
  val : Tr
/-- A state. -/
structure Sn where
  cq : Int
  cd : Int
  cw : Int
  cr : Int
  cf : Int
  flows : Int
  nodes : List Nd
  tok : Int

def inB (lo hi n : Int) : Bool := decide (lo ≤ n) && decide (n ≤ hi)
theorem inB_iff {lo hi n : Int} : inB lo hi n = true ↔ lo ≤ n ∧ n ≤ hi := by unfold inB; simp
/-- Are all numbers where they may be? -/
def fitB : List (Int × Int) → List Int → Bool
  | f :: fs, n :: ns => inB f.1 f.2 n && fitB fs ns
  | _, _ => true
def fF : List (Int × Int) := [(0, 2), (0, 12), (-1, 4799), (-1, 999999)]
def fL : List (Int × Int) := [(0, 40), (0, 400), (0, 6), (0, 10)]
def fH : List (Int × Int) := [(0, 400), (0, 12), (0, 40), (0, 9), (0, 12), (0, 12)]
def nF (n : Nd) : List Int := [(n.kind.toNat : Int), n.flow, n.owner, n.place]
def nL (n : Nd) : List Int := [n.width, n.quota, (n.stand.toNat : Int), n.fails]
def nH (s : Sn) : List Int := [s.cq, s.cd, s.cw, s.cr, s.cf, s.flows]
def ndB (n : Nd) : Bool := idB n.id && (decide (n.name.length = 0) || nameB n.name) && fitB fF (nF n) && fitB fL (nL n) && decide (n.after.length ≤ 21) && n.after.all (inB 0 4799) && decide (0 ≤ n.tok) && rightT n.val
def snB (s : Sn) : Bool := fitB fH (nH s) && decide (0 ≤ s.tok) && decide (s.nodes.length ≤ 4800) && s.nodes.all ndB
theorem ndB_iff {n : Nd} : ndB n = true ↔ idB n.id = true ∧ (n.name.length = 0 ∨ nameB n.name = true) ∧ fitB fF (nF n) = true ∧ fitB fL (nL n) = true ∧ n.after.length ≤ 21 ∧ n.after.all (inB 0 4799) = true ∧ 0 ≤ n.tok ∧ rightT n.val = true := by
  unfold ndB; simp only [Bool.and_eq_true, Bool.or_eq_true, decide_eq_true_eq, and_assoc]
theorem snB_iff {s : Sn} : snB s = true ↔ fitB fH (nH s) = true ∧ 0 ≤ s.tok ∧ s.nodes.length ≤ 4800 ∧ s.nodes.all ndB = true := by
  unfold snB; simp only [Bool.and_eq_true, decide_eq_true_eq, and_assoc]
noncomputable def eqNd (o p : Nd) : Bool := @decide (o = p) (Classical.propDecidable _)
theorem eqNd_iff {o p : Nd} : eqNd o p = true ↔ o = p := by unfold eqNd; exact @decide_eq_true_iff _ (Classical.propDecidable _)
noncomputable def eqSn (o p : Sn) : Bool := @decide (o = p) (Classical.propDecidable _)
theorem eqSn_iff {o p : Sn} : eqSn o p = true ↔ o = p := by unfold eqSn; exact @decide_eq_true_iff _ (Classical.propDecidable _)
/-- Numbers that 64 bits hold. -/
def ndWf (n : Nd) : Prop := n.id.length ≤ 9223372036854775807 ∧ n.name.length ≤ 9223372036854775807 ∧ isI64 n.flow ∧ isI64 n.owner ∧ isI64 n.place ∧ isI64 n.width ∧ isI64 n.quota ∧ isI64 n.fails ∧ isI64 n.tok ∧ NumsT n.val ∧ ∀ i, i ∈ n.after → isI64 i
def snWf (s : Sn) : Prop := isI64 s.cq ∧ isI64 s.cd ∧ isI64 s.cw ∧ isI64 s.cr ∧ isI64 s.cf ∧ isI64 s.flows ∧ isI64 s.tok ∧ ∀ n, n ∈ s.nodes → ndWf n

/-! ### bytes -/
def numsB (l : List Int) : List UInt8 := (l.map numB).flatten
theorem numsB_nil : numsB [] = [] := rfl
theorem numsB_cons (n : Int) (l : List Int) : numsB (n :: l) = numB n ++ numsB l := rfl
def ndBy (n : Nd) : List UInt8 := textB n.id ++ (textB n.name ++ (numsB (nF n) ++ (numB n.after.length ++ (numsB n.after ++ (numsB (nL n) ++ (numB n.tok ++ bytesT n.val))))))
def nodesBy (l : List Nd) : List UInt8 := (l.map ndBy).flatten
def snBy (s : Sn) : List UInt8 := numsB (nH s) ++ (numB s.tok ++ (numB s.nodes.length ++ nodesBy s.nodes))

/-! ### what is read -/
/-- A number from one to another one. -/
def hdR (lo hi : Int) (xs : List UInt8) : Option (Int × List UInt8) := (hdN xs).bind fun p => if p.1 < lo ∨ hi < p.1 then none else some p
theorem hdR_num {lo hi n : Int} (h0 : lo ≤ n) (h1 : n ≤ hi) (h : isI64 n) (r : List UInt8) : hdR lo hi (numB n ++ r) = some (n, r) := by
  unfold hdR
  rw [hdN_num h, Option.bind_some, if_neg (by simp only; omega)]
theorem hdR_inv {lo hi n : Int} {xs r : List UInt8} (h : hdR lo hi xs = some (n, r)) : lo ≤ n ∧ n ≤ hi ∧ isI64 n ∧ xs = numB n ++ r := by
  unfold hdR at h
  obtain ⟨p, hp, hq⟩ := Option.bind_eq_some_iff.1 h
  split at hq
  · cases hq
  · rename_i hn
    cases hq
    obtain ⟨a, b⟩ := hdN_inv hp
    simp only at hn
    exact ⟨by omega, by omega, a, b⟩
theorem hdR_none {lo hi : Int} {xs : List UInt8} (h : hdN xs = none) : hdR lo hi xs = none := by unfold hdR; rw [h]; rfl
theorem hdR_bad {lo hi n : Int} {xs r : List UInt8} (h : hdN xs = some (n, r)) (hb : n < lo ∨ hi < n) : hdR lo hi xs = none := by unfold hdR; rw [h, Option.bind_some, if_pos hb]
theorem hdR_some {lo hi n : Int} {xs r : List UInt8} (h : hdN xs = some (n, r)) (h1 : ¬ n < lo) (h2 : ¬ hi < n) : hdR lo hi xs = some (n, r) := by unfold hdR; rw [h, Option.bind_some, if_neg (by simp only; omega)]
/-- Numbers, each where it may be. -/
def readN : List (Int × Int) → List UInt8 → Option (List Int × List UInt8)
  | [], xs => some ([], xs)
  | f :: fs, xs => (hdR f.1 f.2 xs).bind fun p => (readN fs p.2).map fun q => (p.1 :: q.1, q.2)
theorem readN_by : ∀ (fs : List (Int × Int)) (ns : List Int) (r : List UInt8), ns.length = fs.length → fitB fs ns = true → (∀ n, n ∈ ns → isI64 n) → readN fs (numsB ns ++ r) = some (ns, r)
  | [], [], r, _, _, _ => rfl
  | [], _ :: _, r, h, _, _ => by simp at h
  | _ :: _, [], r, h, _, _ => by simp at h
  | f :: fs, n :: ns, r, h, hf, hw => by
    rw [fitB, Bool.and_eq_true, inB_iff] at hf
    rw [readN, numsB_cons, List.append_assoc, hdR_num hf.1.1 hf.1.2 (hw n (List.mem_cons_self ..)), Option.bind_some]
    simp only
    rw [readN_by fs ns r (by simpa using h) hf.2 (fun m hm => hw m (List.mem_cons_of_mem _ hm))]
    rfl
theorem readN_inv : ∀ (fs : List (Int × Int)) (xs : List UInt8) (ns : List Int) (r : List UInt8), readN fs xs = some (ns, r) → xs = numsB ns ++ r ∧ ns.length = fs.length ∧ fitB fs ns = true ∧ ∀ n, n ∈ ns → isI64 n
  | [], xs, ns, r, h => by
    rw [readN] at h
    cases h
    exact ⟨rfl, rfl, rfl, fun n h => by cases h⟩
  | f :: fs, xs, ns, r, h => by
    rw [readN] at h
    obtain ⟨⟨n, r1⟩, h1, h2⟩ := Option.bind_eq_some_iff.1 h
    obtain ⟨⟨ms, r2⟩, h3, h4⟩ := Option.map_eq_some_iff.1 h2
    cases h4
    obtain ⟨a1, a2, a3, a4⟩ := hdR_inv h1
    obtain ⟨b1, b2, b3, b4⟩ := readN_inv fs r1 ms r2 h3
    refine ⟨by rw [a4, b1, numsB_cons, List.append_assoc], by simp [b2], by rw [fitB, b3, Bool.and_true]; exact inB_iff.2 ⟨a1, a2⟩, fun m hm => ?_⟩
    rcases List.mem_cons.1 hm with rfl | hm
    · exact a3
    · exact b4 m hm
/-- So many numbers of one kind. -/
theorem readM_num_inv (lo hi : Int) : ∀ (k : Nat) (xs : List UInt8) (l : List Int) (r : List UInt8), readM (hdR lo hi) k xs = some (l, r) → xs = numsB l ++ r ∧ l.length = k ∧ l.all (inB lo hi) = true ∧ ∀ n, n ∈ l → isI64 n := by
  intro k xs l r h
  obtain ⟨h1, h2, h3⟩ := readM_inv (hdR lo hi) numB (fun n => (lo ≤ n ∧ n ≤ hi) ∧ isI64 n) (fun xs x r h => by obtain ⟨a, b, c, d⟩ := hdR_inv h; exact ⟨d, ⟨a, b⟩, c⟩) k xs l r h
  exact ⟨h2, h1, List.all_eq_true.2 (fun n hn => inB_iff.2 (h3 n hn).1), fun n hn => (h3 n hn).2⟩
def hiK : Int := 9223372036854775807
def mkNd (id name : List UInt8) (a after b : List Int) (tok : Int) (v : Tr) : Nd :=
  ⟨id, name, UInt8.ofNat (a.getD 0 0).toNat, a.getD 1 0, a.getD 2 0, a.getD 3 0, after, b.getD 0 0, b.getD 1 0, UInt8.ofNat (b.getD 2 0).toNat, b.getD 3 0, tok, v⟩
/-- A node. -/
def readNd (xs : List UInt8) : Option (Nd × List UInt8) :=
  (hdX 400 xs).bind fun a => (hdX 20 a.2).bind fun b => (readN fF b.2).bind fun c => (hdR 0 21 c.2).bind fun d => (readM (hdR 0 4799) d.1.toNat d.2).bind fun e => (readN fL e.2).bind fun f => (hdR 0 hiK f.2).bind fun g => (takeV' g.2).bind fun h =>
    if ndB (mkNd a.1 b.1 c.1 e.1 f.1 g.1 h.1) = true then some (mkNd a.1 b.1 c.1 e.1 f.1 g.1 h.1, h.2) else none
def mkSn (a : List Int) (tok : Int) (l : List Nd) : Sn := ⟨a.getD 0 0, a.getD 1 0, a.getD 2 0, a.getD 3 0, a.getD 4 0, a.getD 5 0, l, tok⟩
/-- A state. -/
def readSn (xs : List UInt8) : Option (Sn × List UInt8) :=
  (readN fH xs).bind fun a => (hdR 0 hiK a.2).bind fun b => (hdR 0 4800 b.2).bind fun c => (readM readNd c.1.toNat c.2).bind fun d => some (mkSn a.1 b.1 d.1, d.2)
def parseS (xs : List UInt8) : Option Sn := (readSn xs).bind fun p => if p.2 = [] then some p.1 else none
theorem u8_back (k : UInt8) : UInt8.ofNat ((k.toNat : Nat) : Int).toNat = k := by rw [Int.toNat_natCast]; simp
theorem mkNd_self (n : Nd) : mkNd n.id n.name (nF n) n.after (nL n) n.tok n.val = n := by
  unfold mkNd nF nL
  simp only [List.getD_cons_zero, List.getD_cons_succ, u8_back]
theorem mkSn_self (s : Sn) : mkSn (nH s) s.tok s.nodes = s := rfl
theorem four {l : List Int} (h : l.length = 4) : ∃ a b c d, l = [a, b, c, d] := by
  match l, h with
  | [a, b, c, d], _ => exact ⟨a, b, c, d, rfl⟩
theorem six_ {l : List Int} (h : l.length = 6) : ∃ a b c d e f, l = [a, b, c, d, e, f] := by
  match l, h with
  | [a, b, c, d, e, f], _ => exact ⟨a, b, c, d, e, f, rfl⟩
theorem isI64_u8 (k : UInt8) : isI64 (k.toNat : Int) := by have := k.toNat_lt; unfold isI64; omega
theorem nF_i64 {n : Nd} (h : ndWf n) : ∀ m, m ∈ nF n → isI64 m := by
  obtain ⟨_, _, h1, h2, h3, _⟩ := h
  intro m hm
  simp only [nF, List.mem_cons, List.not_mem_nil, or_false] at hm
  rcases hm with rfl | rfl | rfl | rfl
  · exact isI64_u8 _
  all_goals assumption
theorem nL_i64 {n : Nd} (h : ndWf n) : ∀ m, m ∈ nL n → isI64 m := by
  obtain ⟨_, _, _, _, _, h1, h2, h3, _⟩ := h
  intro m hm
  simp only [nL, List.mem_cons, List.not_mem_nil, or_false] at hm
  rcases hm with rfl | rfl | rfl | rfl
  · exact h1
  · exact h2
  · exact isI64_u8 _
  · exact h3
theorem nH_i64 {s : Sn} (h : snWf s) : ∀ m, m ∈ nH s → isI64 m := by
  obtain ⟨h1, h2, h3, h4, h5, h6, _⟩ := h
  intro m hm
  simp only [nH, List.mem_cons, List.not_mem_nil, or_false] at hm
  rcases hm with rfl | rfl | rfl | rfl | rfl | rfl
  all_goals assumption
theorem readNd_by {n : Nd} (h : ndB n = true) (hw : ndWf n) (r : List UInt8) : readNd (ndBy n ++ r) = some (n, r) := by
  obtain ⟨h1, h2, h3, h4, h5, h6, h7, h8⟩ := ndB_iff.1 h
  have hid := (idB_iff.1 h1).2.2
  have hnm : n.name.length ≤ 20 := by
    rcases h2 with h2 | h2
    · omega
    · exact (nameB_iff.1 h2).2.2
  have hw1 := nF_i64 hw
  have hw2 := nL_i64 hw
  obtain ⟨_, _, _, _, _, _, _, _, hw3, hw4, hw5⟩ := hw
  unfold readNd ndBy
  simp only [List.append_assoc]
  rw [hdX_text (by omega) (by omega), Option.bind_some]
  simp only
  rw [hdX_text (by omega) (by omega), Option.bind_some]
  simp only
  rw [readN_by fF (nF n) _ rfl h3 hw1, Option.bind_some]
  simp only
  rw [hdR_num (by omega) (by omega) (by unfold isI64; omega), Option.bind_some]
  simp only
  rw [Int.toNat_natCast]
  have := readM_by (hdR 0 4799) numB n.after (numsB (nL n) ++ (numB n.tok ++ (bytesT n.val ++ r))) (fun x hx r => by
    have := inB_iff.1 (List.all_eq_true.1 h6 x hx)
    exact hdR_num this.1 this.2 (hw5 x hx) r)
  rw [show numsB n.after = (n.after.map numB).flatten from rfl, this, Option.bind_some]
  simp only
  rw [readN_by fL (nL n) _ rfl h4 hw2, Option.bind_some]
  simp only
  rw [hdR_num h7 (by unfold hiK; unfold isI64 at hw3; omega) hw3, Option.bind_some]
  simp only
  rw [takeV_bytes h8 hw4, Option.bind_some]
  simp only
  rw [mkNd_self, if_pos h]
theorem readNd_inv {xs r : List UInt8} {n : Nd} (h : readNd xs = some (n, r)) : xs = ndBy n ++ r ∧ ndB n = true ∧ ndWf n := by
  unfold readNd at h
  obtain ⟨⟨i, r1⟩, h1, h⟩ := Option.bind_eq_some_iff.1 h
  simp only at h
  obtain ⟨⟨nm, r2⟩, h2, h⟩ := Option.bind_eq_some_iff.1 h
  simp only at h
  obtain ⟨⟨a, r3⟩, h3, h⟩ := Option.bind_eq_some_iff.1 h
  simp only at h
  obtain ⟨⟨m, r4⟩, h4, h⟩ := Option.bind_eq_some_iff.1 h
  simp only at h
  obtain ⟨⟨af, r5⟩, h5, h⟩ := Option.bind_eq_some_iff.1 h
  simp only at h
  obtain ⟨⟨b, r6⟩, h6, h⟩ := Option.bind_eq_some_iff.1 h
  simp only at h
  obtain ⟨⟨tk, r7⟩, h7, h⟩ := Option.bind_eq_some_iff.1 h
  simp only at h
  obtain ⟨⟨v, r8⟩, h8, h⟩ := Option.bind_eq_some_iff.1 h
  simp only at h
  split at h
  case isFalse => cases h
  rename_i hb
  simp only [Option.some.injEq, Prod.mk.injEq] at h
  obtain ⟨hn, rfl⟩ := h
  have e1 := (hdX_inv h1)
  have e2 := (hdX_inv h2)
  obtain ⟨e3, l3, b3, w3⟩ := readN_inv _ _ _ _ h3
  obtain ⟨g1, g2, g3, e4⟩ := hdR_inv h4
  obtain ⟨e5, l5, b5, w5⟩ := readM_num_inv _ _ _ _ _ _ h5
  obtain ⟨e6, l6, b6, w6⟩ := readN_inv _ _ _ _ h6
  obtain ⟨k1, k2, k3, e7⟩ := hdR_inv h7
  obtain ⟨e8, b8, w8⟩ := takeV_inv h8
  obtain ⟨a0, a1, a2, a3, rfl⟩ := four l3
  obtain ⟨c0, c1, c2, c3, rfl⟩ := four l6
  simp only [fF, fitB, Bool.and_true, Bool.and_eq_true, inB_iff] at b3
  simp only [fL, fitB, Bool.and_true, Bool.and_eq_true, inB_iff] at b6
  have q1 : ((UInt8.ofNat a0.toNat).toNat : Int) = a0 := by rw [UInt8.toNat_ofNat']; omega
  have q2 : ((UInt8.ofNat c2.toNat).toNat : Int) = c2 := by rw [UInt8.toNat_ofNat']; omega
  have hF : nF n = [a0, a1, a2, a3] := by rw [← hn]; unfold nF mkNd; simp only [List.getD_cons_zero, List.getD_cons_succ, q1]
  have hL : nL n = [c0, c1, c2, c3] := by rw [← hn]; unfold nL mkNd; simp only [List.getD_cons_zero, List.getD_cons_succ, q2]
  have f1 : n.id = i := by rw [← hn]; rfl
  have f2 : n.name = nm := by rw [← hn]; rfl
  have f3 : n.after = af := by rw [← hn]; rfl
  have f4 : n.tok = tk := by rw [← hn]; rfl
  have f5 : n.val = v := by rw [← hn]; rfl
  have f6 : n.flow = a1 ∧ n.owner = a2 ∧ n.place = a3 := by
    unfold nF at hF
    injection hF with _ hF; injection hF with x1 hF; injection hF with x2 hF; injection hF with x3 hF
    exact ⟨x1, x2, x3⟩
  have f7 : n.width = c0 ∧ n.quota = c1 ∧ n.fails = c3 := by
    unfold nL at hL
    injection hL with x1 hL; injection hL with x2 hL; injection hL with x3 hL; injection hL with x4 hL
    exact ⟨x1, x2, x4⟩
  refine ⟨?_, by rw [← hn]; exact hb, ?_⟩
  · unfold ndBy
    rw [hF, hL, f1, f2, f3, f4, f5]
    have hm : m = (af.length : Int) := by omega
    rw [e1.2, e2.2, e3, e4, e5, e6, e7, e8, hm]
    simp only [List.append_assoc]
  · unfold ndWf
    rw [f1, f2, f3, f4, f5, f6.1, f6.2.1, f6.2.2, f7.1, f7.2.1, f7.2.2]
    exact ⟨by have := e1.1; omega, by have := e2.1; omega, w3 _ (by simp), w3 _ (by simp), w3 _ (by simp), w6 _ (by simp), w6 _ (by simp), w6 _ (by simp), k3, w8, w5⟩
theorem readSn_by {s : Sn} (h : snB s = true) (hw : snWf s) (r : List UInt8) : readSn (snBy s ++ r) = some (s, r) := by
  obtain ⟨h1, h2, h3, h4⟩ := snB_iff.1 h
  have hH := nH_i64 hw
  obtain ⟨_, _, _, _, _, _, w1, w2⟩ := hw
  unfold readSn snBy
  simp only [List.append_assoc]
  rw [readN_by fH (nH s) _ rfl h1 hH, Option.bind_some]
  simp only
  rw [hdR_num h2 (by unfold hiK; unfold isI64 at w1; omega) w1, Option.bind_some]
  simp only
  rw [hdR_num (by omega) (by omega) (by unfold isI64; omega), Option.bind_some]
  simp only
  rw [Int.toNat_natCast, show nodesBy s.nodes = (s.nodes.map ndBy).flatten from rfl,
    readM_by readNd ndBy s.nodes r (fun x hx r => readNd_by (List.all_eq_true.1 h4 x hx) (w2 x hx) r), Option.bind_some]
  simp only
  rw [mkSn_self]
theorem readSn_inv {xs r : List UInt8} {s : Sn} (h : readSn xs = some (s, r)) : xs = snBy s ++ r ∧ snB s = true ∧ snWf s := by
  unfold readSn at h
  obtain ⟨⟨a, r1⟩, h1, h⟩ := Option.bind_eq_some_iff.1 h
  simp only at h
  obtain ⟨⟨tk, r2⟩, h2, h⟩ := Option.bind_eq_some_iff.1 h
  simp only at h
  obtain ⟨⟨m, r3⟩, h3, h⟩ := Option.bind_eq_some_iff.1 h
  simp only at h
  obtain ⟨⟨l, r4⟩, h4, h⟩ := Option.bind_eq_some_iff.1 h
  simp only [Option.some.injEq, Prod.mk.injEq] at h
  obtain ⟨hs, rfl⟩ := h
  obtain ⟨e1, l1, b1, w1⟩ := readN_inv _ _ _ _ h1
  obtain ⟨k1, k2, k3, e2⟩ := hdR_inv h2
  obtain ⟨g1, g2, g3, e3⟩ := hdR_inv h3
  obtain ⟨l4, e4, b4⟩ := readM_inv readNd ndBy (fun n => ndB n = true ∧ ndWf n) (fun xs x r h => readNd_inv h) _ _ _ _ h4
  obtain ⟨a0, a1, a2, a3, a4, a5, rfl⟩ := six_ l1
  subst hs
  have hm : m = (l.length : Int) := by omega
  refine ⟨?_, ?_, w1 a0 (by simp), w1 a1 (by simp), w1 a2 (by simp), w1 a3 (by simp), w1 a4 (by simp), w1 a5 (by simp), k3, fun n hn => (b4 n hn).2⟩
  · rw [e1, e2, e3, e4, hm]
    unfold snBy
    simp only [List.append_assoc]
    rfl
  · refine snB_iff.2 ⟨b1, k1, ?_, List.all_eq_true.2 (fun n hn => (b4 n hn).1)⟩
    show l.length ≤ 4800
    omega
theorem parseS_iff {xs : List UInt8} {s : Sn} : parseS xs = some s ↔ snB s = true ∧ snWf s ∧ xs = snBy s := by
  constructor
  · intro h
    unfold parseS at h
    obtain ⟨⟨p, r⟩, h1, h2⟩ := Option.bind_eq_some_iff.1 h
    split at h2
    · rename_i hc
      simp only at hc
      subst hc
      cases h2
      obtain ⟨e1, e2, e3⟩ := readSn_inv h1
      exact ⟨e2, e3, by rw [e1, List.append_nil]⟩
    · cases h2
  · rintro ⟨h1, h2, rfl⟩
    unfold parseS
    have := readSn_by h1 h2 []
    rw [List.append_nil] at this
    rw [this, Option.bind_some]
    simp
theorem parseS_by {s : Sn} (h : snB s = true) (hw : snWf s) : parseS (snBy s) = some s := parseS_iff.2 ⟨h, hw, rfl⟩
theorem parseS_more {s : Sn} (h : snB s = true) (hw : snWf s) {r : List UInt8} (hr : r ≠ []) : parseS (snBy s ++ r) = none := by
  cases hp : parseS (snBy s ++ r) with
  | none => rfl
  | some u =>
    obtain ⟨a1, a2, a3⟩ := parseS_iff.1 hp
    have e1 := readSn_by h hw r
    have e2 := readSn_by a1 a2 []
    rw [List.append_nil, ← a3, e1] at e2
    injection e2 with e2
    injection e2 with _ e2
    exact absurd e2 hr
/-- How long a right node's bytes are. -/
theorem ndBy_le {n : Nd} (h : ndB n = true) : (ndBy n).length ≤ 25000 := by
  obtain ⟨h1, h2, h3, h4, h5, h6, h7, h8⟩ := ndB_iff.1 h
  have hid := (idB_iff.1 h1).2.2
  have hnm : n.name.length ≤ 20 := by
    rcases h2 with h2 | h2
    · omega
    · exact (nameB_iff.1 h2).2.2
  have a1 := textB_le n.id
  have a2 := textB_le n.name
  have a3 := flat_len numB 10 (nF n) (fun x _ => numB_le x)
  have a4 := numB_le n.after.length
  have a5 := flat_len numB 10 n.after (fun x _ => numB_le x)
  have a6 := flat_len numB 10 (nL n) (fun x _ => numB_le x)
  have a7 := numB_le n.tok
  have a8 := right_bytes h8
  have l1 : (nF n).length = 4 := rfl
  have l2 : (nL n).length = 4 := rfl
  unfold ndBy numsB
  simp only [List.length_append]
  rw [l1] at a3
  rw [l2] at a6
  omega
theorem nodesBy_le {l : List Nd} (h : l.all ndB = true) : (nodesBy l).length ≤ l.length * 25000 := flat_len ndBy 25000 l (fun x hx => ndBy_le (List.all_eq_true.1 h x hx))
/-- How a node lies in cells. -/
def ndE : Elem Nd where
  sz := 16
  R w x c := (c 0 = .string (str x.id) ∧ c 1 = .string (str x.name) ∧ c 2 = .int .u8 (x.kind.toNat : Int) ∧ c 3 = .int .i64 x.flow ∧ c 4 = .int .i64 x.owner ∧ c 5 = .int .i64 x.place) ∧ intE.Row w x.after (c 6) ∧
    (c 7 = .int .i64 x.width ∧ c 8 = .int .i64 x.quota ∧ c 9 = .int .u8 (x.stand.toNat : Int) ∧ c 10 = .int .i64 x.fails ∧ c 11 = .int .i64 x.tok) ∧ Lies w x.val (.agg #[c 12, c 13, c 14, c 15]) ∧
    x.id.length ≤ 9223372036854775807 ∧ x.name.length ≤ 9223372036854775807 ∧ isI64 x.flow ∧ isI64 x.owner ∧ isI64 x.place ∧ isI64 x.width ∧ isI64 x.quota ∧ isI64 x.fails ∧ isI64 x.tok
  ext hx h := ⟨h.1, h.2.1.ext hx, h.2.2.1, h.2.2.2.1.ext hx, h.2.2.2.2⟩
  loc {w x c d} hc h := by
    obtain ⟨⟨a0, a1, a2, a3, a4, a5⟩, a6, ⟨a7, a8, a9, a10, a11⟩, a12, a13⟩ := h
    refine ⟨⟨?_, ?_, ?_, ?_, ?_, ?_⟩, ?_, ⟨?_, ?_, ?_, ?_, ?_⟩, ?_, a13⟩
    · rw [← hc 0 (by omega)]; exact a0
    · rw [← hc 1 (by omega)]; exact a1
    · rw [← hc 2 (by omega)]; exact a2
    · rw [← hc 3 (by omega)]; exact a3
    · rw [← hc 4 (by omega)]; exact a4
    · rw [← hc 5 (by omega)]; exact a5
    · rw [← hc 6 (by omega)]; exact a6
    · rw [← hc 7 (by omega)]; exact a7
    · rw [← hc 8 (by omega)]; exact a8
    · rw [← hc 9 (by omega)]; exact a9
    · rw [← hc 10 (by omega)]; exact a10
    · rw [← hc 11 (by omega)]; exact a11
    · rw [← hc 12 (by omega), ← hc 13 (by omega), ← hc 14 (by omega), ← hc 15 (by omega)]; exact a12
/-- A node's cells. -/
def ndCells (n : Nd) (d k v s l : Value) : List Value := [.string (str n.id), .string (str n.name), .int .u8 (n.kind.toNat : Int), .int .i64 n.flow, .int .i64 n.owner, .int .i64 n.place, d, .int .i64 n.width, .int .i64 n.quota, .int .u8 (n.stand.toNat : Int), .int .i64 n.fails, .int .i64 n.tok, k, v, s, l]
theorem BoxL.n16 {w : World} {b : Nat} {c0 c1 c2 c3 c4 c5 c6 c7 c8 c9 c10 c11 c12 c13 c14 c15 : Value} (h : BoxL w b [c0, c1, c2, c3, c4, c5, c6, c7, c8, c9, c10, c11, c12, c13, c14, c15]) : w.cell? ⟨b, 0, none⟩ = some c0 ∧ w.cell? ⟨b, 1, none⟩ = some c1 ∧ w.cell? ⟨b, 2, none⟩ = some c2 ∧ w.cell? ⟨b, 3, none⟩ = some c3 ∧ w.cell? ⟨b, 4, none⟩ = some c4 ∧ w.cell? ⟨b, 5, none⟩ = some c5 ∧ w.cell? ⟨b, 6, none⟩ = some c6 ∧ w.cell? ⟨b, 7, none⟩ = some c7 ∧ w.cell? ⟨b, 8, none⟩ = some c8 ∧ w.cell? ⟨b, 9, none⟩ = some c9 ∧ w.cell? ⟨b, 10, none⟩ = some c10 ∧ w.cell? ⟨b, 11, none⟩ = some c11 ∧ w.cell? ⟨b, 12, none⟩ = some c12 ∧ w.cell? ⟨b, 13, none⟩ = some c13 ∧ w.cell? ⟨b, 14, none⟩ = some c14 ∧ w.cell? ⟨b, 15, none⟩ = some c15 :=
  ⟨h.cell 0 _ rfl, h.cell 1 _ rfl, h.cell 2 _ rfl, h.cell 3 _ rfl, h.cell 4 _ rfl, h.cell 5 _ rfl, h.cell 6 _ rfl, h.cell 7 _ rfl, h.cell 8 _ rfl, h.cell 9 _ rfl, h.cell 10 _ rfl, h.cell 11 _ rfl, h.cell 12 _ rfl, h.cell 13 _ rfl, h.cell 14 _ rfl, h.cell 15 _ rfl⟩
theorem BoxL.n8 {w : World} {b : Nat} {c0 c1 c2 c3 c4 c5 c6 c7 : Value} (h : BoxL w b [c0, c1, c2, c3, c4, c5, c6, c7]) : w.cell? ⟨b, 0, none⟩ = some c0 ∧ w.cell? ⟨b, 1, none⟩ = some c1 ∧ w.cell? ⟨b, 2, none⟩ = some c2 ∧ w.cell? ⟨b, 3, none⟩ = some c3 ∧ w.cell? ⟨b, 4, none⟩ = some c4 ∧ w.cell? ⟨b, 5, none⟩ = some c5 ∧ w.cell? ⟨b, 6, none⟩ = some c6 ∧ w.cell? ⟨b, 7, none⟩ = some c7 :=
  ⟨h.cell 0 _ rfl, h.cell 1 _ rfl, h.cell 2 _ rfl, h.cell 3 _ rfl, h.cell 4 _ rfl, h.cell 5 _ rfl, h.cell 6 _ rfl, h.cell 7 _ rfl⟩
/-- A node that is handed in. -/
def NdV (w : World) (n : Nd) (v : Value) : Prop :=
  ∃ (a : Option Addr) (m c : Nat) (k N s l : Value), v = .agg (ndCells n (.slice a m c) k N s l).toArray ∧ intE.Row w n.after (.slice a m c) ∧ Lies w n.val (.agg #[k, N, s, l]) ∧
    n.id.length ≤ 9223372036854775807 ∧ n.name.length ≤ 9223372036854775807 ∧ isI64 n.flow ∧ isI64 n.owner ∧ isI64 n.place ∧ isI64 n.width ∧ isI64 n.quota ∧ isI64 n.fails ∧ isI64 n.tok
theorem NdV.ext {w w' : World} {n : Nd} {v : Value} (h : NdV w n v) (hE : Ext w w') : NdV w' n v := by
  obtain ⟨a, m, c, k, N, s, l, h1, h2, h3, h4⟩ := h
  exact ⟨a, m, c, k, N, s, l, h1, h2.ext hE, h3.ext hE, h4⟩
theorem intRow_i64 {w : World} {l : List Int} {v : Value} (h : intE.Row w l v) : ∀ i, i ∈ l → isI64 i := by
  obtain ⟨a, cap, hv, h1, h2, h3, C, h4, h5⟩ := h
  intro i hi
  obtain ⟨j, hj, rfl⟩ := List.getElem_of_mem hi
  exact (h5 j hj).2
theorem NdV.wf {w : World} {n : Nd} {v : Value} (h : NdV w n v) : ndWf n := by
  obtain ⟨a, m, c, k, N, s, l, h1, h2, h3, h4, h5, h6, h7, h8, h9, h10, h11, h12⟩ := h
  exact ⟨h4, h5, h6, h7, h8, h9, h10, h11, h12, h3.nums, intRow_i64 h2⟩
/-- A state that is handed in. -/
def SnV (w : World) (s : Sn) (v : Value) : Prop :=
  ∃ (a : Option Addr) (m c : Nat), v = .agg #[.int .i64 s.cq, .int .i64 s.cd, .int .i64 s.cw, .int .i64 s.cr, .int .i64 s.cf, .int .i64 s.flows, .slice a m c, .int .i64 s.tok] ∧ ndE.Row w s.nodes (.slice a m c) ∧
    isI64 s.cq ∧ isI64 s.cd ∧ isI64 s.cw ∧ isI64 s.cr ∧ isI64 s.cf ∧ isI64 s.flows ∧ isI64 s.tok
theorem SnV.ext {w w' : World} {s : Sn} {v : Value} (h : SnV w s v) (hE : Ext w w') : SnV w' s v := by
  obtain ⟨a, m, c, h1, h2, h3⟩ := h
  exact ⟨a, m, c, h1, h2.ext hE, h3⟩
/-- An element of a slice of nodes, in a world that has grown. -/
theorem nd_at {w wr : World} {l : List Nd} {a : Option Addr} {n cap : Nat} (h : ndE.Row w l (.slice a n cap)) (hE : Ext w wr) (i : Nat) (hi : i < l.length) :
    ∃ (b off : Nat), a = some ⟨b, off, none⟩ ∧ b < w.heap.size ∧ ∃ (aa : Option Addr) (m c : Nat) (k N s d : Value), (∀ j v, (ndCells l[i] (.slice aa m c) k N s d)[j]? = some v → wr.cell? ⟨b, off + (i * 16 + j), none⟩ = some v) ∧
      NdV w l[i] (.agg (ndCells l[i] (.slice aa m c) k N s d).toArray) := by
  obtain ⟨hn, b, off, ha, hb, hc⟩ := h.at (by omega)
  obtain ⟨c, hR, hcell⟩ := hc i hi
  obtain ⟨⟨a0, a1, a2, a3, a4, a5⟩, a6, ⟨a7, a8, a9, a10, a11⟩, a12, a13⟩ := hR
  obtain ⟨aa, cc, e2, _⟩ := a6.slice
  refine ⟨b, off, ha, hb, aa, l[i].after.length, cc, c 12, c 13, c 14, c 15, fun j v hj => ?_, aa, _, cc, c 12, c 13, c 14, c 15, rfl, by rw [← e2]; exact a6, a12, a13⟩
  have hj16 : j < 16 := by
    have : j < (ndCells l[i] (.slice aa l[i].after.length cc) (c 12) (c 13) (c 14) (c 15)).length := by
      rcases Nat.lt_or_ge j (ndCells l[i] (.slice aa l[i].after.length cc) (c 12) (c 13) (c 14) (c 15)).length with h | h
      · exact h
      · rw [List.getElem?_eq_none h] at hj; cases hj
    exact this
  have := hcell j hj16 wr hE
  refine this.trans ?_
  rw [← hj]
  rcases (by omega : j = 0 ∨ j = 1 ∨ j = 2 ∨ j = 3 ∨ j = 4 ∨ j = 5 ∨ j = 6 ∨ j = 7 ∨ j = 8 ∨ j = 9 ∨ j = 10 ∨ j = 11 ∨ j = 12 ∨ j = 13 ∨ j = 14 ∨ j = 15) with rfl | rfl | rfl | rfl | rfl | rfl | rfl | rfl | rfl | rfl | rfl | rfl | rfl | rfl | rfl | rfl
  · rw [a0]; rfl
  · rw [a1]; rfl
  · rw [a2]; rfl
  · rw [a3]; rfl
  · rw [a4]; rfl
  · rw [a5]; rfl
  · rw [e2]; rfl
  · rw [a7]; rfl
  · rw [a8]; rfl
  · rw [a9]; rfl
  · rw [a10]; rfl
  · rw [a11]; rfl
  all_goals rfl
/-- The same, cell by cell. -/
theorem nd_at16 {w wr : World} {l : List Nd} {a : Option Addr} {n cap : Nat} (h : ndE.Row w l (.slice a n cap)) (hE : Ext w wr) (i : Nat) (hi : i < l.length) :
    ∃ (b off : Nat), a = some ⟨b, off, none⟩ ∧ b < w.heap.size ∧ ∃ (aa : Option Addr) (m c : Nat) (k N s d : Value), (wr.cell? ⟨b, off + i * 16, none⟩ = some (.string (str l[i].id)) ∧ wr.cell? ⟨b, off + i * 16 + 1, none⟩ = some (.string (str l[i].name)) ∧ wr.cell? ⟨b, off + i * 16 + 2, none⟩ = some (.int .u8 (l[i].kind.toNat : Int)) ∧ wr.cell? ⟨b, off + i * 16 + 3, none⟩ = some (.int .i64 l[i].flow) ∧ wr.cell? ⟨b, off + i * 16 + 4, none⟩ = some (.int .i64 l[i].owner) ∧ wr.cell? ⟨b, off + i * 16 + 5, none⟩ = some (.int .i64 l[i].place) ∧ wr.cell? ⟨b, off + i * 16 + 6, none⟩ = some (.slice aa m c) ∧ wr.cell? ⟨b, off + i * 16 + 7, none⟩ = some (.int .i64 l[i].width) ∧ wr.cell? ⟨b, off + i * 16 + 8, none⟩ = some (.int .i64 l[i].quota) ∧ wr.cell? ⟨b, off + i * 16 + 9, none⟩ = some (.int .u8 (l[i].stand.toNat : Int)) ∧ wr.cell? ⟨b, off + i * 16 + 10, none⟩ = some (.int .i64 l[i].fails) ∧ wr.cell? ⟨b, off + i * 16 + 11, none⟩ = some (.int .i64 l[i].tok) ∧ wr.cell? ⟨b, off + i * 16 + 12, none⟩ = some (k) ∧ wr.cell? ⟨b, off + i * 16 + 13, none⟩ = some (N) ∧ wr.cell? ⟨b, off + i * 16 + 14, none⟩ = some (s) ∧ wr.cell? ⟨b, off + i * 16 + 15, none⟩ = some (d)) ∧
      NdV w l[i] (.agg (ndCells l[i] (.slice aa m c) k N s d).toArray) := by
  obtain ⟨b, off, ha, hb, aa, m, c, k, N, s, d, h1, h2⟩ := nd_at h hE i hi
  refine ⟨b, off, ha, hb, aa, m, c, k, N, s, d, ⟨?_, ?_, ?_, ?_, ?_, ?_, ?_, ?_, ?_, ?_, ?_, ?_, ?_, ?_, ?_, ?_⟩, h2⟩
  · have := h1 0 _ rfl; rw [show off + (i * 16 + 0) = off + i * 16 by omega] at this; exact this
  · have := h1 1 _ rfl; rw [show off + (i * 16 + 1) = off + i * 16 + 1 by omega] at this; exact this
  · have := h1 2 _ rfl; rw [show off + (i * 16 + 2) = off + i * 16 + 2 by omega] at this; exact this
  · have := h1 3 _ rfl; rw [show off + (i * 16 + 3) = off + i * 16 + 3 by omega] at this; exact this
  · have := h1 4 _ rfl; rw [show off + (i * 16 + 4) = off + i * 16 + 4 by omega] at this; exact this
  · have := h1 5 _ rfl; rw [show off + (i * 16 + 5) = off + i * 16 + 5 by omega] at this; exact this
  · have := h1 6 _ rfl; rw [show off + (i * 16 + 6) = off + i * 16 + 6 by omega] at this; exact this
  · have := h1 7 _ rfl; rw [show off + (i * 16 + 7) = off + i * 16 + 7 by omega] at this; exact this
  · have := h1 8 _ rfl; rw [show off + (i * 16 + 8) = off + i * 16 + 8 by omega] at this; exact this
  · have := h1 9 _ rfl; rw [show off + (i * 16 + 9) = off + i * 16 + 9 by omega] at this; exact this
  · have := h1 10 _ rfl; rw [show off + (i * 16 + 10) = off + i * 16 + 10 by omega] at this; exact this
  · have := h1 11 _ rfl; rw [show off + (i * 16 + 11) = off + i * 16 + 11 by omega] at this; exact this
  · have := h1 12 _ rfl; rw [show off + (i * 16 + 12) = off + i * 16 + 12 by omega] at this; exact this
  · have := h1 13 _ rfl; rw [show off + (i * 16 + 13) = off + i * 16 + 13 by omega] at this; exact this
  · have := h1 14 _ rfl; rw [show off + (i * 16 + 14) = off + i * 16 + 14 by omega] at this; exact this
  · have := h1 15 _ rfl; rw [show off + (i * 16 + 15) = off + i * 16 + 15 by omega] at this; exact this
theorem NdRow.nums {w : World} {l : List Nd} {v : Value} (h : ndE.Row w l v) : ∀ n, n ∈ l → ndWf n := by
  obtain ⟨a, cap, hv, _⟩ := h.slice
  subst hv
  intro n hn
  obtain ⟨j, hj, rfl⟩ := List.getElem_of_mem hn
  obtain ⟨_, _, _, _, _, _, _, _, _, _, _, _, h2⟩ := nd_at h (Ext.refl w) j hj
  exact h2.wf
theorem SnV.wf {w : World} {s : Sn} {v : Value} (h : SnV w s v) : snWf s := by
  obtain ⟨a, m, c, h1, h2, h3, h4, h5, h6, h7, h8, h9⟩ := h
  exact ⟨h3, h4, h5, h6, h7, h8, h9, NdRow.nums h2⟩
/-! ### fields: a number in a cell, from where to where it may be -/
structure Fld where
  b : Nat
  off : Nat
  lo : Int
  hi : Int
def fdE : Elem Fld where
  sz := 3
  R _ x c := c 0 = .pointer (some ⟨x.b, x.off, none⟩) ∧ c 1 = .int .i64 x.lo ∧ c 2 = .int .i64 x.hi
  ext _ h := h
  loc hc h := ⟨(hc 0 (by omega)).symm.trans h.1, (hc 1 (by omega)).symm.trans h.2.1, (hc 2 (by omega)).symm.trans h.2.2⟩
theorem fd_at {w wr : World} {l : List Fld} {a : Option Addr} {n cap : Nat} (h : fdE.Row w l (.slice a n cap)) (hE : Ext w wr) (i : Nat) (hi : i < l.length) :
    ∃ (b off : Nat), a = some ⟨b, off, none⟩ ∧ b < w.heap.size ∧ wr.cell? ⟨b, off + i * 3, none⟩ = some (.pointer (some ⟨l[i].b, l[i].off, none⟩)) ∧ wr.cell? ⟨b, off + i * 3 + 1, none⟩ = some (.int .i64 l[i].lo) ∧ wr.cell? ⟨b, off + i * 3 + 2, none⟩ = some (.int .i64 l[i].hi) := by
  obtain ⟨hn, b, off, ha, hb, hc⟩ := h.at (by omega)
  obtain ⟨c, ⟨r0, r1, r2⟩, hcell⟩ := hc i hi
  refine ⟨b, off, ha, hb, ?_, ?_, ?_⟩
  · have := hcell 0 (by decide) wr hE; rw [r0] at this; exact this
  · have := hcell 1 (by decide) wr hE; rw [r1] at this; exact this
  · have := hcell 2 (by decide) wr hE; rw [r2] at this; exact this
/-- An element of a slice of numbers. -/
theorem int_at {w wr : World} {l : List Int} {a : Option Addr} {n cap : Nat} (h : intE.Row w l (.slice a n cap)) (hE : Ext w wr) (i : Nat) (hi : i < l.length) :
    ∃ (b off : Nat), a = some ⟨b, off, none⟩ ∧ b < w.heap.size ∧ wr.cell? ⟨b, off + i, none⟩ = some (.int .i64 l[i]) ∧ isI64 l[i] := by
  obtain ⟨hn, b, off, ha, hb, hc⟩ := h.at (by omega)
  obtain ⟨c, ⟨r0, r1⟩, hcell⟩ := hc i hi
  refine ⟨b, off, ha, hb, ?_, r1⟩
  have := hcell 0 (by decide) wr hE
  rw [r0] at this
  have e : i * intE.sz + 0 = i := by show i * 1 + 0 = i; omega
  rw [e] at this
  exact this
/-- The numbers that fields are of. -/
def Pts (w : World) (fs : List Fld) (ns : List Int) : Prop :=
  ns.length = fs.length ∧ ∀ (i : Nat) (hi : i < fs.length) (hn : i < ns.length), w.cell? ⟨fs[i].b, fs[i].off, none⟩ = some (.int .i64 ns[i]) ∧ fs[i].b < w.heap.size ∧ isI64 ns[i]
theorem Pts.ext {w w' : World} {fs : List Fld} {ns : List Int} (h : Pts w fs ns) (hE : Ext w w') : Pts w' fs ns :=
  ⟨h.1, fun i hi hn => by
    obtain ⟨a, b, c⟩ := h.2 i hi hn
    exact ⟨(hE.cell (p := ⟨fs[i].b, fs[i].off, none⟩) b).trans a, Nat.lt_of_lt_of_le b hE.size, c⟩⟩
theorem Pts.nil (w : World) : Pts w [] [] := ⟨rfl, fun i hi => by simp at hi⟩
theorem Pts.cons {w : World} {f : Fld} {fs : List Fld} {n : Int} {ns : List Int} (h1 : w.cell? ⟨f.b, f.off, none⟩ = some (.int .i64 n)) (h2 : f.b < w.heap.size) (h3 : isI64 n) (h : Pts w fs ns) : Pts w (f :: fs) (n :: ns) := by
  refine ⟨by simp [h.1], fun i hi hn => ?_⟩
  cases i with
  | zero => exact ⟨h1, h2, h3⟩
  | succ i => exact h.2 i (by simpa using hi) (by simpa using hn)
def bnd (f : Fld) : Int × Int := (f.lo, f.hi)
theorem fitB_any : ∀ (fs : List Fld) (ns : List Int), ns.length = fs.length → (fitB (fs.map bnd) ns = true ↔ ∀ (i : Nat) (hi : i < fs.length) (hn : i < ns.length), inB fs[i].lo fs[i].hi ns[i] = true)
  | [], ns, h => by
    cases ns with
    | nil => exact ⟨fun _ i hi => by simp at hi, fun _ => rfl⟩
    | cons _ _ => simp at h
  | f :: fs, [], h => by simp at h
  | f :: fs, n :: ns, h => by
    rw [List.map_cons, fitB, Bool.and_eq_true, fitB_any fs ns (by simpa using h)]
    constructor
    · rintro ⟨a, b⟩ i hi hn
      cases i with
      | zero => exact a
      | succ i => exact b i (by simpa using hi) (by simpa using hn)
    · intro k
      refine ⟨k 0 (by simp) (by simp), fun i hi hn => ?_⟩
      exact k (i + 1) (by simpa using hi) (by simpa using hn)
def headF (b : Nat) : List Fld := [⟨b, 0, 0, 400⟩, ⟨b, 1, 0, 12⟩, ⟨b, 2, 0, 40⟩, ⟨b, 3, 0, 9⟩, ⟨b, 4, 0, 12⟩, ⟨b, 5, 0, 12⟩]
def firstF (n k : Nat) : List Fld := [⟨k, 0, 0, 2⟩, ⟨n, 3, 0, 12⟩, ⟨n, 4, -1, 4799⟩, ⟨n, 5, -1, 999999⟩]
def lastF (n k : Nat) : List Fld := [⟨n, 7, 0, 40⟩, ⟨n, 8, 0, 400⟩, ⟨k, 1, 0, 6⟩, ⟨n, 10, 0, 10⟩]
theorem headF_bnd (b : Nat) : (headF b).map bnd = fH := rfl
theorem firstF_bnd (n k : Nat) : (firstF n k).map bnd = fF := rfl
theorem lastF_bnd (n k : Nat) : (lastF n k).map bnd = fL := rfl
def fdCells (f : Fld) : List Value := [.pointer (some ⟨f.b, f.off, none⟩), .int .i64 f.lo, .int .i64 f.hi]
def fdsCells (fs : List Fld) : List Value := (fs.map fdCells).flatten
theorem fdsCells_at : ∀ (fs : List Fld) (i j : Nat) (hi : i < fs.length), j < 3 → (fdsCells fs)[i * 3 + j]? = (fdCells fs[i])[j]?
  | [], i, _, hi, _ => by simp at hi
  | f :: fs, 0, j, _, hj => by
    unfold fdsCells
    rw [List.map_cons, List.flatten_cons, List.getElem?_append_left (by simp [fdCells]; omega)]
    simp
  | f :: fs, i + 1, j, hi, hj => by
    have ih := fdsCells_at fs i j (by simpa using hi) hj
    unfold fdsCells at ih ⊢
    rw [List.map_cons, List.flatten_cons, List.getElem?_append_right (by simp [fdCells]; omega)]
    have e : (i + 1) * 3 + j - (fdCells f).length = i * 3 + j := by simp [fdCells]; omega
    rw [e, ih]
    simp
theorem fdRow_new (w : World) (fs : List Fld) (e : TypeId) (hl : fs.length ≤ 1000) : fdE.Row (w.alloc (.cells (fdsCells fs).toArray e)) fs (.slice (some ⟨w.heap.size, 0, none⟩) fs.length fs.length) := by
  refine Elem.Row.mk rfl (Nat.le_refl _) (by unfold maxLen; omega) (by simp) (fun i hi => ⟨fun j => (fdCells fs[i]).getD j .nilFunc, ⟨rfl, rfl, rfl⟩, fun j hj => ?_⟩)
  have hj3 : j < 3 := hj
  have := heap_alloc_new w (.cells (fdsCells fs).toArray e)
  simp only [World.cell?, this]
  have h2 := fdsCells_at fs i j hi hj3
  rw [List.getElem?_eq_getElem (l := fdCells fs[i]) (by simp [fdCells]; omega)] at h2
  simp only [Nat.zero_add]
  show (fdsCells fs).toArray[i * 3 + j]? = _
  rw [List.getElem?_toArray, h2, List.getD_eq_getElem?_getD, List.getElem?_eq_getElem (by simp [fdCells]; omega)]
  rfl
/-- Fields that are told. -/
def FdsPost (w : World) (fs : List Fld) (e : Ending) (w' : World) : Prop :=
  ∃ v, e = .returned v ∧ fdE.Row w' fs v ∧ Ext w w'
theorem FdsPost.new (w w2 : World) (fs : List Fld) (e : TypeId) (h : Ext w w2) (hl : fs.length ≤ 1000) : FdsPost w fs (.returned (.slice (some ⟨w2.heap.size, 0, none⟩) fs.length fs.length)) (w2.alloc (.cells (fdsCells fs).toArray e)) :=
  ⟨_, rfl, fdRow_new w2 fs e hl, h.alloc _⟩
theorem eqNd_refl (n : Nd) : eqNd n n = true := eqNd_iff.2 rfl
theorem eqNd_all (o p : Nd) : eqNd o p = (decide (o.id = p.id) && (decide (o.name = p.name) && (decide (o.kind = p.kind) && (decide (o.flow = p.flow) && (decide (o.owner = p.owner) && (decide (o.place = p.place) && (decide (o.after = p.after) && (decide (o.width = p.width) && (decide (o.quota = p.quota) && (decide (o.stand = p.stand) && (decide (o.fails = p.fails) && (decide (o.tok = p.tok) && eqT o.val p.val)))))))))))) := by
  obtain ⟨a1, a2, a3, a4, a5, a6, a7, a8, a9, a10, a11, a12, a13⟩ := o
  obtain ⟨b1, b2, b3, b4, b5, b6, b7, b8, b9, b10, b11, b12, b13⟩ := p
  rw [Bool.eq_iff_iff, eqNd_iff]
  simp only [Bool.and_eq_true, decide_eq_true_eq, eqT_iff, Nd.mk.injEq]
noncomputable def eqNds (l m : List Nd) : Bool := @decide (l = m) (Classical.propDecidable _)
theorem eqNds_iff {l m : List Nd} : eqNds l m = true ↔ l = m := by unfold eqNds; exact @decide_eq_true_iff _ (Classical.propDecidable _)
theorem eqNds_ne {l m : List Nd} (h : l ≠ m) : eqNds l m = false := by
  cases e : eqNds l m with
  | false => rfl
  | true => exact absurd (eqNds_iff.1 e) h
theorem eqSn_refl (s : Sn) : eqSn s s = true := eqSn_iff.2 rfl
theorem eqSn_all (o p : Sn) : eqSn o p = (decide (o.cq = p.cq) && (decide (o.cd = p.cd) && (decide (o.cw = p.cw) && (decide (o.cr = p.cr) && (decide (o.cf = p.cf) && (decide (o.flows = p.flows) && (decide (o.tok = p.tok) && eqNds o.nodes p.nodes))))))) := by
  obtain ⟨a1, a2, a3, a4, a5, a6, a7, a8⟩ := o
  obtain ⟨b1, b2, b3, b4, b5, b6, b7, b8⟩ := p
  rw [Bool.eq_iff_iff, eqSn_iff]
  simp only [Bool.and_eq_true, decide_eq_true_eq, eqNds_iff, Sn.mk.injEq]
  constructor
  · rintro ⟨h1, h2, h3, h4, h5, h6, h7, h8⟩; exact ⟨h1, h2, h3, h4, h5, h6, h8, h7⟩
  · rintro ⟨h1, h2, h3, h4, h5, h6, h8, h7⟩; exact ⟨h1, h2, h3, h4, h5, h6, h7, h8⟩
theorem int_beq (a b : Int) : (a == b) = decide (a = b) := by rw [Bool.eq_iff_iff]; simp
/-- A value's four cells. -/
theorem lies_four {w : World} {t : Tr} {k N s l : Value} (h : Lies w t (.agg #[k, N, s, l])) : ∃ (kk nn : Int) (ss : ByteArray) (va : Option Addr) (vm vc : Nat), k = .int .u8 kk ∧ N = .int .i64 nn ∧ s = .string ss ∧ l = .slice va vm vc := by
  cases h; exact ⟨_, _, _, _, _, _, rfl, rfl, rfl, rfl⟩
theorem NdV.four {w : World} {n : Nd} {d k N s l : Value} (h : NdV w n (.agg (ndCells n d k N s l).toArray)) : ∃ (kk nn : Int) (ss : ByteArray) (va : Option Addr) (vm vc : Nat), k = .int .u8 kk ∧ N = .int .i64 nn ∧ s = .string ss ∧ l = .slice va vm vc := by
  obtain ⟨a, m, c, k', N', s', l', h1, h2, h3, h4⟩ := h
  simp only [ndCells] at h1
  injection h1 with h1
  injection h1 with h1
  simp only [List.cons.injEq, and_true] at h1
  obtain ⟨-, -, -, -, -, -, -, -, -, -, -, -, rfl, rfl, rfl, rfl⟩ := h1
  exact lies_four h3
theorem ndCells_one {n : Nd} {a : Option Addr} {m c : Nat} {kk nn : Int} {ss : ByteArray} {va : Option Addr} {vm vc : Nat} : ∀ u, u ∈ ndCells n (.slice a m c) (.int .u8 kk) (.int .i64 nn) (.string ss) (.slice va vm vc) → u.oneCell' = true := by
  intro u hu
  simp only [ndCells, List.mem_cons, List.not_mem_nil, or_false] at hu
  rcases hu with rfl | rfl | rfl | rfl | rfl | rfl | rfl | rfl | rfl | rfl | rfl | rfl | rfl | rfl | rfl | rfl <;> rfl
/-- A node's cells as they lie, whatever they are. -/
theorem nd_op {w wr : World} {l : List Nd} {a : Option Addr} {n cap : Nat} (h : ndE.Row w l (.slice a n cap)) (hE : Ext w wr) (i : Nat) (hi : i < l.length) :
    ∃ (b off : Nat), a = some ⟨b, off, none⟩ ∧ b < w.heap.size ∧ ∃ C : List Value, C.length = 16 ∧ (∀ u, u ∈ C → u.oneCell' = true) ∧ (∀ j v, C[j]? = some v → wr.cell? ⟨b, off + i * 16 + j, none⟩ = some v) ∧ NdV w l[i] (.agg C.toArray) := by
  obtain ⟨b, off, ha, hb, aa, m, c, k, N, s, d, h1, h2⟩ := nd_at h hE i hi
  obtain ⟨kk, nn, ss, va, vm, vc, rfl, rfl, rfl, rfl⟩ := h2.four
  exact ⟨b, off, ha, hb, _, rfl, ndCells_one, fun j v hv => by rw [Nat.add_assoc]; exact h1 j v hv, h2⟩
end Fm

open Go.RowKit
namespace Fm
open Go Go.RowKit
/-- 'x := v' of a struct, the cells whatever: the box was made last. -/
theorem wpList_storeBox {P : Program} {ops : Array Oper} {rest : List Oper} {op : Oper} {a : Act} {w : World} {Q : Exit → Act → World → Prop} (hgd : op.guard = none) (ty : TypeId) (x y : Operand) (ho : op.op = .store ty x y)
    (w0 : World) (c : Array Value) (cs : List Value) (b : Nat) (hw : w = w0.alloc (.cells c ty)) (hb : b = w0.heap.size) (hx : a.eval x = .pointer (some ⟨b, 0, none⟩)) (hy : a.eval y = .agg cs.toArray)
    {n : Nat} (hi : (P.info? ty).map (·.size) = some n) (hc : c.size = n) (hn : cs.length = n) (h1 : ∀ u, u ∈ cs → u.oneCell' = true)
    (h : wpList P ops Q rest (a.put op.dst undef) (w0.alloc (.cells cs.toArray ty))) : wpList P ops Q (op :: rest) a w :=
  wpList_plain hgd fun _ hK => by
    subst hw hb hn
    unfold Oper.wp execOp
    simp only [ho, hx, hy, Instr.storeAt, Instr.sureAddr, Sem.run_bind, Sem.run_pure, Result.andThen_ok, run_storeVar_new w0 ty c cs.toArray (by simpa using hi) (by simpa using hc) (all_oneCell_toArray h1)]
    exact hK _ _ h
theorem rangeAt_new (w : World) (cs : List Value) (e : TypeId) : (w.alloc (.cells cs.toArray e)).rangeAt w.heap.size 0 cs := fun j v hv => by
  rw [Nat.zero_add]; exact (BoxL.new w cs e).cell j v hv
theorem rangeAt_ext {w w' : World} {b o : Nat} {cs : List Value} (h : w.rangeAt b o cs) (hE : Ext w w') (hb : b < w.heap.size) : w'.rangeAt b o cs := fun j v hv => (hE.cell (p := ⟨b, o + j, none⟩) hb).trans (h j v hv)
end Fm
