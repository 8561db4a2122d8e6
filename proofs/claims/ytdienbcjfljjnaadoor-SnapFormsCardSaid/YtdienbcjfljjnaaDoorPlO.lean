/- Operations: plain facts: which are right, their bytes, what is read. No program is imported. -/
import Derived.Test.YtdienbcjfljjnaaDoorPlF
namespace Fm
open Go Go.RowKit

/-- An operation. -/
structure Opn where
  what : UInt8
  id : List UInt8
  tok : Int
  val : Tr
  frg : List It
  quo : Int

/-- An id's text. -/
def idC (c : UInt8) : Bool := decide (33 ≤ c.toNat) && decide (c.toNat ≤ 126)
def idB (s : List UInt8) : Bool := s.all idC && decide (1 ≤ s.length) && decide (s.length ≤ 400)
theorem idB_iff {s : List UInt8} : idB s = true ↔ (∀ c, c ∈ s → idC c = true) ∧ 1 ≤ s.length ∧ s.length ≤ 400 := by
  simp only [idB, Bool.and_eq_true, decide_eq_true_eq, List.all_eq_true, and_assoc]
def zT : Tr := .node 0 0 [] []
theorem NumsT_zT : NumsT zT := .node 0 0 [] [] (by unfold isI64; omega) (fun t h => by cases h)
/-- What is of a kind. -/
def oF (k : UInt8) : Bool := decide (k = 1) || decide (k = 3)
def oQ (k : UInt8) : Bool := decide (k = 1)
def oI (k : UInt8) : Bool := decide (k = 2) || decide (k = 3) || decide (k = 4) || decide (k = 5)
def oT (k : UInt8) : Bool := decide (k = 3) || decide (k = 4)
def oV (k : UInt8) : Bool := decide (k = 3)
/-- The same, as a table's bits. -/
def oN (k : UInt8) : Int := if k = 1 then 3 else if k = 2 then 4 else if k = 3 then 29 else if k = 4 then 12 else if k = 5 then 4 else 0
def oK (k : UInt8) : Bool := decide (1 ≤ k.toNat) && decide (k.toNat ≤ 5)
noncomputable def rightO (o : Opn) : Bool :=
  oK o.what && (bif oF o.what then fragB o.frg else decide (o.frg.length = 0)) && (bif oQ o.what then decide (0 ≤ o.quo) && decide (o.quo ≤ 400) else decide (o.quo = 0)) &&
    (bif oI o.what then idB o.id else decide (o.id.length = 0)) && (bif oT o.what then decide (1 ≤ o.tok) else decide (o.tok = 0)) && (bif oV o.what then rightT o.val else eqT o.val zT)
noncomputable def eqO (o p : Opn) : Bool := @decide (o = p) (Classical.propDecidable _)
theorem eqO_iff {o p : Opn} : eqO o p = true ↔ o = p := by unfold eqO; exact @decide_eq_true_iff _ (Classical.propDecidable _)
theorem eqO_refl (o : Opn) : eqO o o = true := eqO_iff.2 rfl
theorem eqO_all (o p : Opn) : eqO o p = (decide (o.what = p.what) && decide (o.id = p.id) && decide (o.tok = p.tok) && decide (o.quo = p.quo) && eqT o.val p.val && eqF o.frg p.frg) := by
  obtain ⟨a, b, c, d, e, f⟩ := o
  obtain ⟨a', b', c', d', e', f'⟩ := p
  rw [Bool.eq_iff_iff, eqO_iff]
  simp only [Bool.and_eq_true, decide_eq_true_eq, eqT_iff, eqF_iff]
  constructor
  · intro h; injection h with h1 h2 h3 h4 h5 h6; exact ⟨⟨⟨⟨⟨h1, h2⟩, h3⟩, h6⟩, h4⟩, h5⟩
  · rintro ⟨⟨⟨⟨⟨rfl, rfl⟩, rfl⟩, rfl⟩, rfl⟩, rfl⟩; rfl
/-- Numbers that 64 bits hold. -/
def opWf (o : Opn) : Prop := o.id.length ≤ 9223372036854775807 ∧ isI64 o.tok ∧ NumsT o.val ∧ isI64 o.quo

/-- An operation's bytes. -/
def opTail (o : Opn) : List UInt8 := (bif oI o.what then textB o.id else []) ++ ((bif oT o.what then numB o.tok else []) ++ ((bif oV o.what then bytesT o.val else []) ++ ((bif oF o.what then fragBy o.frg else []) ++ (bif oQ o.what then numB o.quo else []))))
def opBy (o : Opn) : List UInt8 := numB o.what.toNat ++ opTail o

/-- What is read behind the kind. -/
def optA {α : Type} (b : Bool) (z : α) (f : List UInt8 → Option (α × List UInt8)) (xs : List UInt8) : Option (α × List UInt8) := bif b then f xs else some (z, xs)
def readP2 (k : UInt8) (xs : List UInt8) : Option (Opn × List UInt8) :=
  (optA (oI k) [] (hdX 400) xs).bind fun a => (optA (oT k) 0 hdN a.2).bind fun b => (optA (oV k) zT takeV' b.2).bind fun c => (optA (oF k) [] takeF c.2).bind fun d => (optA (oQ k) 0 hdN d.2).bind fun e =>
    some (⟨k, a.1, b.1, c.1, d.1, e.1⟩, e.2)
def readP (xs : List UInt8) : Option (Opn × List UInt8) := (hdB 5 xs).bind fun p => readP2 (UInt8.ofNat p.1.toNat) p.2
/-- What is of a kind alone. -/
def opNone (o : Opn) : Prop := (oI o.what = false → o.id = []) ∧ (oT o.what = false → o.tok = 0) ∧ (oV o.what = false → o.val = zT) ∧ (oF o.what = false → o.frg = []) ∧ (oQ o.what = false → o.quo = 0)
theorem bif_iff {b x y : Bool} : (bif b then x else y) = true ↔ (b = true → x = true) ∧ (b = false → y = true) := by cases b <;> simp
theorem rightO_iff {o : Opn} : rightO o = true ↔ oK o.what = true ∧ opNone o ∧ (oI o.what = true → idB o.id = true) ∧ (oT o.what = true → 1 ≤ o.tok) ∧ (oV o.what = true → rightT o.val = true) ∧ (oF o.what = true → fragB o.frg = true) ∧ (oQ o.what = true → 0 ≤ o.quo ∧ o.quo ≤ 400) := by
  unfold rightO opNone
  simp only [Bool.and_eq_true, bif_iff, decide_eq_true_eq, eqT_iff, List.length_eq_zero_iff]
  constructor
  · rintro ⟨⟨⟨⟨⟨h, f1, f2⟩, q1, q2⟩, i1, i2⟩, t1, t2⟩, v1, v2⟩
    exact ⟨h, ⟨i2, t2, v2, f2, q2⟩, i1, t1, v1, f1, q1⟩
  · rintro ⟨h, ⟨i2, t2, v2, f2, q2⟩, i1, t1, v1, f1, q1⟩
    exact ⟨⟨⟨⟨⟨h, f1, f2⟩, q1, q2⟩, i1, i2⟩, t1, t2⟩, v1, v2⟩
theorem optA_by {α : Type} {b : Bool} {z x : α} {f : List UInt8 → Option (α × List UInt8)} {g : List UInt8} {r : List UInt8} (h1 : b = true → f (g ++ r) = some (x, r)) (h2 : b = false → x = z) :
    optA b z f ((bif b then g else []) ++ r) = some (x, r) := by
  cases b with
  | true => exact h1 rfl
  | false => rw [h2 rfl]; rfl
theorem optA_app {α : Type} {b : Bool} {z x : α} {f : List UInt8 → Option (α × List UInt8)} (g : α → List UInt8) {xs r : List UInt8} (h : optA b z f xs = some (x, r)) (hf : f xs = some (x, r) → xs = g x ++ r) : xs = (bif b then g x else []) ++ r := by
  cases b with
  | true => exact hf h
  | false => cases h; rfl
theorem optA_no {α : Type} {b : Bool} {z x : α} {f : List UInt8 → Option (α × List UInt8)} {xs r : List UInt8} (h : optA b z f xs = some (x, r)) (hb : b = false) : x = z := by
  subst hb; cases h; rfl
theorem optA_yes {α : Type} {b : Bool} {z x : α} {f : List UInt8 → Option (α × List UInt8)} {xs r : List UInt8} (P : α → Prop) (h : optA b z f xs = some (x, r)) (hz : P z) (hf : f xs = some (x, r) → P x) : P x := by
  cases b with
  | true => exact hf h
  | false => cases h; exact hz
theorem kind_of {k : UInt8} : UInt8.ofNat ((k.toNat : Nat) : Int).toNat = k := by rw [Int.toNat_natCast]; simp
theorem readP_by {o : Opn} (h : rightO o = true) (hw : opWf o) (r : List UInt8) : readP (opBy o ++ r) = some (o, r) := by
  obtain ⟨h1, ⟨n1, n2, n3, n4, n5⟩, hi, ht, hv, hf, hq⟩ := rightO_iff.1 h
  obtain ⟨w1, w2, w3, w4⟩ := hw
  simp only [oK, Bool.and_eq_true, decide_eq_true_eq] at h1
  unfold readP opBy
  rw [List.append_assoc, hdB_num (by omega) (by omega) (by omega), Option.bind_some]
  simp only
  rw [kind_of]
  unfold readP2 opTail
  simp only [List.append_assoc]
  rw [optA_by (x := o.id) (fun hb => hdX_text (by have := (idB_iff.1 (hi hb)).2.2; omega) (by have := (idB_iff.1 (hi hb)).2.2; omega) _) n1, Option.bind_some]
  simp only
  rw [optA_by (x := o.tok) (fun _ => hdN_num w2 _) n2, Option.bind_some]
  simp only
  rw [optA_by (x := o.val) (fun hb => takeV_bytes (hv hb) w3 _) n3, Option.bind_some]
  simp only
  rw [optA_by (x := o.frg) (fun hb => takeF_by (hf hb) _) n4, Option.bind_some]
  simp only
  rw [optA_by (x := o.quo) (fun _ => hdN_num w4 _) n5, Option.bind_some]
theorem hdX_len {top : Int} {xs s r : List UInt8} (h : hdX top xs = some (s, r)) (ht : top ≤ 1000000) : s.length ≤ 1000000 := by have := (hdX_inv h).1; omega
theorem readP_inv {xs r : List UInt8} {o : Opn} (h : readP xs = some (o, r)) : xs = opBy o ++ r ∧ o.what.toNat ≤ 5 ∧ opWf o ∧ opNone o := by
  unfold readP at h
  obtain ⟨⟨n, ys⟩, hb, h⟩ := Option.bind_eq_some_iff.1 h
  obtain ⟨b1, b2, -, e0⟩ := hdB_inv hb
  simp only at h
  obtain ⟨k, hk⟩ : ∃ k, k = UInt8.ofNat n.toNat := ⟨_, rfl⟩
  have hkn : (k.toNat : Int) = n := by rw [hk, UInt8.toNat_ofNat']; omega
  rw [← hk] at h
  unfold readP2 at h
  obtain ⟨⟨i, r1⟩, h1, h⟩ := Option.bind_eq_some_iff.1 h
  simp only at h
  obtain ⟨⟨t, r2⟩, h2, h⟩ := Option.bind_eq_some_iff.1 h
  simp only at h
  obtain ⟨⟨v, r3⟩, h3, h⟩ := Option.bind_eq_some_iff.1 h
  simp only at h
  obtain ⟨⟨f, r4⟩, h4, h⟩ := Option.bind_eq_some_iff.1 h
  simp only at h
  obtain ⟨⟨q, r5⟩, h5, h⟩ := Option.bind_eq_some_iff.1 h
  simp only [Option.some.injEq, Prod.mk.injEq] at h
  obtain ⟨rfl, rfl⟩ := h
  have z1 : NumsT zT := NumsT_zT
  have e1 := optA_app textB h1 (fun g => (hdX_inv g).2)
  have e2 := optA_app numB h2 (fun g => (hdN_inv g).2)
  have e3 := optA_app bytesT h3 (fun g => (takeV_inv g).1)
  have e4 := optA_app fragBy h4 (fun g => (takeF_inv g).1)
  have e5 := optA_app numB h5 (fun g => (hdN_inv g).2)
  refine ⟨?_, by show k.toNat ≤ 5; omega, ⟨?_, ?_, ?_, ?_⟩, optA_no h1, optA_no h2, optA_no h3, optA_no h4, optA_no h5⟩
  · rw [e0, e1, e2, e3, e4, e5, ← hkn]
    simp only [opBy, opTail, List.append_assoc]
  · have := optA_yes (fun s : List UInt8 => s.length ≤ 1000000) h1 (by simp) (fun g => hdX_len g (by omega))
    show i.length ≤ _
    omega
  · exact optA_yes isI64 h2 (by unfold isI64; omega) (fun g => (hdN_inv g).1)
  · exact optA_yes NumsT h3 z1 (fun g => (takeV_inv g).2.2)
  · exact optA_yes isI64 h5 (by unfold isI64; omega) (fun g => (hdN_inv g).1)

/-- A record's operation. -/
noncomputable def parseO (xs : List UInt8) : Option Opn := (readP xs).bind fun p => if p.2 = [] ∧ rightO p.1 = true then some p.1 else none
theorem parseO_iff {xs : List UInt8} {o : Opn} : parseO xs = some o ↔ rightO o = true ∧ opWf o ∧ xs = opBy o := by
  constructor
  · intro h
    unfold parseO at h
    obtain ⟨⟨p, r⟩, h1, h2⟩ := Option.bind_eq_some_iff.1 h
    split at h2
    · rename_i hc
      obtain ⟨hc1, hc2⟩ := hc
      simp only at hc1 hc2
      subst hc1
      cases h2
      obtain ⟨e1, _, e3, _⟩ := readP_inv h1
      exact ⟨hc2, e3, by rw [e1, List.append_nil]⟩
    · cases h2
  · rintro ⟨h1, h2, rfl⟩
    unfold parseO
    have := readP_by h1 h2 []
    rw [List.append_nil] at this
    rw [this, Option.bind_some]
    simp [h1]
theorem parseO_by {o : Opn} (h : rightO o = true) (hw : opWf o) : parseO (opBy o) = some o := parseO_iff.2 ⟨h, hw, rfl⟩
/-- Nothing less, nothing more. -/
theorem parseO_less {o : Opn} (h : rightO o = true) (hw : opWf o) {i : Nat} (hi : i < (opBy o).length) : parseO ((opBy o).take i) = none := by
  cases hp : parseO ((opBy o).take i) with
  | none => rfl
  | some u =>
    obtain ⟨a1, a2, a3⟩ := parseO_iff.1 hp
    have e1 := readP_by h hw []
    have e2 := readP_by a1 a2 ((opBy o).drop i)
    rw [← a3, List.take_append_drop] at e2
    rw [List.append_nil, e2] at e1
    injection e1 with e1
    injection e1 with _ e1
    have := congrArg List.length e1
    rw [List.length_drop, List.length_nil] at this
    omega
theorem parseO_more {o : Opn} (h : rightO o = true) (hw : opWf o) {r : List UInt8} (hr : r ≠ []) : parseO (opBy o ++ r) = none := by
  cases hp : parseO (opBy o ++ r) with
  | none => rfl
  | some u =>
    obtain ⟨a1, a2, a3⟩ := parseO_iff.1 hp
    have e1 := readP_by h hw r
    have e2 := readP_by a1 a2 []
    rw [List.append_nil, ← a3, e1] at e2
    injection e2 with e2
    injection e2 with _ e2
    exact absurd e2 hr
theorem opBy_inj {o p : Opn} (ho : rightO o = true) (hp : rightO p = true) (wo : opWf o) (wp : opWf p) (h : opBy o = opBy p) : o = p := by
  have e1 := parseO_by ho wo
  rw [h, parseO_by hp wp] at e1
  injection e1 with e1
  exact e1.symm
/-- An operation that is handed in. -/
def OpV (w : World) (o : Opn) (v : Value) : Prop :=
  ∃ (k n s d : Value) (a : Option Addr) (m c : Nat), v = .agg #[.int .u8 (o.what.toNat : Int), .string (str o.id), .int .i64 o.tok, k, n, s, d, .slice a m c, .int .i64 o.quo] ∧ Lies w o.val (.agg #[k, n, s, d]) ∧ itE.Row w o.frg (.slice a m c) ∧ o.id.length ≤ 9223372036854775807 ∧ isI64 o.tok ∧ isI64 o.quo
theorem OpV.ext {w w' : World} {o : Opn} {v : Value} (h : OpV w o v) (hE : Ext w w') : OpV w' o v := by
  obtain ⟨k, n, s, d, a, m, c, h1, h2, h3, h4⟩ := h
  exact ⟨k, n, s, d, a, m, c, h1, h2.ext hE, h3.ext hE, h4⟩
theorem OpV.wf {w : World} {o : Opn} {v : Value} (h : OpV w o v) : opWf o := by
  obtain ⟨k, n, s, d, a, m, c, h1, h2, h3, h4, h5, h6⟩ := h
  exact ⟨h4, h5, h2.nums, h6⟩
theorem BoxL.nine {w : World} {b : Nat} {c0 c1 c2 c3 c4 c5 c6 c7 c8 : Value} (h : BoxL w b [c0, c1, c2, c3, c4, c5, c6, c7, c8]) : w.cell? ⟨b, 0, none⟩ = some c0 ∧ w.cell? ⟨b, 1, none⟩ = some c1 ∧ w.cell? ⟨b, 2, none⟩ = some c2 ∧ w.cell? ⟨b, 3, none⟩ = some c3 ∧ w.cell? ⟨b, 4, none⟩ = some c4 ∧ w.cell? ⟨b, 5, none⟩ = some c5 ∧ w.cell? ⟨b, 6, none⟩ = some c6 ∧ w.cell? ⟨b, 7, none⟩ = some c7 ∧ w.cell? ⟨b, 8, none⟩ = some c8 :=
  ⟨h.cell 0 _ rfl, h.cell 1 _ rfl, h.cell 2 _ rfl, h.cell 3 _ rfl, h.cell 4 _ rfl, h.cell 5 _ rfl, h.cell 6 _ rfl, h.cell 7 _ rfl, h.cell 8 _ rfl⟩
theorem oN_big {k : UInt8} (h : 6 ≤ k.toNat) : oN k = 0 := by
  unfold oN
  rw [if_neg (fun e => by rw [e] at h; exact absurd h (by decide)), if_neg (fun e => by rw [e] at h; exact absurd h (by decide)), if_neg (fun e => by rw [e] at h; exact absurd h (by decide)), if_neg (fun e => by rw [e] at h; exact absurd h (by decide)), if_neg (fun e => by rw [e] at h; exact absurd h (by decide))]
theorem u8_is {k : UInt8} {n : Nat} (hn : n < 256) (h : k.toNat = n) : k = UInt8.ofNat n := UInt8.toNat_inj.1 (by rw [h, UInt8.toNat_ofNat']; omega)
theorem idB_short {s : List UInt8} (h : ¬ 1 ≤ s.length) : idB s = false := by unfold idB; simp [h]
theorem idB_long {s : List UInt8} (h : ¬ s.length ≤ 400) : idB s = false := by unfold idB; simp [h]
theorem idB_all {s : List UInt8} (h1 : 1 ≤ s.length) (h2 : s.length ≤ 400) : idB s = s.all idC := by unfold idB; simp [h1, h2]
/-- Nine cells are written. -/
def set9W (w : World) (B : Nat) (c0 c1 c2 c3 c4 c5 c6 c7 c8 : Value) : World := ((((((((w.setCell ⟨B, 0, none⟩ c0).setCell ⟨B, 1, none⟩ c1).setCell ⟨B, 2, none⟩ c2).setCell ⟨B, 3, none⟩ c3).setCell ⟨B, 4, none⟩ c4).setCell ⟨B, 5, none⟩ c5).setCell ⟨B, 6, none⟩ c6).setCell ⟨B, 7, none⟩ c7).setCell ⟨B, 8, none⟩ c8
theorem set9_grown (w : World) (B : Nat) (c0 c1 c2 c3 c4 c5 c6 c7 c8 : Value) : w.grownBy (set9W w B c0 c1 c2 c3 c4 c5 c6 c7 c8) (some B) := by
  unfold set9W
  exact grown_trans (grown_trans (grown_trans (grown_trans (grown_trans (grown_trans (grown_trans (grown_trans (setOne_grown _ _ 0 _) (setOne_grown _ _ 1 _)) (setOne_grown _ _ 2 _)) (setOne_grown _ _ 3 _)) (setOne_grown _ _ 4 _)) (setOne_grown _ _ 5 _)) (setOne_grown _ _ 6 _)) (setOne_grown _ _ 7 _)) (setOne_grown _ _ 8 _)
theorem BoxL.set9 {w : World} {B : Nat} {z0 z1 z2 z3 z4 z5 z6 z7 z8 : Value} (h : BoxL w B [z0, z1, z2, z3, z4, z5, z6, z7, z8]) (c0 c1 c2 c3 c4 c5 c6 c7 c8 : Value) : BoxL (set9W w B c0 c1 c2 c3 c4 c5 c6 c7 c8) B [c0, c1, c2, c3, c4, c5, c6, c7, c8] := by
  unfold set9W
  exact ((((((((h.set 0 (by simp) _).set 1 (by simp) _).set 2 (by simp) _).set 3 (by simp) _).set 4 (by simp) _).set 5 (by simp) _).set 6 (by simp) _).set 7 (by simp) _).set 8 (by simp) _
/-- A call's results' box is written on the way. -/
structure OSt (w W : World) (vs : List Value) : Prop where
  e : Ext w W
  b : BoxL W w.heap.size vs
theorem OSt.set {w W : World} {vs : List Value} (h : OSt w W vs) (j : Nat) (hj : j < vs.length) (u : Value) : OSt w (W.setCell ⟨w.heap.size, j, none⟩ u) (vs.set j u) :=
  ⟨h.e.setCell (p := ⟨w.heap.size, j, none⟩) (Nat.le_refl _) u, h.b.set j hj u⟩
theorem OSt.ext {w W W' : World} {vs : List Value} (h : OSt w W vs) (hE : Ext W W') : OSt w W' vs := ⟨h.e.trans hE, h.b.ext hE⟩
end Fm
