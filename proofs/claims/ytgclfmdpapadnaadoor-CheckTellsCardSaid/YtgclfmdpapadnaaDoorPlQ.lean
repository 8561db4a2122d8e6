/- Nodes and states in memory of their own; what Parse reads: plain facts. No program is imported. -/
import Derived.Test.YtgclfmdpapadnaaDoorVaA
import Derived.Deep.RegionHeld3
import Derived.Test.YtgclfmdpapadnaaDoorCc
import Derived.BigQuiet
import Derived.Maps.OwnSet
import Derived.Maps.OwnOps
import Derived.Maps.Views
import Derived.StringKeys
import Derived.Test.YtgclfmdpapadnaaDoorProg
import Derived.Carry
import Derived.Laws.EntriesVeiled
namespace Fm
open Go Go.RowKit

theorem firstK_some {l : List Nd} {flow owner : Int} {name : List UInt8} {k : Nat} (h : firstK l flow owner name = some k) : ∃ hk : k < l.length, l[k].name = name ∧ l[k].flow = flow ∧ l[k].owner = owner := by
  unfold firstK at h
  by_cases hn : name = []
  · rw [if_pos hn] at h; cases h
  rw [if_neg hn, List.findIdx?_eq_some_iff_getElem] at h
  obtain ⟨hk, h1, -⟩ := h
  unfold isK at h1
  simp only [Bool.and_eq_true, decide_eq_true_eq] at h1
  exact ⟨hk, h1.2.2, h1.1, h1.2.1⟩
theorem seenF_some {l : List Nd} {i : Int} {name : List UInt8} {k : Nat} (h : seenF l i name = some k) : ∃ hk : k < l.length, l[k].name = name := by
  unfold seenF at h
  split at h
  · obtain ⟨o, -, ho⟩ := List.exists_of_findSome?_eq_some h
    obtain ⟨hk, h1, -⟩ := firstK_some ho
    exact ⟨hk, h1⟩
  · cases h
/-- An item, a node, or nobody. -/
theorem refsF_cases (l : List Nd) (owner : Int) (items : List It) (name : List UInt8) :
    (∃ i, ∃ hi : i < items.length, refsF l owner items name = ((i : Int), -1) ∧ items[i].name = name ∧ name ≠ [] ∧ ∀ j (hj : j < i), items[j].name ≠ name) ∨
    ((name = [] ∨ ∀ x, x ∈ items → x.name ≠ name) ∧ ((∃ k, 0 ≤ owner ∧ seenF l owner name = some k ∧ refsF l owner items name = (-1, (k : Int))) ∨ ((owner < 0 ∨ seenF l owner name = none) ∧ refsF l owner items name = (-1, -1)))) := by
  have tail : ∀ (r : Int × Int), r = (match (if 0 ≤ owner then seenF l owner name else none) with
    | some k => (-1, (k : Int))
    | none => (-1, -1)) → ((∃ k, 0 ≤ owner ∧ seenF l owner name = some k ∧ r = (-1, (k : Int))) ∨ ((owner < 0 ∨ seenF l owner name = none) ∧ r = (-1, -1))) := by
    intro r hr
    by_cases h0 : 0 ≤ owner
    · rw [if_pos h0] at hr
      cases hs : seenF l owner name with
      | none => rw [hs] at hr; exact .inr ⟨.inr rfl, hr⟩
      | some k => rw [hs] at hr; exact .inl ⟨k, h0, rfl, hr⟩
    · rw [if_neg h0] at hr
      exact .inr ⟨.inl (by omega), hr⟩
  cases h : items.findIdx? (fun x => decide (x.name = name)) with
  | none =>
    rw [List.findIdx?_eq_none_iff] at h
    refine .inr ⟨.inr (fun x hx e => ?_), tail _ ?_⟩
    · have := h x hx
      rw [decide_eq_false_iff_not] at this
      exact this e
    · unfold refsF
      rw [List.findIdx?_eq_none_iff.2 h]
      cases (if 0 ≤ owner then seenF l owner name else none) <;> rfl
  | some i =>
    have h' := h
    rw [List.findIdx?_eq_some_iff_getElem] at h
    obtain ⟨hi, h1, h2⟩ := h
    rw [decide_eq_true_eq] at h1
    by_cases hn : name = []
    · refine .inr ⟨.inl hn, tail _ ?_⟩
      unfold refsF
      rw [h']
      simp only
      rw [if_neg (fun hh => hh hn)]
      cases (if 0 ≤ owner then seenF l owner name else none) <;> rfl
    · refine .inl ⟨i, hi, ?_, h1, hn, fun j hj e => ?_⟩
      · unfold refsF
        rw [h']
        simp only
        rw [if_pos hn]
      · have := h2 j hj
        simp only [Bool.not_eq_true, decide_eq_false_iff_not] at this
        exact this e
end Fm

namespace Fm
open Go

section
variable {P : Program} {ops : Array Oper} {Q : Exit → Act → World → Prop} {md : Region.Mode} {S : World → Prop}

/-- Operation i is wanted, and only reads: it may come first. -/
theorem take_w (i : Nat) (d : Option Tmp) {v : Value} {fuel : Nat} {listed : Array Bool} {a : Act} {w : World}
    (hi : ops[i]? = some (ops.getD i default)) (hd : (ops.getD i default).dst = d) (hs : Region.noSelect ops = true) (hf : Region.free md ops listed i = true) (hr : (Region.ready md ops listed).contains i = true)
    (hQ : ∀ c a w, Q (.panic c) (a.put d v) w → Q (.panic c) a w) (hw : Region.wanted (ops.getD i default) (yielded ops a.tmps) = true)
    (hy : ∀ w, S w → (execOp a.eval (ops.getD i default)).run P w = .ok (.value v) w) (hS : S w)
    (h : wpAnyH P md ops Q S fuel (listed.setIfInBounds i true) (a.put d v) w) : wpAnyH P md ops Q S (fuel + 1) listed a w := by
  subst hd; exact wpAnyH_take hi hs hf hr hQ (.inl ⟨hw, hy⟩) hS h
/-- Operation i is not wanted: it may come first. -/
theorem take_u (i : Nat) (d : Option Tmp) {fuel : Nat} {listed : Array Bool} {a : Act} {w : World}
    (hi : ops[i]? = some (ops.getD i default)) (hd : (ops.getD i default).dst = d) (hs : Region.noSelect ops = true) (hf : Region.free md ops listed i = true) (hr : (Region.ready md ops listed).contains i = true)
    (hQ : ∀ c a w, Q (.panic c) (a.put d undef) w → Q (.panic c) a w) (hw : Region.wanted (ops.getD i default) (yielded ops a.tmps) = false) (hS : S w)
    (h : wpAnyH P md ops Q S fuel (listed.setIfInBounds i true) (a.put d undef) w) : wpAnyH P md ops Q S (fuel + 1) listed a w := by
  subst hd; exact wpAnyH_take hi hs hf hr hQ (.inr ⟨hw, rfl⟩) hS h
/-- Operations that are not wanted, one behind the other: each may come first. -/
def skipB (md : Region.Mode) (ops : Array Oper) : List (Nat × Option Tmp) → Array Bool → Act → Bool
  | [], _, _ => true
  | (i, d) :: is, listed, a => decide (i < ops.size) && decide ((ops.getD i default).dst = d) && Region.noSelect ops && Region.free md ops listed i && (Region.ready md ops listed).contains i && !(Region.wanted (ops.getD i default) (yielded ops a.tmps)) && skipB md ops is (listed.setIfInBounds i true) (a.put d undef)
def putU : List (Nat × Option Tmp) → Act → Act
  | [], a => a
  | (_, d) :: is, a => putU is (a.put d undef)
def setU : List (Nat × Option Tmp) → Array Bool → Array Bool
  | [], l => l
  | (i, _) :: is, l => setU is (l.setIfInBounds i true)
theorem take_us : ∀ (is : List (Nat × Option Tmp)) {fuel : Nat} {listed : Array Bool} {a : Act} {w : World}, skipB md ops is listed a = true →
    (∀ i c a w, Q (.panic c) (a.put (some i) undef) w → Q (.panic c) a w) → S w → wpAnyH P md ops Q S fuel (setU is listed) (putU is a) w → wpAnyH P md ops Q S (fuel + is.length) listed a w
  | [], _, _, _, _, _, _, _, h => h
  | (i, d) :: is, fuel, listed, a, w, hb, hQ, hS, h => by
    unfold skipB at hb
    simp only [Bool.and_eq_true, decide_eq_true_eq, Bool.not_eq_true'] at hb
    obtain ⟨⟨⟨⟨⟨⟨h1, h2⟩, h3⟩, h4⟩, h5⟩, h6⟩, h7⟩ := hb
    rw [List.length_cons, ← Nat.add_assoc]
    refine take_u i d ?_ h2 h3 h4 h5 (match d with | none => fun _ _ _ h => h | some j => hQ j) h6 hS (take_us is h7 hQ hS h)
    rw [Array.getElem?_eq_getElem h1, Array.getD_eq_getD_getElem?, Array.getElem?_eq_getElem h1]
    rfl
theorem take_un (n : Nat) (is : List (Nat × Option Tmp)) (hn : is.length = n) {fuel : Nat} {listed : Array Bool} {a : Act} {w : World} (hb : skipB md ops is listed a = true)
    (hQ : ∀ i c a w, Q (.panic c) (a.put (some i) undef) w → Q (.panic c) a w) (hS : S w) (h : wpAnyH P md ops Q S fuel (setU is listed) (putU is a) w) : wpAnyH P md ops Q S (fuel + n) listed a w := by
  subst hn; exact take_us is hb hQ hS h
/-- Operation i alone may come up. -/
theorem ready_one (i : Nat) {fuel : Nat} {listed : Array Bool} {a : Act} {w : World}
    (hi : ops[i]? = some (ops.getD i default)) (hr : Region.ready md ops listed = [i]) (hw : Region.wanted (ops.getD i default) (yielded ops a.tmps) = true)
    (h : ∀ K' : Act → World → Prop, Shut (∀ a w, S w → (S w → wpAnyH P md ops Q S fuel (listed.setIfInBounds i true) a w) → K' a w) → Oper.wp P (ops.getD i default) a w K' Q) : wpAnyH P md ops Q S (fuel + 1) listed a w :=
  wpAnyH_ready hr (by simp) (AllReadyH.cons hi (fun K hK => by rw [if_pos hw]; exact h K hK) AllReadyH.nil)
end
end Fm

open Go.RowKit Go.Shelf
namespace Go.Proofs.YtgclfmdpapadnaaDoor
open Go Go.Proofs Fm
attribute [local go_sem] Oper.semAt_some

set_option maxRecDepth 100000 in
set_option maxHeartbeats 4000000 in
theorem cover1_any (nd : List Nd) (items : List It) (hO : RightO nd) (hl : nd.length ≤ 1000000) (k0 k1 k2 k3 k4 ow q : Int) (nv iv : Value) (x : It) (w : World) (hN : ndE.Row w nd nv) (hI : itE.Row w items iv) (v : Value) (h : ItV w x v) (b : Nat) (hb : BoxL w b (askL k0 k1 k2 k3 k4 nv ow q iv)) :
    Calls Tryd.prog 78 #[v, .pointer (some ⟨b, 0, none⟩)] w fun e w' => e = .returned (.bool (overOne nd ow items x)) ∧ Ext w w' := by
  obtain ⟨a, m, c, rfl, hr, ln, lo, iw, iq⟩ := h
  have hE := (Ext.refl w).alloc (.cells #[.string (str x.name), .int .u8 (x.kind.toNat : Int), .slice a m c, .string (str x.over), .int .i64 x.width, .int .i64 x.quota] 27)
  have hB := BoxL.new w [.string (str x.name), .int .u8 (x.kind.toNat : Int), .slice a m c, .string (str x.over), .int .i64 x.width, .int .i64 x.quota] 27
  have HM := Lib.hid (fun X (hX : Ext w X) => cisMap_any x X _ ⟨a, m, c, rfl, hr.ext hX, ln, lo, iw, iq⟩)
  have HRf := Lib.hid (fun X (hX : Ext w X) => crefs_any nd items hO hl k0 k1 k2 k3 k4 ow q x.over lo X nv iv (hN.ext hX) (hI.ext hX))
  have HN := Lib.hid hN
  have HI := Lib.hid hI
  have HX := Lib.hid (show overOne nd ow items x = (isMapI x && (if 0 ≤ (refsF nd ow items x.over).1 then isMapI (items.getD (refsF nd ow items x.over).1.toNat ⟨[], 0, [], [], 0, 0⟩) && decide (x.width < (items.getD (refsF nd ow items x.over).1.toNat ⟨[], 0, [], [], 0, 0⟩).width)
    else if 0 ≤ (refsF nd ow items x.over).2 then decide ((nthF nd (refsF nd ow items x.over).2).kind = 1) && decide (x.width < (nthF nd (refsF nd ow items x.over).2).width) else false)) from rfl)
  obtain ⟨an, cn, rfl, hn1, hn2⟩ := hN.slice
  obtain ⟨ai, ci, rfl, hi1, hi2⟩ := hI.slice
  have HA := Lib.hid (hb.ext hE)
  have HE := Lib.hid hE
  have HB := Lib.hid hB
  clear hr ln lo iw iq hE hB hb hN hI
  unfold askV at *
  go_enter Tryd.func78, Tryd.ntmps78
  go_upto_region 1 with (fail)
  generalize w.alloc (.cells #[.string (str x.name), .int .u8 (x.kind.toNat : Int), .slice a m c, .string (str x.over), .int .i64 x.width, .int .i64 x.quota] 27) = W1 at *
  have ⟨y0, y1, y2, y3, y4, y5⟩ := HB.out.six
  go_wp2_with fail
  refine (HM.out W1 HE.out).mono ?_
  clear HM y0 y1 y2 y3 y4 y5
  cases hm : isMapI x with
  | false =>
    have HP := Lib.hid (show overOne nd ow items x = false by rw [HX.out, hm]; rfl)
    rintro e w3 ⟨rfl, hE3⟩
    have HE3 := Lib.hid (HE.out.trans hE3)
    clear hE3 hm HRf HX
    go_wp2
    go_ret
    exact ⟨by rw [HP.out]; rfl, HE3.out⟩
  | true =>
    rw [hm] at HX
    rintro e w3 ⟨rfl, hE3⟩
    have y3 := (HB.out.ext hE3).cell 3 _ rfl
    have HB3 := Lib.hid (HB.out.ext hE3)
    have HA3 := Lib.hid (HA.out.ext hE3)
    obtain ⟨z0, z1, z2, z3, z4, z5, z6, z7, z8⟩ := askL_cells _ HA3.out
    have HE3 := Lib.hid (HE.out.trans hE3)
    clear hE3 hm HB HA HE
    go_wp2_with fail
    refine (HRf.out w3 HE3.out).mono ?_
    rintro e w4 ⟨rfl, hE4⟩
    have HB4 := Lib.hid (HB3.out.ext hE4)
    have HA4 := Lib.hid (HA3.out.ext hE4)
    have HE4 := Lib.hid (HE3.out.trans hE4)
    clear hE4 HRf y3 z0 z1 z2 z3 z4 z5 z6 z7 z8 HB3 HA3 HE3
    rcases refsF_cases nd ow items x.over with ⟨i, hi, hrf, -⟩ | ⟨-, ⟨k, -, hsn, hrf⟩ | ⟨-, hrf⟩⟩
    · rw [hrf] at HX ⊢
      have hi0 : (0 : Int) ≤ (i : Int) := by omega
      have HP := Lib.hid (show overOne nd ow items x = (isMapI items[i] && decide (x.width < items[i].width)) by
        rw [HX.out]; simp [hi])
      clear HX hrf
      obtain ⟨g, off, rfl, hg, aa, ma, ca, x0, x1, x2, x3, x4, x5, hit⟩ := it_at HI.out HE4.out i hi
      go_upto_region 5 with (fail)
      have hg4 : g < w4.heap.size := Nat.lt_of_lt_of_le hg HE4.out.size
      have hlt : (i : Int) < (items.length : Int) := by omega
      have HS : Hid (∀ w', Ext w4 w' → (fun w' => w'.cell? ⟨b, 8, none⟩ = some (.slice (some ⟨g, off, none⟩) items.length ci) ∧ w'.cell? ⟨g, off + i * 6, none⟩ = some (.string (str items[i].name)) ∧ w'.cell? ⟨g, off + i * 6 + 1, none⟩ = some (.int .u8 (items[i].kind.toNat : Int)) ∧ w'.cell? ⟨g, off + i * 6 + 2, none⟩ = some (.slice aa ma ca) ∧ w'.cell? ⟨g, off + i * 6 + 3, none⟩ = some (.string (str items[i].over)) ∧ w'.cell? ⟨g, off + i * 6 + 4, none⟩ = some (.int .i64 items[i].width) ∧ w'.cell? ⟨g, off + i * 6 + 5, none⟩ = some (.int .i64 items[i].quota) ∧ w'.cell? ⟨w.heap.size, 4, none⟩ = some (.int .i64 x.width)) w') := Lib.hid (fun w' hE =>
        ⟨(HA4.out.ext hE).cell 8 _ rfl, (hE.cell (p := ⟨g, off + i * 6, none⟩) hg4).trans x0, (hE.cell (p := ⟨g, off + i * 6 + 1, none⟩) hg4).trans x1, (hE.cell (p := ⟨g, off + i * 6 + 2, none⟩) hg4).trans x2, (hE.cell (p := ⟨g, off + i * 6 + 3, none⟩) hg4).trans x3, (hE.cell (p := ⟨g, off + i * 6 + 4, none⟩) hg4).trans x4, (hE.cell (p := ⟨g, off + i * 6 + 5, none⟩) hg4).trans x5, (HB4.out.ext hE).cell 4 _ rfl⟩)
      have HC := Lib.hid (fun w' (hE : Ext w4 w') => cisMap_any items[i] w' _ (hit.ext (HE4.out.trans hE)))
      have HD0 := Lib.hid (Ext.refl w4)
      have fin : ∀ w', Ext w4 w' → Ext w w' := fun w' h => HE4.out.trans h
      clear x0 x1 x2 x3 x4 x5 hit HB4 HA4 HE4 HI HN
      cases hmi : isMapI items[i] with
      | false =>
        rw [hmi] at HC HP
        clear hmi
        have ED := Lib.hid (Ext.drew HD0.out)
        refine wp_region_held_drew (S := (fun w' => w'.cell? ⟨b, 8, none⟩ = some (.slice (some ⟨g, off, none⟩) items.length ci) ∧ w'.cell? ⟨g, off + i * 6, none⟩ = some (.string (str items[i].name)) ∧ w'.cell? ⟨g, off + i * 6 + 1, none⟩ = some (.int .u8 (items[i].kind.toNat : Int)) ∧ w'.cell? ⟨g, off + i * 6 + 2, none⟩ = some (.slice aa ma ca) ∧ w'.cell? ⟨g, off + i * 6 + 3, none⟩ = some (.string (str items[i].over)) ∧ w'.cell? ⟨g, off + i * 6 + 4, none⟩ = some (.int .i64 items[i].width) ∧ w'.cell? ⟨g, off + i * 6 + 5, none⟩ = some (.int .i64 items[i].quota) ∧ w'.cell? ⟨w.heap.size, 4, none⟩ = some (.int .i64 x.width))) (by kernel_rfl) ?_ (fun hHeld => ?_)
        · (try dsimp only)
          (first | exact HS.out _ ED.out | exact HS.out _ E1.out)
        refine take_w 0 (some 21) (v := ?_) (by kernel_rfl) (by kernel_rfl) (by kernel_rfl) (by kernel_rfl) (by kernel_rfl) (fun _ _ _ h => h) (by rfl) ?_ (by assumption) ?_
        rotate_left
        · (intro w hSw; (try dsimp only at hSw); go_simp; try with_reducible rfl)
        try simp only [Act.put, List.setIfInBounds_toArray, List.set_cons_zero, List.set_cons_succ]
        refine take_w 1 (some 22) (v := ?_) (by kernel_rfl) (by kernel_rfl) (by kernel_rfl) (by kernel_rfl) (by kernel_rfl) (fun _ _ _ h => h) (by rfl) ?_ (by assumption) ?_
        rotate_left
        · (intro w hSw; (try dsimp only at hSw); go_simp; try with_reducible rfl)
        try simp only [Act.put, List.setIfInBounds_toArray, List.set_cons_zero, List.set_cons_succ]
        refine take_w 2 (some 23) (v := ?_) (by kernel_rfl) (by kernel_rfl) (by kernel_rfl) (by kernel_rfl) (by kernel_rfl) (fun _ _ _ h => h) (by rfl) ?_ (by assumption) ?_
        rotate_left
        · (intro w hSw; (try dsimp only at hSw); go_simp; try with_reducible rfl)
        try simp only [Act.put, List.setIfInBounds_toArray, List.set_cons_zero, List.set_cons_succ]
        refine take_w 3 (some 24) (v := ?_) (by kernel_rfl) (by kernel_rfl) (by kernel_rfl) (by kernel_rfl) (by kernel_rfl) (fun _ _ _ h => h) (by rfl) ?_ (by assumption) ?_
        rotate_left
        · (intro w hSw; (try dsimp only at hSw); go_simp; try with_reducible rfl)
        try simp only [Act.put, List.setIfInBounds_toArray, List.set_cons_zero, List.set_cons_succ]
        refine take_w 4 (some 25) (v := ?_) (by kernel_rfl) (by kernel_rfl) (by kernel_rfl) (by kernel_rfl) (by kernel_rfl) (fun _ _ _ h => h) (by rfl) ?_ (by assumption) ?_
        rotate_left
        · (intro w hSw; (try dsimp only at hSw); go_simp; try with_reducible rfl)
        try simp only [Act.put, List.setIfInBounds_toArray, List.set_cons_zero, List.set_cons_succ]
        refine ready_one 5 (by kernel_rfl) (by kernel_rfl) (by rfl) (fun Kc hKc => ?_)
        go_simp
        refine (HC.out _ ED.out).mono ?_
        rintro e z1 ⟨rfl, hE⟩
        have E1 := Lib.hid (ED.out.trans hE)
        clear hE
        try go_wp2_with fail
        refine hKc.out _ _ ?_ (fun hHeld => ?_)
        · (try dsimp only)
          (first | exact HS.out _ ED.out | exact HS.out _ E1.out)
        clear hKc Kc
        try simp only [Act.put, List.setIfInBounds_toArray, List.set_cons_zero, List.set_cons_succ]
        refine take_w 6 (some 27) (v := ?_) (by kernel_rfl) (by kernel_rfl) (by kernel_rfl) (by kernel_rfl) (by kernel_rfl) (fun _ _ _ h => h) (by rfl) ?_ (by assumption) ?_
        rotate_left
        · (intro w hSw; (try dsimp only at hSw); go_simp; try with_reducible rfl)
        try simp only [Act.put, List.setIfInBounds_toArray, List.set_cons_zero, List.set_cons_succ]
        refine take_un 9 [(7, some 28), (8, some 29), (9, some 30), (10, some 31), (11, some 32), (12, some 33), (13, some 34), (14, some 35), (15, some 36)] rfl (by kernel_rfl) (fun _ _ _ _ h => h) (by assumption) ?_
        simp only [putU, setU, Act.put, List.setIfInBounds_toArray, List.set_cons_zero, List.set_cons_succ]
        refine take_w 16 (some 37) (v := ?_) (by kernel_rfl) (by kernel_rfl) (by kernel_rfl) (by kernel_rfl) (by kernel_rfl) (fun _ _ _ h => h) (by rfl) ?_ (by assumption) ?_
        rotate_left
        · (intro w hSw; (try dsimp only at hSw); go_simp; try with_reducible rfl)
        try simp only [Act.put, List.setIfInBounds_toArray, List.set_cons_zero, List.set_cons_succ]
        refine take_w 17 (some 3) (v := ?_) (by kernel_rfl) (by kernel_rfl) (by kernel_rfl) (by kernel_rfl) (by kernel_rfl) (fun _ _ _ h => h) (by rfl) ?_ (by assumption) ?_
        rotate_left
        · (intro w hSw; (try dsimp only at hSw); go_simp; try with_reducible rfl)
        try simp only [Act.put, List.setIfInBounds_toArray, List.set_cons_zero, List.set_cons_succ]
        refine wpAnyH_done (by kernel_rfl) ?_ _
        all_goals go_wp2
        all_goals go_ret
        all_goals exact ⟨by rw [HP.out]; rfl, fin _ E1.out⟩
      | true =>
        rw [hmi] at HC HP
        clear hmi
        go_region_held3 (fun w' => w'.cell? ⟨b, 8, none⟩ = some (.slice (some ⟨g, off, none⟩) items.length ci) ∧ w'.cell? ⟨g, off + i * 6, none⟩ = some (.string (str items[i].name)) ∧ w'.cell? ⟨g, off + i * 6 + 1, none⟩ = some (.int .u8 (items[i].kind.toNat : Int)) ∧ w'.cell? ⟨g, off + i * 6 + 2, none⟩ = some (.slice aa ma ca) ∧ w'.cell? ⟨g, off + i * 6 + 3, none⟩ = some (.string (str items[i].over)) ∧ w'.cell? ⟨g, off + i * 6 + 4, none⟩ = some (.int .i64 items[i].width) ∧ w'.cell? ⟨g, off + i * 6 + 5, none⟩ = some (.int .i64 items[i].quota) ∧ w'.cell? ⟨w.heap.size, 4, none⟩ = some (.int .i64 x.width))
          (first | exact HS.out _ (Ext.drew HD0.out) | exact HS.out _ HD0.out | exact HS.out _ E1.out)
          (first | (go_at_call 74; refine (HC.out _ (Ext.drew HD0.out)).mono ?_; rintro e z1 ⟨rfl, hE⟩; have E1 := Lib.hid ((Ext.drew HD0.out).trans hE); clear hE))
        all_goals go_wp2
        all_goals go_ret
        all_goals exact ⟨by rw [HP.out]; simp, fin _ E1.out⟩
    · rw [hrf] at HX ⊢
      obtain ⟨hk, -⟩ := seenF_some hsn
      have hk0 : (0 : Int) ≤ (k : Int) := by omega
      have hk1 : (k : Int) < (nd.length : Int) := by omega
      have HP := Lib.hid (show overOne nd ow items x = (decide (nd[k].kind = 1) && decide (x.width < nd[k].width)) by
        rw [HX.out]; simp [nthF_at hk])
      clear HX hrf hsn
      obtain ⟨g, off, rfl, hg, aa, ma, ca, K', N', S', D', ⟨x0, x1, x2, x3, x4, x5, x6, x7, x8, x9, x10, x11, x12, x13, x14, x15⟩, -⟩ := nd_at16 HN.out HE4.out k hk
      have z5 := HA4.out.cell 5 _ rfl
      have y4 := HB4.out.cell 4 _ rfl
      have hkd := u8_oneC (k := nd[k].kind) 1
      rw [show (((1 : UInt8).toNat : Nat) : Int) = 1 from rfl] at hkd
      clear x0 x1 x3 x4 x5 x6 x8 x9 x10 x11 x12 x13 x14 x15 HB4 HA4 HI HN
      cases hd : decide (nd[k].kind = 1) with
      | false =>
        rw [hd] at hkd HP
        clear hd
        go_upto_region 7 with (fail)
        go_quiet (fail)
        go_wp2
        go_ret
        exact ⟨by rw [HP.out]; rfl, HE4.out.drewN _⟩
      | true =>
        rw [hd] at hkd HP
        clear hd
        go_upto_region 7 with (fail)
        go_quiet (fail)
        go_wp2
        go_ret
        exact ⟨by rw [HP.out]; simp, HE4.out.drewN _⟩
    · rw [hrf] at HX ⊢
      have HP := Lib.hid (show overOne nd ow items x = false by rw [HX.out]; rfl)
      clear HX hrf
      go_wp2
      go_ret
      exact ⟨by rw [HP.out]; rfl, HE4.out⟩
set_option maxRecDepth 100000 in
set_option maxHeartbeats 2000000 in
theorem cover_any (nd : List Nd) (items : List It) (hO : RightO nd) (hl : nd.length ≤ 1000000) (k0 k1 k2 k3 k4 ow q : Int) (w : World) (nv iv : Value) (hN : ndE.Row w nd nv) (hI : itE.Row w items iv) :
    Calls Tryd.prog 59 #[.agg (askV k0 k1 k2 k3 k4 nv ow q iv)] w fun e w' => e = .returned (.bool (overF nd ow items)) ∧ Ext w w' := by
  have HX := Lib.hid (show overF nd ow items = items.any (overOne nd ow items) from rfl)
  have hE1 := (Ext.refl w).alloc (.cells (askL k0 k1 k2 k3 k4 nv ow q iv).toArray 67)
  have hB1 := BoxL.new w (askL k0 k1 k2 k3 k4 nv ow q iv) 67
  have HH := Lib.hid (chas_any nd items k0 k1 k2 k3 k4 ow q _ nv iv (hN.ext hE1) (hI.ext hE1) 78 (enters_of Tryd.func78 (by kernel_rfl) rfl) #[.pointer (some ⟨w.heap.size, 0, none⟩)] (overOne nd ow items) (fun s w' x _ hE hx => cover1_any nd items hO hl k0 k1 k2 k3 k4 ow q nv iv s w' (hN.ext (hE1.trans hE)) (hI.ext (hE1.trans hE)) x hx w.heap.size (hB1.ext hE)))
  obtain ⟨an, cn, rfl, hn1, hn2⟩ := hN.slice
  obtain ⟨ai, ci, rfl, hi1, hi2⟩ := hI.slice
  have HE1 := Lib.hid hE1
  clear hN hI hE1 hB1
  unfold askV at *
  simp only [askL] at HE1 HH
  go_enter Tryd.func59, Tryd.ntmps59
  go_wp2_with fail
  refine HH.out.mono ?_
  rintro e w2 ⟨rfl, hE2⟩
  have HE2 := Lib.hid (HE1.out.trans hE2)
  clear hE2 HH
  go_wp2
  go_ret
  exact ⟨by rw [HX.out]; rfl, HE2.out⟩
end Go.Proofs.YtgclfmdpapadnaaDoor

open Go.RowKit Go.Shelf
namespace Go.Proofs.YtgclfmdpapadnaaDoor
open Go Go.Proofs Fm
attribute [local go_sem] Oper.semAt_some

/-- Items whose costs can be told. -/
def Fair (x : It) : Prop := (0 ≤ x.width ∧ x.width ≤ 1000000) ∧ 0 ≤ x.quota ∧ x.quota ≤ 1000000
theorem cost_fair {x : It} (h : Fair x) : 0 ≤ costF x ∧ costF x ≤ 1000002000001 := by
  obtain ⟨⟨h1, h2⟩, h3, h4⟩ := h
  have h5 : 0 ≤ x.width * (1 + x.quota) := Int.mul_nonneg h1 (by omega)
  have h6 : x.width * (1 + x.quota) ≤ 1000000 * 1000001 := Int.mul_le_mul h2 (by omega) (by omega) (by omega)
  unfold costF
  by_cases hk : x.kind = 1
  · rw [if_pos hk]; omega
  · rw [if_neg hk]; omega
set_option maxHeartbeats 2000000 in
theorem ccost_any (x : It) (hf : Fair x) (w : World) (v : Value) (h : ItV w x v) :
    Calls Tryd.prog 10 #[v] w fun e w' => e = .returned (.int .i64 (costF x)) ∧ Ext w w' := by
  obtain ⟨a, m, c, rfl, hr, ln, lo, iw, iq⟩ := h
  obtain ⟨⟨f1, f2⟩, f3, f4⟩ := hf
  have hE := (Ext.refl w).alloc (.cells #[.string (str x.name), .int .u8 (x.kind.toNat : Int), .slice a m c, .string (str x.over), .int .i64 x.width, .int .i64 x.quota] 27)
  have hB := BoxL.new w [.string (str x.name), .int .u8 (x.kind.toNat : Int), .slice a m c, .string (str x.over), .int .i64 x.width, .int .i64 x.quota] 27
  have HE := Lib.hid hE
  have hk := u8_oneC (k := x.kind) 1
  rw [show (((1 : UInt8).toNat : Nat) : Int) = 1 from rfl] at hk
  have HX := Lib.hid (show costF x = if x.kind = 1 then 1 + x.width * (1 + x.quota) else 1 + x.quota from rfl)
  clear hr ln lo iw iq hE
  go_enter Tryd.func10, Tryd.ntmps10
  go_upto_region 1 with (fail)
  generalize w.alloc (.cells #[.string (str x.name), .int .u8 (x.kind.toNat : Int), .slice a m c, .string (str x.over), .int .i64 x.width, .int .i64 x.quota] 27) = W1 at *
  have ⟨y0, y1, y2, y3, y4, y5⟩ := hB.six
  clear hB
  obtain ⟨wd, hwd⟩ : ∃ wd, wd = x.width := ⟨_, rfl⟩
  obtain ⟨qt, hqt⟩ : ∃ qt, qt = x.quota := ⟨_, rfl⟩
  obtain ⟨K, hK⟩ : ∃ K, K = (x.kind.toNat : Int) := ⟨_, rfl⟩
  rw [← hwd] at y4 f1 f2 HX
  rw [← hqt] at y5 f3 f4 HX
  rw [← hK] at y1 hk
  clear hwd hqt hK
  have g1 : 0 ≤ wd * (1 + qt) := Int.mul_nonneg f1 (by omega)
  have g2 : wd * (1 + qt) ≤ 1000000 * 1000001 := Int.mul_le_mul f2 (by omega) (by omega) (by omega)
  by_cases h1 : x.kind = 1
  · have t1 : (K == 1) = true := by rw [hk]; simpa using h1
    have HY := Lib.hid (show costF x = wd * (1 + qt) + 1 by rw [HX.out, if_pos h1]; omega)
    clear hk h1 HX
    go_wp2
    go_ret
    exact ⟨by rw [HY.out]; rfl, HE.out⟩
  · have t1 : (K == 1) = false := by rw [hk]; simpa using h1
    have HY := Lib.hid (show costF x = 1 + qt by rw [HX.out, if_neg h1])
    clear hk h1 HX g1 g2
    go_wp2
    go_ret
    exact ⟨by rw [HY.out]; rfl, HE.out⟩
theorem total_step {l : List It} {j : Nat} (hj : j < l.length) : totalF (l.take (j + 1)) = totalF (l.take j) + costF l[j] := by
  unfold totalF
  rw [List.take_succ_eq_append_getElem hj, List.map_append, List.sum_append]
  simp
theorem total_fair {l : List It} (h : ∀ x, x ∈ l → Fair x) : ∀ j, j ≤ l.length → 0 ≤ totalF (l.take j) ∧ totalF (l.take j) ≤ 1000002000001 * (j : Int)
  | 0, _ => by unfold totalF; simp
  | j + 1, hj => by
    have h1 := total_fair h j (by omega)
    have h2 := cost_fair (h l[j] (List.getElem_mem (by omega)))
    rw [total_step (by omega)]
    omega
set_option maxRecDepth 100000 in
set_option maxHeartbeats 2000000 in
theorem ctotal_any (l : List It) (hf : ∀ x, x ∈ l → Fair x) (hl : l.length ≤ 1000) (w : World) (v : Value) (h : itE.Row w l v) :
    Calls Tryd.prog 11 #[v] w fun e w' => e = .returned (.int .i64 (totalF l)) ∧ Ext w w' := by
  have HR := Lib.hid h
  have HF := Lib.hid hf
  obtain ⟨a, c, rfl, hc1, hc2⟩ := h.slice
  clear h hf
  go_enter Tryd.func11, Tryd.ntmps11
  go_wp2_with fail
  generalize hLN : l.length = LN at *
  have HLN := Lib.hid hLN
  clear hLN
  go_loopw [3, 8] (fun s i wr => ∃ (j : Nat) (z : Int), j ≤ LN ∧ i = .int .i64 j ∧ s = .int .i64 z ∧ Hid (z = totalF (l.take j)) ∧ Hid (Ext w wr)) (fun _ i _ => LN - (intOf i).toNat)
  case atStart => exact ⟨0, 0, by omega, rfl, rfl, Lib.hid (by unfold totalF; simp), Lib.hid (Ext.refl w)⟩
  case round =>
    obtain ⟨j, z, hj, rfl, rfl, HZ, HE⟩ := hrel
    by_cases hlt : j < LN
    case neg =>
      have HT := Lib.hid (show totalF l = z by rw [HZ.out, show j = l.length by have := HLN.out; omega, List.take_length])
      go_wp2
      go_ret
      exact ⟨by rw [HT.out]; rfl, HE.out⟩
    have hi : j < l.length := by have := HLN.out; omega
    obtain ⟨b, off, rfl, hb, aa, ma, ca, x0, x1, x2, x3, x4, x5, hit⟩ := it_at HR.out HE.out j hi
    have hb1 := total_fair HF.out j (by omega)
    rw [← HZ.out] at hb1
    have hcf := cost_fair (HF.out l[j] (List.getElem_mem hi))
    have HC := Lib.hid (fun X (hE : Ext w X) => ccost_any l[j] (HF.out _ (List.getElem_mem hi)) X _ (hit.ext hE))
    have HS := Lib.hid (show totalF (l.take (j + 1)) = z + costF l[j] by rw [total_step hi, HZ.out])
    have hj0 : (0 : Int) ≤ (j : Int) := by omega
    have hj1 : (j : Int) < (LN : Int) := by omega
    clear hit
    go_wp2_with fail
    refine (HC.out _ (HE.out.alloc _)).mono ?_
    rintro e w2 ⟨rfl, hE2⟩
    have HE2 := Lib.hid ((HE.out.alloc _).trans hE2)
    clear hE2 HC HE x0 x1 x2 x3 x4 x5
    generalize costF l[j] = cj at *
    go_wp2
    go_roundw
    case rel => exact ⟨j + 1, z + cj, by omega, by go_num, rfl, Lib.hid HS.out.symm, HE2⟩
    case measure => simp [intOf]; omega
end Go.Proofs.YtgclfmdpapadnaaDoor

namespace Go.Proofs.YtgclfmdpapadnaaDoor
open Go Go.Proofs Fm Go.RowKit

/-- Block b is a map of texts to numbers: what stands where, and how many there are (at most n). -/
def SMap (w : World) (b n : Nat) (f : List UInt8 → Option Int) (sz : Nat) : Prop :=
  ∃ D : DataW Unit, w.ownsMap Tryd.prog 9 (plainElem Tryd.prog 3) b n D ∧ Maps.size D = sz ∧ (∀ s, Maps.has D (.string s) = (f s).isSome) ∧ ∀ s, D.atKey (.string s) (.lit (.int .i64 0)) = .lit (.int .i64 ((f s).getD 0))
def supd (f : List UInt8 → Option Int) (s : List UInt8) (z : Int) : List UInt8 → Option Int := fun t => if t = s then some z else f t
theorem zero_int (w : World) : (zeroValue 3).run Tryd.prog w = .ok (.int .i64 0) w := Tryd.zeroValue3 w
theorem key_str {s : List UInt8} (hs : s.length ≤ 9223372036854775807) : keyOf Tryd.prog 9 (.string (str s)) = some (.string s) := by
  have := WideMaps.keyOf_string_mk (P := Tryd.prog) (k := 9) Tryd.underlying9 (s := str s) (by rw [str_size]; unfold maxLen; omega)
  rwa [str_list] at this
theorem SMap.new (w : World) : SMap (w.alloc (.map #[] 0)) w.heap.size 0 (fun _ => none) 0 :=
  ⟨.map [], World.ownsMap_made w _ _ _, rfl, fun _ => rfl, fun _ => rfl⟩
theorem SMap.kept {w w' : World} {b n : Nat} {f : List UInt8 → Option Int} {sz : Nat} {row : Option Nat} (h : SMap w b n f sz) (hg : w.grownBy w' row) (hne : row ≠ some b) : SMap w' b n f sz := by
  obtain ⟨D, h1, h2⟩ := h
  exact ⟨D, h1.kept hg (fun e => hne e.symm), h2⟩
theorem SMap.ext {w w' : World} {b n : Nat} {f : List UInt8 → Option Int} {sz : Nat} (h : SMap w b n f sz) (hE : Ext w w') : SMap w' b n f sz := h.kept hE.grownBy (by simp)
theorem SMap.lt {w : World} {b n : Nat} {f : List UInt8 → Option Int} {sz : Nat} (h : SMap w b n f sz) : b < w.heap.size := by
  obtain ⟨D, h1, _⟩ := h
  exact h1.lt
theorem SMap.look {w : World} {b n : Nat} {f : List UInt8 → Option Int} {sz : Nat} (h : SMap w b n f sz) {s : List UInt8} (hs : s.length ≤ 9223372036854775807) :
    (Instr.lookup 45 (.map (some b)) (.string (str s)) false).run Tryd.prog w = .ok (.int .i64 ((f s).getD 0)) w := by
  obtain ⟨D, h1, h2, h3, h4⟩ := h
  obtain ⟨c, hrun, hat, _⟩ := h1.lookup_int (Maps.string_keyed Tryd.underlying9) Tryd.underlying45 Tryd.underlying3 (zero_int w) (key_str hs)
  rw [h4 s] at hat
  have hc : (f s).getD 0 = c := by
    simp only [DataW.lit.injEq, Lit.int.injEq] at hat
    exact hat.2
  rw [hrun, hc]
theorem SMap.len {w : World} {b n : Nat} {f : List UInt8 → Option Int} {sz : Nat} (h : SMap w b n f sz) (ty : TypeId) : (Builtin.len_ #[45] ty #[.map (some b)]).run Tryd.prog w = .ok (.int .i64 sz) w := by
  obtain ⟨D, h1, h2, _⟩ := h
  rw [h1.len Tryd.underlying45 ty, h2]
/-- A store into it. -/
theorem wpList_sput {w : World} {ops : Array Oper} {rest : List Oper} {o : Oper} {a : Act} {Q : Exit → Act → World → Prop} (hg : o.guard = none) (m x v : Operand) (hop : o.op = Op.mapUpdate 45 m x v)
    {b n : Nat} {f : List UInt8 → Option Int} {sz : Nat} (hm : a.eval m = .map (some b)) (h : SMap w b n f sz) (hn : n < 9223372036854775807) (s : List UInt8) (hx : a.eval x = .string (str s)) (hs : s.length ≤ 9223372036854775807) (z : Int) (hv : a.eval v = .int .i64 z) (hz : isI64 z)
    (hK : ∀ w', SMap w' b (n + 1) (supd f s z) (if (f s).isSome then sz else sz + 1) → w.grownBy w' (some b) → wpList Tryd.prog ops Q rest (a.put o.dst undef) w') : wpList Tryd.prog ops Q (o :: rest) a w := by
  obtain ⟨D, h1, h2, h3, h4⟩ := h
  have hw : (Lit.int .i64 z).wf = true := by
    unfold isI64 at hz
    simp [Lit.wf, IntKind.min, IntKind.max, IntKind.signed, IntKind.bits]
    omega
  refine wpList_mapUpdate_own w hg m x v _ hop _ _ (Maps.string_keyed Tryd.underlying9) Tryd.underlying45 _ b n D hm h1 (by unfold maxLen; omega) _ _ (.string s) hx hv (key_str hs) (.lit (.int .i64 z)) [] (plainElem_int Tryd.underlying3 hw) (fun w' hown hgrow => hK w' ⟨_, hown, ?_, fun t => ?_, fun t => ?_⟩ hgrow)
  · rw [Maps.size_put (h1.tidy (Maps.string_keyed Tryd.underlying9)), h3, h2]
  · unfold supd
    by_cases e : t = s
    · subst e
      rw [if_pos rfl, Maps.has_put_same h1.isMap (by trivial)]; rfl
    · rw [if_neg e, Maps.has_put_other (by simpa using e), h3]
  · unfold supd
    by_cases e : t = s
    · subst e
      rw [if_pos rfl, Maps.atKey_put_same h1.isMap (by trivial)]; rfl
    · rw [if_neg e, Maps.atKey_put_other (by simpa using e), h4]
end Go.Proofs.YtgclfmdpapadnaaDoor

open Go.RowKit Go.Shelf
namespace Go.Proofs.YtgclfmdpapadnaaDoor
open Go Go.Proofs Fm

set_option maxRecDepth 100000 in
set_option maxHeartbeats 1000000 in
theorem indexI_invo (l : List It) (f : FuncId) (eg : ∀ args w, (callFunc f args).run Tryd.prog w = .ok (.enter f args) w) (caps : Array Value) (q : Nat → Bool) (J : Nat → World → Prop) (w0 w : World) (v : Value) (h : itE.Row w0 l v) (hJ : ∀ i w', J i w' → Ext w0 w') (h0 : J 0 w)
    (hf : ∀ i (hi : i < l.length) w' x, J i w' → (∀ j, j < i → q j = false) → ItV w' l[i] x → Calls Tryd.prog f (#[x] ++ caps) w' fun e w'' => e = .returned (.bool (q i)) ∧ J (i + 1) w'') :
    Calls Tryd.prog 47 #[v, .func (.func f) #[] caps] w (IdxPost l.length q J) := by
  obtain ⟨a, c, rfl, hlc, hcm⟩ := h.slice
  have HR := Lib.hid h
  have HF := Lib.hid hf
  have HJ := Lib.hid hJ
  have hlm : l.length ≤ 9223372036854775807 := by omega
  clear h hf hJ
  go_enter Tryd.func47, Tryd.ntmps47
  go_wp2_with fail
  go_loopw [8] (fun i wr => ∃ j : Nat, j ≤ l.length ∧ i = .int .i64 j ∧ Hid (J j wr) ∧ Hid (∀ k, k < j → q k = false)) (fun i _ => l.length - (intOf i).toNat)
  case atStart => exact ⟨0, by omega, rfl, Lib.hid h0, Lib.hid (fun k hk => by omega)⟩
  case round =>
    clear h0
    obtain ⟨j, hj, rfl, HJj, HQ⟩ := hrel
    by_cases hlt : j < l.length
    · obtain ⟨b, off, rfl, hb, aa, m, cc, c0, c1, c2, c3, c4, c5, hs⟩ := it_at HR.out (HJ.out _ _ HJj.out) j hlt
      have HS := Lib.hid (hs.ext (HJ.out _ _ HJj.out))
      clear hs
      go_wp2_with fail
      refine (HF.out j hlt wr _ HJj.out HQ.out HS.out).mono ?_
      rintro e w1 ⟨rfl, hJ1⟩
      have HJ1 := Lib.hid hJ1
      clear hJ1 c0 c1 c2 c3 c4 c5
      cases hq : q j with
      | true =>
        have HX : Hid (IdxPost l.length q J (.returned (.int .i64 (j : Int))) w1) := Lib.hid (.inl ⟨j, hlt, hq, HQ.out, rfl, HJ1.out⟩)
        clear hq
        go_wp2
        go_ret
        exact HX.out
      | false =>
        have HQ1 : Hid (∀ k, k < j + 1 → q k = false) := Lib.hid (fun k hk => by
          by_cases h : k = j
          · rw [h]; exact hq
          · exact HQ.out k (by omega))
        clear hq
        go_wp2
        go_roundw
        case rel => exact ⟨j + 1, by omega, by go_num, HJ1, HQ1⟩
        case measure => simp [intOf]; omega
    · obtain rfl : j = l.length := by omega
      have HX : Hid (IdxPost l.length q J (.returned (.int .i64 (-1))) wr) := Lib.hid (.inr ⟨HQ.out, rfl, HJj.out⟩)
      go_wp2
      go_ret
      exact HX.out
set_option maxRecDepth 100000 in
set_option maxHeartbeats 1000000 in
theorem hasI_invo (l : List It) (f : FuncId) (eg : ∀ args w, (callFunc f args).run Tryd.prog w = .ok (.enter f args) w) (caps : Array Value) (q : Nat → Bool) (J : Nat → World → Prop) (w0 w : World) (v : Value) (h : itE.Row w0 l v) (hJ : ∀ i w', J i w' → Ext w0 w') (h0 : J 0 w)
    (hf : ∀ i (hi : i < l.length) w' x, J i w' → (∀ j, j < i → q j = false) → ItV w' l[i] x → Calls Tryd.prog f (#[x] ++ caps) w' fun e w'' => e = .returned (.bool (q i)) ∧ J (i + 1) w'') :
    Calls Tryd.prog 25 #[v, .func (.func f) #[] caps] w (HasPost l.length q J) := by
  have hC := indexI_invo l f eg caps q J w0 w v h hJ h0 hf
  obtain ⟨a, c, rfl, hlc, hcm⟩ := h.slice
  have HC := Lib.hid hC
  clear h hf hJ hC h0
  go_enter Tryd.func25, Tryd.ntmps25
  go_wp2_with fail
  refine HC.out.mono ?_
  rintro e w1 (⟨i, hi, h1, h2, rfl, h3⟩ | ⟨h1, rfl, h3⟩)
  · have HX : Hid (HasPost l.length q J (.returned (.bool true)) w1) := Lib.hid (.inl ⟨i, hi, h1, h2, rfl, h3⟩)
    clear h1 h2 h3
    have h0 : (0 : Int) ≤ (i : Int) := by omega
    go_wp2
    go_ret
    exact HX.out
  · have HX : Hid (HasPost l.length q J (.returned (.bool false)) w1) := Lib.hid (.inr ⟨h1, rfl, h3⟩)
    clear h1 h3
    go_wp2
    go_ret
    exact HX.out
attribute [local go_sem] Oper.semAt_some
/-- How many have a name. -/
def nmC (l : List It) (s : List UInt8) : Nat := (l.filter (fun x => decide (x.name = s))).length
def metN (l : List It) : List UInt8 → Option Int := fun s => if nmC l s = 0 then none else some (nmC l s : Int)
theorem nmC_step {l : List It} {i : Nat} (hi : i < l.length) (s : List UInt8) : nmC (l.take (i + 1)) s = nmC (l.take i) s + (if l[i].name = s then 1 else 0) := by
  unfold nmC
  rw [List.take_succ_eq_append_getElem hi, List.filter_append, List.length_append]
  congr 1
  by_cases h : l[i].name = s <;> simp [h]
theorem metN_get (l : List It) (s : List UInt8) : (metN l s).getD 0 = (nmC l s : Int) := by
  unfold metN
  by_cases h : nmC l s = 0
  · rw [if_pos h, h]; rfl
  · rw [if_neg h]; rfl
theorem metN_put {l : List It} {i : Nat} (hi : i < l.length) : supd (metN (l.take i)) l[i].name ((nmC (l.take i) l[i].name : Int) + 1) = metN (l.take (i + 1)) := by
  funext s
  unfold supd metN
  rw [nmC_step hi]
  by_cases h : s = l[i].name
  · subst h
    simp
  · have hne : ¬ l[i].name = s := fun e => h e.symm
    rw [if_neg h]
    simp [hne]
theorem nmC_le (l : List It) (s : List UInt8) : nmC l s ≤ l.length := List.length_filter_le _ _
theorem nmC_pos {l : List It} {i : Nat} (hi : i < l.length) : decide (0 < nmC (l.take i) l[i].name) = (l.take i).any (fun y => decide (y.name = l[i].name)) := by
  rw [Bool.eq_iff_iff]
  unfold nmC
  simp only [decide_eq_true_eq, List.length_pos_iff_exists_mem, List.mem_filter, List.any_eq_true]
/-- The rounds of twice. -/
def TwSt (w0 : World) (l : List It) (b B : Nat) (i : Nat) (X : World) : Prop := Ext w0 X ∧ X.cell? ⟨b, 0, none⟩ = some (.map (some B)) ∧ b < X.heap.size ∧ ∃ sz, SMap X B i (metN (l.take i)) sz
set_option maxRecDepth 100000 in
set_option maxHeartbeats 2000000 in
theorem ctwice1_any (l : List It) (hl : l.length ≤ 1000000) (w0 : World) (b B : Nat) (hbB : b ≠ B) (hB0 : w0.heap.size ≤ B) (i : Nat) (hi : i < l.length) (w : World) (x : Value) (h : TwSt w0 l b B i w) (hx : ItV w l[i] x) :
    Calls Tryd.prog 75 #[x, .pointer (some ⟨b, 0, none⟩)] w fun e w' => e = .returned (.bool (decide (0 < nmC (l.take i) l[i].name))) ∧ TwSt w0 l b B (i + 1) w' := by
  obtain ⟨hE0, hcell, hlt, sz, hM⟩ := h
  obtain ⟨a, m, c, rfl, hr, ln, lo, iw, iq⟩ := hx
  have hE := (Ext.refl w).alloc (.cells #[.string (str l[i].name), .int .u8 (l[i].kind.toNat : Int), .slice a m c, .string (str l[i].over), .int .i64 l[i].width, .int .i64 l[i].quota] 27)
  have hBx := BoxL.new w [.string (str l[i].name), .int .u8 (l[i].kind.toNat : Int), .slice a m c, .string (str l[i].over), .int .i64 l[i].width, .int .i64 l[i].quota] 27
  have HE := Lib.hid (hE0.trans hE)
  have hc1 := (hE.cell (p := ⟨b, 0, none⟩) hlt).trans hcell
  have HM := Lib.hid (hM.ext hE)
  have hBl := hM.lt
  have hsz := hE.size
  have HP := Lib.hid (metN_put hi)
  have HS1 := Lib.hid (nmC_step hi l[i].name)
  have hle := Nat.le_trans (nmC_le (l.take i) l[i].name) (by rw [List.length_take]; omega : (l.take i).length ≤ l.length)
  clear hr lo iw iq hE hE0 hcell hM
  go_enter Tryd.func75, Tryd.ntmps75
  go_upto_region 1 with (fail)
  generalize w.alloc (.cells #[.string (str l[i].name), .int .u8 (l[i].kind.toNat : Int), .slice a m c, .string (str l[i].over), .int .i64 l[i].width, .int .i64 l[i].quota] 27) = W1 at *
  have y0 := hBx.cell 0 _ rfl
  have HBx := Lib.hid hBx
  have hlk := HM.out.look ln
  rw [metN_get] at hlk
  clear hBx
  generalize hn : nmC (l.take i) l[i].name = n at *
  have HN := Lib.hid hn
  clear hn
  go_upto_region 2 with (refine wpList_sput rfl _ _ _ rfl rfl HM.out (by omega) l[i].name rfl ln ((n : Int) + 1) rfl (by unfold isI64; omega) ?_; intro w3 hm3 hg3)
  rw [HP.out] at hm3
  have hlk3 := hm3.look ln
  rw [metN_get, HS1.out, if_pos rfl] at hlk3
  have HM3 := Lib.hid hm3
  have HE3 := Lib.hid (HE.out.grown hg3 (fun k hk => by injection hk with hk; omega))
  have hc3 : w3.cell? ⟨b, 0, none⟩ = some (.map (some B)) := (World.cell?_of_block (w := W1) (a := ⟨b, 0, none⟩) (hg3.block b (by omega) (fun e => by injection e with e; exact hbB e))).trans hc1
  have HC3 := Lib.hid hc3
  have hz3 := hg3.size
  have y3 := (HBx.out.kept hg3 (fun e => by injection e with e; omega)).cell 0 _ rfl
  clear hc1 y0 hlk hm3 hg3 HBx HM HE HP HS1
  go_wp2
  go_ret
  refine ⟨?_, HE3.out, HC3.out, by omega, _, HM3.out⟩
  rw [HN.out]
  show Ending.returned (.bool (decide ((1 : Int) < (n : Int) + 1))) = Ending.returned (.bool (decide (0 < n)))
  rw [show decide ((1 : Int) < (n : Int) + 1) = decide (0 < n) by rw [decide_eq_decide]; omega]
theorem twice_has {items : List It} {b : Bool} (h : (∃ i, i < items.length ∧ decide (0 < nmC (items.take i) ((items.getD i ⟨[], 0, [], [], 0, 0⟩).name)) = true ∧ b = true) ∨ ((∀ j, j < items.length → decide (0 < nmC (items.take j) ((items.getD j ⟨[], 0, [], [], 0, 0⟩).name)) = false) ∧ b = false)) : twiceF items = b := by
  have e : ∀ i (hi : i < items.length), items.getD i ⟨[], 0, [], [], 0, 0⟩ = items[i] := fun i hi => by simp [hi]
  unfold twiceF
  rcases h with ⟨i, hi, h1, rfl⟩ | ⟨h1, rfl⟩
  · rw [List.any_eq_true]
    refine ⟨i, List.mem_range.2 hi, ?_⟩
    rw [e i hi] at h1 ⊢
    rw [← nmC_pos hi]; exact h1
  · rw [List.any_eq_false]
    intro i hi
    have hi := List.mem_range.1 hi
    have := h1 i hi
    rw [e i hi] at this ⊢
    rw [← nmC_pos hi, this]; simp
theorem metN_nil : metN [] = fun _ => none := by funext s; unfold metN nmC; simp
set_option maxRecDepth 100000 in
set_option maxHeartbeats 2000000 in
theorem ctwice_any (nd : List Nd) (items : List It) (hl : items.length ≤ 1000000) (k0 k1 k2 k3 k4 ow q : Int) (w : World) (nv iv : Value) (hN : ndE.Row w nd nv) (hI : itE.Row w items iv) :
    Calls Tryd.prog 55 #[.agg (askV k0 k1 k2 k3 k4 nv ow q iv)] w fun e w' => e = .returned (.bool (twiceF items)) ∧ Ext w w' := by
  have HN := Lib.hid hN
  have HI := Lib.hid hI
  obtain ⟨an, cn, rfl, hn1, hn2⟩ := hN.slice
  obtain ⟨ai, ci, rfl, hi1, hi2⟩ := hI.slice
  have hmm := @run_makeMap Tryd.prog
  clear hN hI
  unfold askV at *
  go_enter Tryd.func55, Tryd.ntmps55
  go_upto_region 1 with (fail)
  have hE1 := (Ext.refl w).alloc (.cells #[.int .i64 k0, .int .i64 k1, .int .i64 k2, .int .i64 k3, .int .i64 k4, .slice an nd.length cn, .int .i64 ow, .int .i64 q, .slice ai items.length ci] 67)
  have hB1 := BoxL.new w [.int .i64 k0, .int .i64 k1, .int .i64 k2, .int .i64 k3, .int .i64 k4, .slice an nd.length cn, .int .i64 ow, .int .i64 q, .slice ai items.length ci] 67
  have hz1 : (w.alloc (.cells #[.int .i64 k0, .int .i64 k1, .int .i64 k2, .int .i64 k3, .int .i64 k4, .slice an nd.length cn, .int .i64 ow, .int .i64 q, .slice ai items.length ci] 67)).heap.size = w.heap.size + 1 := by simp
  generalize w.alloc (.cells #[.int .i64 k0, .int .i64 k1, .int .i64 k2, .int .i64 k3, .int .i64 k4, .slice an nd.length cn, .int .i64 ow, .int .i64 q, .slice ai items.length ci] 67) = W1 at *
  go_upto_region 2 with (fail)
  have hM := SMap.new W1
  have hB2 := BoxL.new (W1.alloc (.map #[] 0)) [.map (some (w.heap.size + 1))] 45
  have hE2 := (Ext.refl W1).alloc (.map #[] 0)
  have hE3 := (Ext.refl (W1.alloc (.map #[] 0))).alloc (.cells #[.map (some (w.heap.size + 1))] 45)
  have hM := hM.ext hE3
  rw [World.size_alloc, hz1] at hB2
  rw [hz1] at hM
  have HA := Lib.hid ((hB1.ext hE2).ext hE3)
  have HE3 := Lib.hid ((hE1.trans hE2).trans hE3)
  generalize (W1.alloc (.map #[] 0)).alloc (.cells #[.map (some (w.heap.size + 1))] 45) = W3 at *
  have hc3 := hB2.cell 0 _ rfl
  have hlt3 := hB2.lt
  have HH := Lib.hid (chas_post nd items k0 k1 k2 k3 k4 ow q W3 _ _ (.func (.func 75) #[] #[.pointer (some ⟨w.heap.size + 1 + 1, 0, none⟩)]) (HN.out.ext HE3.out) (HI.out.ext HE3.out) (twiceF items) (Ext w) 75 #[] #[.pointer (some ⟨w.heap.size + 1 + 1, 0, none⟩)] rfl (fun X hX =>
    (hasI_invo items 75 (enters_of Tryd.func75 (by kernel_rfl) rfl) #[.pointer (some ⟨w.heap.size + 1 + 1, 0, none⟩)] (fun i => decide (0 < nmC (items.take i) ((items.getD i ⟨[], 0, [], [], 0, 0⟩).name))) (TwSt w items (w.heap.size + 1 + 1) (w.heap.size + 1)) w X _ HI.out (fun i w' h => h.1)
      ⟨HE3.out.trans hX, (hX.cell (p := ⟨w.heap.size + 1 + 1, 0, none⟩) hlt3).trans hc3, Nat.lt_of_lt_of_le hlt3 hX.size, 0, by rw [List.take_zero, metN_nil]; exact hM.ext hX⟩
      (fun i hi w' x hJ _ hx => by
        simp only [show items.getD i ⟨[], 0, [], [], 0, 0⟩ = items[i] by simp [hi]]
        exact ctwice1_any items hl w (w.heap.size + 1 + 1) (w.heap.size + 1) (by omega) (by omega) i hi w' x hJ hx)).mono (fun e w' h => by
        rcases h with ⟨i, hi, h1, h2, rfl, h3⟩ | ⟨h1, rfl, h3⟩
        · exact ⟨by rw [twice_has (.inl ⟨i, hi, h1, rfl⟩)], h3.1⟩
        · exact ⟨by rw [twice_has (.inr ⟨h1, rfl⟩)], h3.1⟩)))
  obtain ⟨z0, z1, z2, z3, z4, z5, z6, z7, z8⟩ := askL_cells _ HA.out
  clear hB1 hE1 hE2 hE3 hM hB2 HN HI HA hmm hz1
  unfold askV at HH
  go_wp2_with fail
  refine HH.out.mono ?_
  rintro e w2 ⟨rfl, hE2⟩
  have HE2 := Lib.hid hE2
  clear hE2 HH z0 z1 z2 z3 z4 z5 z6 z7 z8 hc3
  go_wp2
  go_ret
  exact ⟨rfl, HE2.out⟩
end Go.Proofs.YtgclfmdpapadnaaDoor

open Go.RowKit Go.Shelf
namespace Go.Proofs.YtgclfmdpapadnaaDoor
open Go Go.Proofs Fm

set_option maxRecDepth 100000 in
set_option maxHeartbeats 1000000 in
theorem indexS_invb (l : List (List UInt8)) (f : FuncId) (eg : ∀ args w, (callFunc f args).run Tryd.prog w = .ok (.enter f args) w) (X0 : Value) (q : Nat → Bool) (J : Nat → World → Prop) (w : World) (v : Value) (h : strE.Row w l v) (hJ : ∀ i w', J i w' → Ext w w') (h0 : J 0 w)
    (hf : ∀ i (hi : i < l.length) w', J i w' → (∀ j, j < i → q j = false) → l[i].length ≤ 9223372036854775807 → Calls Tryd.prog f (#[X0, .string (str l[i])]) w' fun e w'' => e = .returned (.bool (q i)) ∧ J (i + 1) w'') :
    Calls Tryd.prog 71 #[v, .func (.func f) #[X0] #[]] w (IdxPost l.length q J) := by
  obtain ⟨a, c, rfl, hlc, hcm, hR⟩ := strRow_slice h
  have HR := Lib.hid hR
  have HF := Lib.hid hf
  have HJ := Lib.hid hJ
  have hlm : l.length ≤ 9223372036854775807 := by omega
  clear h hR hf hJ
  go_enter Tryd.func71, Tryd.ntmps71
  go_wp2_with fail
  go_loopw [8] (fun i wr => ∃ j : Nat, j ≤ l.length ∧ i = .int .i64 j ∧ Hid (J j wr) ∧ Hid (∀ k, k < j → q k = false)) (fun i _ => l.length - (intOf i).toNat)
  case atStart => exact ⟨0, by omega, rfl, Lib.hid h0, Lib.hid (fun k hk => by omega)⟩
  case round =>
    clear h0
    obtain ⟨j, hj, rfl, HJj, HQ⟩ := hrel
    by_cases hlt : j < l.length
    · obtain ⟨b, off, rfl, hb, hc, hs⟩ := str_at HR.out (HJ.out _ _ HJj.out) j hlt
      have HS := Lib.hid hs
      clear hs
      go_wp2_with fail
      refine (HF.out j hlt wr HJj.out HQ.out HS.out).mono ?_
      rintro e w1 ⟨rfl, hJ1⟩
      have HJ1 := Lib.hid hJ1
      clear hJ1 hc
      cases hq : q j with
      | true =>
        have HX : Hid (IdxPost l.length q J (.returned (.int .i64 (j : Int))) w1) := Lib.hid (.inl ⟨j, hlt, hq, HQ.out, rfl, HJ1.out⟩)
        clear hq
        go_wp2
        go_ret
        exact HX.out
      | false =>
        have HQ1 : Hid (∀ k, k < j + 1 → q k = false) := Lib.hid (fun k hk => by
          by_cases h : k = j
          · rw [h]; exact hq
          · exact HQ.out k (by omega))
        clear hq
        go_wp2
        go_roundw
        case rel => exact ⟨j + 1, by omega, by go_num, HJ1, HQ1⟩
        case measure => simp [intOf]; omega
    · obtain rfl : j = l.length := by omega
      have HX : Hid (IdxPost l.length q J (.returned (.int .i64 (-1))) wr) := Lib.hid (.inr ⟨HQ.out, rfl, HJj.out⟩)
      go_wp2
      go_ret
      exact HX.out
set_option maxRecDepth 100000 in
set_option maxHeartbeats 1000000 in
theorem hasS_invb (l : List (List UInt8)) (f : FuncId) (eg : ∀ args w, (callFunc f args).run Tryd.prog w = .ok (.enter f args) w) (X0 : Value) (q : Nat → Bool) (J : Nat → World → Prop) (w : World) (v : Value) (h : strE.Row w l v) (hJ : ∀ i w', J i w' → Ext w w') (h0 : J 0 w)
    (hf : ∀ i (hi : i < l.length) w', J i w' → (∀ j, j < i → q j = false) → l[i].length ≤ 9223372036854775807 → Calls Tryd.prog f (#[X0, .string (str l[i])]) w' fun e w'' => e = .returned (.bool (q i)) ∧ J (i + 1) w'') :
    Calls Tryd.prog 50 #[v, .func (.func f) #[X0] #[]] w (HasPost l.length q J) := by
  have hC := indexS_invb l f eg X0 q J w v h hJ h0 hf
  obtain ⟨a, c, rfl, hlc, hcm, hR⟩ := strRow_slice h
  have HC := Lib.hid hC
  clear h hR hf hJ hC h0
  go_enter Tryd.func50, Tryd.ntmps50
  go_wp2_with fail
  refine HC.out.mono ?_
  rintro e w1 (⟨i, hi, h1, h2, rfl, h3⟩ | ⟨h1, rfl, h3⟩)
  · have HX : Hid (HasPost l.length q J (.returned (.bool true)) w1) := Lib.hid (.inl ⟨i, hi, h1, h2, rfl, h3⟩)
    clear h1 h2 h3
    have h0 : (0 : Int) ≤ (i : Int) := by omega
    go_wp2
    go_ret
    exact HX.out
  · have HX : Hid (HasPost l.length q J (.returned (.bool false)) w1) := Lib.hid (.inr ⟨h1, rfl, h3⟩)
    clear h1 h3
    go_wp2
    go_ret
    exact HX.out
set_option maxRecDepth 100000 in
set_option maxHeartbeats 1000000 in
theorem hasS_anyb (l : List (List UInt8)) (f : FuncId) (eg : ∀ args w, (callFunc f args).run Tryd.prog w = .ok (.enter f args) w) (X0 : Value) (p : List UInt8 → Bool) (w : World) (v : Value) (h : strE.Row w l v)
    (hf : ∀ s w', s ∈ l → Ext w w' → s.length ≤ 9223372036854775807 → Calls Tryd.prog f (#[X0, .string (str s)]) w' fun e w'' => e = .returned (.bool (p s)) ∧ Ext w' w'') :
    Calls Tryd.prog 50 #[v, .func (.func f) #[X0] #[]] w fun e w' => e = .returned (.bool (l.any p)) ∧ Ext w w' := by
  refine (hasS_invb l f eg X0 (fun i => if hi : i < l.length then p l[i] else false) (fun _ => Ext w) w v h (fun _ _ h => h) (Ext.refl w) (fun i hi w' hE _ hs => ?_)).mono ?_
  · simp only [dif_pos hi]
    exact (hf l[i] w' (List.getElem_mem hi) hE hs).mono fun e w'' ⟨a, b⟩ => ⟨a, hE.trans b⟩
  · rintro e w' (⟨i, hi, h1, h2, rfl, hE⟩ | ⟨h1, rfl, hE⟩)
    · simp only [dif_pos hi] at h1
      exact ⟨by rw [any_some hi h1], hE⟩
    · refine ⟨?_, hE⟩
      rw [any_none fun j hj => ?_]
      have := h1 j hj
      simpa only [dif_pos hj] using this
attribute [local go_sem] Oper.semAt_some
set_option maxHeartbeats 2000000 in
theorem crefers1_any (nd : List Nd) (items : List It) (hO : RightO nd) (hl : nd.length ≤ 1000000) (k0 k1 k2 k3 k4 ow q : Int) (nv iv : Value) (x : It) (w : World) (hN : ndE.Row w nd nv) (hI : itE.Row w items iv) (v : Value) (h : ItV w x v) (b : Nat) (hb : BoxL w b (askL k0 k1 k2 k3 k4 nv ow q iv)) :
    Calls Tryd.prog 76 #[v, .pointer (some ⟨b, 0, none⟩)] w fun e w' => e = .returned (.bool (x.after.any (lostF nd ow items) || (isMapI x && lostF nd ow items x.over))) ∧ Ext w w' := by
  obtain ⟨a, m, c, rfl, hr, ln, lo, iw, iq⟩ := h
  have hE := (Ext.refl w).alloc (.cells #[.string (str x.name), .int .u8 (x.kind.toNat : Int), .slice a m c, .string (str x.over), .int .i64 x.width, .int .i64 x.quota] 27)
  have hB := BoxL.new w [.string (str x.name), .int .u8 (x.kind.toNat : Int), .slice a m c, .string (str x.over), .int .i64 x.width, .int .i64 x.quota] 27
  have HM := Lib.hid (fun X (hX : Ext w X) => cisMap_any x X _ ⟨a, m, c, rfl, hr.ext hX, ln, lo, iw, iq⟩)
  have HLo := Lib.hid (fun X (hX : Ext w X) => clost_any nd items hO hl k0 k1 k2 k3 k4 ow q x.over lo X nv iv (hN.ext hX) (hI.ext hX))
  have HAf := Lib.hid (fun X (hX : Ext w X) => hasS_anyb x.after 77 (enters_of Tryd.func77 (by kernel_rfl) rfl) (.agg (askV k0 k1 k2 k3 k4 nv ow q iv)) (lostF nd ow items) X _ (hr.ext hX) (fun s w' _ hE' hs => clost_any nd items hO hl k0 k1 k2 k3 k4 ow q s hs w' nv iv (hN.ext (hX.trans hE')) (hI.ext (hX.trans hE'))))
  obtain ⟨an, cn, rfl, hn1, hn2⟩ := hN.slice
  obtain ⟨ai, ci, rfl, hi1, hi2⟩ := hI.slice
  have HA := Lib.hid (hb.ext hE)
  have HE := Lib.hid hE
  have HB := Lib.hid hB
  clear hr ln lo iw iq hE hB hb hN hI hO
  unfold askV at *
  go_enter Tryd.func76, Tryd.ntmps76
  go_upto_region 1 with (fail)
  generalize w.alloc (.cells #[.string (str x.name), .int .u8 (x.kind.toNat : Int), .slice a m c, .string (str x.over), .int .i64 x.width, .int .i64 x.quota] 27) = W1 at *
  have ⟨y0, y1, y2, y3, y4, y5⟩ := HB.out.six
  obtain ⟨z0, z1, z2, z3, z4, z5, z6, z7, z8⟩ := askL_cells _ HA.out
  go_wp2_with fail
  refine (HAf.out W1 HE.out).mono ?_
  clear HAf y0 y1 y2 y3 y4 y5 z0 z1 z2 z3 z4 z5 z6 z7 z8
  rintro e w2 ⟨rfl, hE2⟩
  have HB2 := Lib.hid (HB.out.ext hE2)
  have HA2 := Lib.hid (HA.out.ext hE2)
  have HE2 := Lib.hid (HE.out.trans hE2)
  clear hE2 HB HA HE
  cases ha : x.after.any (lostF nd ow items) with
  | true =>
    have HQ := Lib.hid ha
    clear ha HM HLo
    go_wp2
    go_ret
    exact ⟨by rw [HQ.out]; rfl, HE2.out⟩
  | false =>
    have HQ := Lib.hid ha
    clear ha
    have ⟨y0, y1, y2, y3, y4, y5⟩ := HB2.out.six
    go_wp2_with fail
    refine (HM.out w2 HE2.out).mono ?_
    clear HM y0 y1 y2 y3 y4 y5
    cases hm : isMapI x with
    | false =>
      have HP := Lib.hid hm
      rintro e w3 ⟨rfl, hE3⟩
      have HE3 := Lib.hid (HE2.out.trans hE3)
      clear hE3 hm HLo
      go_wp2
      go_ret
      exact ⟨by rw [HQ.out, HP.out]; rfl, HE3.out⟩
    | true =>
      have HP := Lib.hid hm
      rintro e w3 ⟨rfl, hE3⟩
      have y3 := (HB2.out.ext hE3).cell 3 _ rfl
      obtain ⟨z0, z1, z2, z3, z4, z5, z6, z7, z8⟩ := askL_cells _ (HA2.out.ext hE3)
      have HE3 := Lib.hid (HE2.out.trans hE3)
      clear hE3 hm
      go_wp2_with fail
      refine (HLo.out w3 HE3.out).mono ?_
      rintro e w4 ⟨rfl, hE4⟩
      have HE4 := Lib.hid (HE3.out.trans hE4)
      clear hE4 HLo y3 z0 z1 z2 z3 z4 z5 z6 z7 z8
      go_wp2
      go_ret
      exact ⟨by rw [HQ.out, HP.out]; simp, HE4.out⟩
set_option maxRecDepth 100000 in
set_option maxHeartbeats 2000000 in
theorem crefers_any (nd : List Nd) (items : List It) (hO : RightO nd) (hl : nd.length ≤ 1000000) (k0 k1 k2 k3 k4 ow q : Int) (w : World) (nv iv : Value) (hN : ndE.Row w nd nv) (hI : itE.Row w items iv) :
    Calls Tryd.prog 57 #[.agg (askV k0 k1 k2 k3 k4 nv ow q iv)] w fun e w' => e = .returned (.bool (refersF nd ow items)) ∧ Ext w w' := by
  have HX := Lib.hid (show refersF nd ow items = items.any (fun x => x.after.any (lostF nd ow items) || (isMapI x && lostF nd ow items x.over)) from rfl)
  have hE1 := (Ext.refl w).alloc (.cells (askL k0 k1 k2 k3 k4 nv ow q iv).toArray 67)
  have hB1 := BoxL.new w (askL k0 k1 k2 k3 k4 nv ow q iv) 67
  have HH := Lib.hid (chas_any nd items k0 k1 k2 k3 k4 ow q _ nv iv (hN.ext hE1) (hI.ext hE1) 76 (enters_of Tryd.func76 (by kernel_rfl) rfl) #[.pointer (some ⟨w.heap.size, 0, none⟩)] (fun x => x.after.any (lostF nd ow items) || (isMapI x && lostF nd ow items x.over)) (fun s w' x _ hE hx => crefers1_any nd items hO hl k0 k1 k2 k3 k4 ow q nv iv s w' (hN.ext (hE1.trans hE)) (hI.ext (hE1.trans hE)) x hx w.heap.size (hB1.ext hE)))
  obtain ⟨an, cn, rfl, hn1, hn2⟩ := hN.slice
  obtain ⟨ai, ci, rfl, hi1, hi2⟩ := hI.slice
  have HE1 := Lib.hid hE1
  clear hN hI hE1 hB1
  unfold askV at *
  simp only [askL] at HE1 HH
  go_enter Tryd.func57, Tryd.ntmps57
  go_wp2_with fail
  refine HH.out.mono ?_
  rintro e w2 ⟨rfl, hE2⟩
  have HE2 := Lib.hid (HE1.out.trans hE2)
  clear hE2 HH
  go_wp2
  go_ret
  exact ⟨by rw [HX.out]; rfl, HE2.out⟩
end Go.Proofs.YtgclfmdpapadnaaDoor

open Go.RowKit Go.Shelf
namespace Go.Proofs.YtgclfmdpapadnaaDoor
open Go Go.Proofs Fm
attribute [local go_sem] Oper.semAt_some

set_option maxHeartbeats 2000000 in
theorem call1_any (items : List It) (k0 k1 k2 k3 k4 ow q : Int) (nv iv : Value) (w : World) (hI : itE.Row w items iv) (b : Nat) (hb : BoxL w b (askL k0 k1 k2 k3 k4 nv ow q iv)) :
    Calls Tryd.prog 53 #[.pointer (some ⟨b, 0, none⟩)] w fun e w' => e = .returned (.bool (!fragB items)) ∧ Ext w w' := by
  have HR := Lib.hid (fright_any items w iv hI)
  obtain ⟨ai, ci, rfl, hi1, hi2⟩ := hI.slice
  have z8 := hb.cell 8 _ rfl
  clear hI hb
  go_enter Tryd.func53, Tryd.ntmps53
  go_wp2_with fail
  refine HR.out.mono ?_
  rintro e w2 ⟨rfl, hE2⟩
  have HE2 := Lib.hid hE2
  clear hE2 HR z8
  go_wp2
  go_ret
  exact ⟨rfl, HE2.out⟩
set_option maxRecDepth 100000 in
set_option maxHeartbeats 2000000 in
theorem call2_any (items : List It) (hf : ∀ x, x ∈ items → Fair x) (hl : items.length ≤ 1000) (k0 k1 k2 k3 k4 ow q : Int) (nv iv : Value) (w : World) (hI : itE.Row w items iv) (b : Nat) (hb : BoxL w b (askL k0 k1 k2 k3 k4 nv ow q iv)) :
    Calls Tryd.prog 58 #[.pointer (some ⟨b, 0, none⟩)] w fun e w' => e = .returned (.bool (decide (q < totalF items))) ∧ Ext w w' := by
  have HC := Lib.hid (fun X (hX : Ext w X) => ctotal_any items hf hl X iv (hI.ext hX))
  obtain ⟨ai, ci, rfl, hi1, hi2⟩ := hI.slice
  have HS : Hid (∀ w', Ext w w' → w'.cell? ⟨b, 8, none⟩ = some (.slice ai items.length ci) ∧ w'.cell? ⟨b, 7, none⟩ = some (.int .i64 q)) := Lib.hid (fun w' hE => ⟨(hb.ext hE).cell 8 _ rfl, (hb.ext hE).cell 7 _ rfl⟩)
  have HD0 := Lib.hid (Ext.refl w)
  clear hI hb
  go_enter Tryd.func58, Tryd.ntmps58
  go_upto_region 1 with (fail)
  go_region_held3 (fun w' => w'.cell? ⟨b, 8, none⟩ = some (.slice ai items.length ci) ∧ w'.cell? ⟨b, 7, none⟩ = some (.int .i64 q))
    (first | exact HS.out _ (Ext.drew HD0.out) | exact HS.out _ HD0.out | exact HS.out _ E1.out)
    (first | (go_at_call 11; refine (HC.out _ (Ext.drew HD0.out)).mono ?_; rintro e z1 ⟨rfl, hE⟩; have E1 := Lib.hid ((Ext.drew HD0.out).trans hE); clear hE))
  all_goals go_wp2
  all_goals go_ret
  all_goals exact ⟨rfl, E1.out⟩
end Go.Proofs.YtgclfmdpapadnaaDoor

open Go.RowKit Go.Shelf
namespace Go.Proofs.YtgclfmdpapadnaaDoor
open Go Go.Proofs Fm
attribute [local go_sem] Oper.semAt_some

/-- The seven that are asked, in order. -/
def allL (av : Value) (b : Nat) : List Value := [.int .i64 2, .func (.func 53) #[] #[.pointer (some ⟨b, 0, none⟩)], .int .i64 24, .func (.func 54) #[av] #[], .int .i64 20, .func (.func 55) #[av] #[], .int .i64 23, .func (.func 56) #[av] #[],
  .int .i64 21, .func (.func 57) #[av] #[], .int .i64 22, .func (.func 58) #[] #[.pointer (some ⟨b, 0, none⟩)], .int .i64 24, .func (.func 59) #[av] #[]]
set_option maxRecDepth 100000 in
set_option maxHeartbeats 2000000 in
theorem call_any (k0 k1 k2 k3 k4 ow q : Int) (an : Option Addr) (mn cn : Nat) (ai : Option Addr) (mi ci : Nat) (w : World) :
    Calls Tryd.prog 29 #[.agg (askV k0 k1 k2 k3 k4 (.slice an mn cn) ow q (.slice ai mi ci))] w fun e w' =>
      e = .returned (.func (.func 60) #[] #[.pointer (some ⟨w.heap.size + 2, 0, none⟩)]) ∧ BoxL w' w.heap.size (askL k0 k1 k2 k3 k4 (.slice an mn cn) ow q (.slice ai mi ci)) ∧ BoxL w' (w.heap.size + 1) (allL (.agg (askV k0 k1 k2 k3 k4 (.slice an mn cn) ow q (.slice ai mi ci))) w.heap.size) ∧ BoxL w' (w.heap.size + 2) [.slice (some ⟨w.heap.size + 1, 0, none⟩) 7 7] ∧ w'.heap.size = w.heap.size + 3 ∧ Ext w w' := by
  unfold askV
  have hz1 : (w.alloc (.cells #[.int .i64 k0, .int .i64 k1, .int .i64 k2, .int .i64 k3, .int .i64 k4, .slice an mn cn, .int .i64 ow, .int .i64 q, .slice ai mi ci] 67)).heap.size = w.heap.size + 1 := by simp
  have hE1 := (Ext.refl w).alloc (.cells #[.int .i64 k0, .int .i64 k1, .int .i64 k2, .int .i64 k3, .int .i64 k4, .slice an mn cn, .int .i64 ow, .int .i64 q, .slice ai mi ci] 67)
  go_enter Tryd.func29, Tryd.ntmps29
  go_upto_region 1 with (fail)
  have hB1 := BoxL.new w [.int .i64 k0, .int .i64 k1, .int .i64 k2, .int .i64 k3, .int .i64 k4, .slice an mn cn, .int .i64 ow, .int .i64 q, .slice ai mi ci] 67
  obtain ⟨z0, z1, z2, z3, z4, z5, z6, z7, z8⟩ := askL_cells _ hB1
  generalize w.alloc (.cells #[.int .i64 k0, .int .i64 k1, .int .i64 k2, .int .i64 k3, .int .i64 k4, .slice an mn cn, .int .i64 ow, .int .i64 q, .slice ai mi ci] 67) = W1 at *
  go_upto_region 2 with (fail)
  obtain ⟨R, hR⟩ : ∃ R, R = allL (.agg #[.int .i64 k0, .int .i64 k1, .int .i64 k2, .int .i64 k3, .int .i64 k4, .slice an mn cn, .int .i64 ow, .int .i64 q, .slice ai mi ci]) w.heap.size := ⟨_, rfl⟩
  have hE2 := (Ext.refl W1).alloc (.cells R.toArray 85)
  have hE3 := (Ext.refl (W1.alloc (.cells R.toArray 85))).alloc (.cells #[.slice (some ⟨W1.heap.size, 0, none⟩) 7 7] 86)
  have hB2 := (BoxL.new W1 R 85).ext hE3
  have hB3 := BoxL.new (W1.alloc (.cells R.toArray 85)) [.slice (some ⟨W1.heap.size, 0, none⟩) 7 7] 86
  have hA := (hB1.ext hE2).ext hE3
  have hE := (hE1.trans hE2).trans hE3
  have hz : ((W1.alloc (.cells R.toArray 85)).alloc (.cells #[.slice (some ⟨W1.heap.size, 0, none⟩) 7 7] 86)).heap.size = w.heap.size + 3 := by simp [hz1]
  rw [World.size_alloc] at hB3
  rw [hR] at hB2 hB3 hA hE hz
  simp only [allL] at hB2 hB3 hA hE hz
  simp only [hz1] at *
  have HB2 := Lib.hid hB2
  have HB3 := Lib.hid hB3
  have HA := Lib.hid hA
  have HE := Lib.hid hE
  have HZ := Lib.hid hz
  clear hB1 hB2 hB3 hA hE hz hE1 hE2 hE3 hR z0 z1 z2 z3 z4 z5 z6 z7 z8
  go_wp2
  go_ret
  exact ⟨rfl, HA.out, HB2.out, HB3.out, HZ.out, HE.out⟩
end Go.Proofs.YtgclfmdpapadnaaDoor

open Go.RowKit Go.Shelf
namespace Go.Proofs.YtgclfmdpapadnaaDoor
open Go Go.Proofs Fm
attribute [local go_sem] Oper.semAt_some

/-- One that is asked: its error, and the function. -/
structure Asks where
  e : Int
  f : Nat
  bnd : Array Value
  caps : Array Value
def Asks.fv (x : Asks) : Value := .func (.func x.f) x.bnd x.caps
set_option maxRecDepth 100000 in
set_option maxHeartbeats 1000000 in
theorem all3_in (n l bS bR : Nat) (L : List Asks) (hL : L.length ≤ 1000) (w : World) (hbS : bS < w.heap.size) (hbR : bR < w.heap.size) (hS : w.cell? ⟨bS, 0, none⟩ = some (.slice (some ⟨bR, 0, none⟩) L.length L.length))
    (hR : ∀ k (hk : k < L.length), w.cell? ⟨bR, k * 2, none⟩ = some (.int .i64 L[k].e) ∧ w.cell? ⟨bR, k * 2 + 1, none⟩ = some (.func (.func L[k].f) L[k].bnd L[k].caps))
    (J Jx : List Asks → World → Prop) (aJ : ∀ s X Y, J s X → (∃ o, Y = X.alloc o) → J s Y)
    (hY : ∀ (pre : List Asks) (x : Asks) X, J pre X → (∃ post, L = pre ++ x :: post) → YieldAt Fence.wide (n - 1) Tryd.prog l #[.int .i64 x.e, .func (.func x.f) x.bnd x.caps] X fun e Y =>
      (e = .returned (.bool true) ∧ J (pre ++ [x]) Y ∧ Below w.heap.size X Y) ∨ (e = .returned (.bool false) ∧ Jx (pre ++ [x]) Y))
    (W : World) (hW : Ext w W) (h0 : J [] W) :
    CallsIn Fence.wide n Tryd.prog 60 #[.func (.yield l) #[] #[], .pointer (some ⟨bS, 0, none⟩)] W fun e W' =>
      (∃ v, e = .returned v) ∧ (J L W' ∨ ∃ pre, Jx pre W') := by
  have hfn : ∀ f, Fence.wide.fn f := fun _ => trivial
  have hdp : Fence.wide.depth.isSome = false := rfl
  have c1 := (hW.cell (p := ⟨bS, 0, none⟩) hbS).trans hS
  have HY := Lib.hid hY
  have HW := Lib.hid hW
  have HJ0 := Lib.hid h0
  have HA := Lib.hid aJ
  have HR := Lib.hid hR
  refine callsIn_of_wp Tryd.func60 rfl trivial ?_ rfl
  simp only [Tryd.ntmps60, List.size_toArray, List.length_cons, List.length_nil, Nat.reduceAdd, Nat.reduceSub, Array.replicate_succ, Array.replicate_zero, List.push_toArray, List.append_toArray, List.nil_append, List.cons_append]
  clear hY h0 hW aJ hR hS
  obtain ⟨LN, hLN⟩ : ∃ LN, LN = L.length := ⟨_, rfl⟩
  rw [← hLN] at c1 hL
  have HLN := Lib.hid hLN
  clear hLN
  gi_wp2_with fail
  gi_loopw [7] (fun o wr => ∃ (j : Nat), o = .int .i64 j ∧ j ≤ LN ∧ Hid (Ext w wr) ∧ Hid (J (L.take j) wr)) (fun o _ => LN - (intOf o).toNat)
  case atStart => exact ⟨0, rfl, by omega, HW, HJ0⟩
  case round =>
    clear c1 HW HJ0
    obtain ⟨j, rfl, hj, HW, HJ⟩ := hrel
    rename World => wr
    by_cases hlt : j < LN
    case neg =>
      have HE := Lib.hid (show J L wr by have := HJ.out; rwa [show j = L.length by have := HLN.out; omega, List.take_length] at this)
      gi_wp2
      first | go_end0 | (refine bodyPost_ret (results_none rfl _ _ _) rfl ?_)
      exact ⟨⟨_, rfl⟩, .inl HE.out⟩
    have hi : j < L.length := by have := HLN.out; omega
    have hj0 : (0 : Int) ≤ (j : Int) := by omega
    have hj1 : (j : Int) < (LN : Int) := by omega
    obtain ⟨r0, r1⟩ := HR.out j hi
    have x0 := (HW.out.cell (p := ⟨bR, j * 2, none⟩) hbR).trans r0
    have x1 := (HW.out.cell (p := ⟨bR, j * 2 + 1, none⟩) hbR).trans r1
    clear r0 r1
    obtain ⟨fn, tmps, assign, body, hy, hRn⟩ := HY.out (L.take j) L[j] (wr.alloc (.cells #[.int .i64 L[j].e, .func (.func L[j].f) L[j].bnd L[j].caps] 85)) (HA.out _ _ _ HJ.out ⟨_, rfl⟩) ⟨L.drop (j + 1), by rw [← List.drop_eq_getElem_cons hi, List.take_append_drop]⟩
    gi_wp2
    refine hRn.mono ?_
    rintro e W3 (⟨rfl, hJ3, hk3⟩ | ⟨rfl, hJx3⟩)
    · have HE3 := Lib.hid ((HW.out.alloc (.cells #[.int .i64 L[j].e, .func (.func L[j].f) L[j].bnd L[j].caps] 85)).then hk3)
      have HJ3 := Lib.hid (show J (L.take (j + 1)) W3 by rw [List.take_succ_eq_append_getElem hi]; exact hJ3)
      clear hJ3 hk3
      gi_wp2
      go_roundw
      case rel => exact ⟨j + 1, by go_num, by omega, HE3, HJ3⟩
      case measure => simp [intOf]; omega
    · gi_wp2
      first | go_end0 | (refine bodyPost_ret (results_none rfl _ _ _) rfl ?_)
      exact ⟨⟨_, rfl⟩, .inr ⟨_, hJx3⟩⟩
/-- The iterator's contract. -/
theorem all3_stops (n bS bR : Nat) (L : List Asks) (hL : L.length ≤ 1000) (w : World) (hbS : bS < w.heap.size) (hbR : bR < w.heap.size) (hS : w.cell? ⟨bS, 0, none⟩ = some (.slice (some ⟨bR, 0, none⟩) L.length L.length))
    (hR : ∀ k (hk : k < L.length), w.cell? ⟨bR, k * 2, none⟩ = some (.int .i64 L[k].e) ∧ w.cell? ⟨bR, k * 2 + 1, none⟩ = some (.func (.func L[k].f) L[k].bnd L[k].caps)) :
    SeqAb Fence.wide n Tryd.prog 60 #[.pointer (some ⟨bS, 0, none⟩)] (fun (x : Asks) => #[.int .i64 x.e, .func (.func x.f) x.bnd x.caps]) (fun X Y => ∃ o, Y = X.alloc o) (Below w.heap.size) (fun xs => xs = L) (fun _ => True) (fun pre x => ∃ post, L = pre ++ x :: post) w := by
  intro l J Jx W hW aJ aJx hY h0
  refine (all3_in n l bS bR L hL w hbS hbR hS hR J Jx aJ hY W hW h0).mono ?_
  rintro e W' ⟨hv, h | ⟨pre, h⟩⟩
  · exact ⟨hv, .inl ⟨_, rfl, h⟩⟩
  · exact ⟨hv, .inr ⟨pre, trivial, h⟩⟩
end Go.Proofs.YtgclfmdpapadnaaDoor

namespace Fm
open Go Go.RowKit

def saysL (D W : Int) (l : List Nd) (owner quota : Int) (items : List It) : List Bool := [!fragB items, wideF W items, twiceF items, deepB D l owner items, refersF l owner items, decide (quota < totalF items), overF l owner items]
def errL : List Int := [2, 24, 20, 23, 21, 22, 24]
theorem checkF_at {D W : Int} {l : List Nd} {owner quota : Int} {items : List It} {k : Nat} (hk : k < 7) (h1 : ∀ j, j < k → (saysL D W l owner quota items).getD j false = false) (h2 : (saysL D W l owner quota items).getD k false = true) : checkF D W l owner quota items = errL.getD k 0 := by
  have a0 := fun h : 0 < k => h1 0 h
  have a1 := fun h : 1 < k => h1 1 h
  have a2 := fun h : 2 < k => h1 2 h
  have a3 := fun h : 3 < k => h1 3 h
  have a4 := fun h : 4 < k => h1 4 h
  have a5 := fun h : 5 < k => h1 5 h
  clear h1
  unfold checkF
  match k, hk with
  | 0, _ | 1, _ | 2, _ | 3, _ | 4, _ | 5, _ | 6, _ =>
    simp [saysL, errL] at a0 a1 a2 a3 a4 a5 h2 ⊢
    simp_all
theorem checkF_none {D W : Int} {l : List Nd} {owner quota : Int} {items : List It} (h1 : ∀ j, j < 7 → (saysL D W l owner quota items).getD j false = false) : checkF D W l owner quota items = 0 := by
  have a0 := h1 0 (by decide)
  have a1 := h1 1 (by decide)
  have a2 := h1 2 (by decide)
  have a3 := h1 3 (by decide)
  have a4 := h1 4 (by decide)
  have a5 := h1 5 (by decide)
  have a6 := h1 6 (by decide)
  clear h1
  unfold checkF
  simp [saysL] at a0 a1 a2 a3 a4 a5 a6
  simp_all
  try omega
end Fm

open Go.RowKit Go.Shelf
namespace Go.Proofs.YtgclfmdpapadnaaDoor
open Go Go.Proofs Fm
attribute [local go_sem] Oper.semAt_some

/-- The seven as a row. -/
def askRow (av : Value) (b : Nat) : List Asks := [⟨2, 53, #[], #[.pointer (some ⟨b, 0, none⟩)]⟩, ⟨24, 54, #[av], #[]⟩, ⟨20, 55, #[av], #[]⟩, ⟨23, 56, #[av], #[]⟩, ⟨21, 57, #[av], #[]⟩, ⟨22, 58, #[], #[.pointer (some ⟨b, 0, none⟩)]⟩, ⟨24, 59, #[av], #[]⟩]
theorem askRow_cells {w : World} {av : Value} {b r : Nat} (h : BoxL w r (allL av b)) : ∀ k (hk : k < (askRow av b).length), w.cell? ⟨r, k * 2, none⟩ = some (.int .i64 (askRow av b)[k].e) ∧ w.cell? ⟨r, k * 2 + 1, none⟩ = some (.func (.func (askRow av b)[k].f) (askRow av b)[k].bnd (askRow av b)[k].caps)
  | 0, _ => ⟨h.cell 0 _ rfl, h.cell 1 _ rfl⟩
  | 1, _ => ⟨h.cell 2 _ rfl, h.cell 3 _ rfl⟩
  | 2, _ => ⟨h.cell 4 _ rfl, h.cell 5 _ rfl⟩
  | 3, _ => ⟨h.cell 6 _ rfl, h.cell 7 _ rfl⟩
  | 4, _ => ⟨h.cell 8 _ rfl, h.cell 9 _ rfl⟩
  | 5, _ => ⟨h.cell 10 _ rfl, h.cell 11 _ rfl⟩
  | 6, _ => ⟨h.cell 12 _ rfl, h.cell 13 _ rfl⟩
  | k + 7, hk => absurd hk (by simp [askRow])
theorem fair_of {items : List It} (h : fragB items = true) : ∀ x, x ∈ items → Fair x := by
  intro x hx
  unfold fragB at h
  rw [Bool.and_eq_true, List.all_eq_true] at h
  have h1 := h.1 x hx
  unfold itB at h1
  simp only [Bool.and_eq_true, decide_eq_true_eq] at h1
  obtain ⟨⟨⟨-, h3⟩, -⟩, h2⟩ := h1
  unfold Fair
  by_cases hk : x.kind = 0
  · simp only [hk, if_true, Bool.and_eq_true, decide_eq_true_eq] at h2
    omega
  · rw [if_neg hk] at h2
    simp only [Bool.and_eq_true, decide_eq_true_eq] at h2
    omega
theorem frag_leave {w W : World} {x : Int} {D R : Nat} (tmps : Array Value) (h2 : tmps[10]?.getD undef = .pointer (some ⟨R, 0, none⟩)) (hE : Ext w W) (bR : BoxL W R [.int .i64 x]) (hD : w.heap.size ≤ D) (hRD : R ≠ D) (hK : W.heap[D]? = some (.deferred (some []))) :
    bodyPostM Fence.wide 3 Tryd.prog Tryd.f14 (fun e w' => e = .returned (.int .i64 x) ∧ Ext w w') .ret { tmps := tmps, defers := [{ target := .collected D, args := #[] }] } W := by
  refine ⟨by simp, .inl ⟨_, _, rfl, run_takeDeferred hK, ?_⟩⟩
  have hg := grownBy_putObj' W D (.deferred none)
  have e1 := bR.kept hg (fun e => by injection e with e; omega)
  have hP := hE.grown hg (fun k e => by injection e with e; omega)
  generalize W.putObj D (.deferred none) = W' at *
  have y0 := e1.cell 0 _ rfl
  exact ⟨_, by simp [results, Tryd.results14, go_sem, h2, y0], rfl, hP⟩
set_option maxRecDepth 100000 in
set_option maxHeartbeats 2000000 in
theorem cFrag_any (nd : List Nd) (items : List It) (hO : RightO nd) (hl : nd.length ≤ 1000000) (hi : items.length ≤ 1000) (k0 k1 k2 k3 k4 ow q : Int) (w : World) (nv iv : Value) (hN : ndE.Row w nd nv) (hI : itE.Row w items iv) :
    Calls Tryd.prog 14 #[.agg #[.int .i64 k0, .int .i64 k1, .int .i64 k2, .int .i64 k3, .int .i64 k4], nv, .int .i64 ow, .int .i64 q, iv] w fun e w' => e = .returned (.int .i64 (checkF k1 k2 nd ow q items)) ∧ Ext w w' := by
  have hfn : ∀ f, Fence.wide.fn f := fun _ => trivial
  have hdp : Fence.wide.depth.isSome = false := rfl
  have HN := Lib.hid hN
  have HI := Lib.hid hI
  have HO := Lib.hid hO
  obtain ⟨an, cn, rfl, hn1, hn2⟩ := hN.slice
  obtain ⟨ai, ci, rfl, hi1, hi2⟩ := hI.slice
  have hE1 := (Ext.refl w).alloc (.cells #[.int .i64 k0, .int .i64 k1, .int .i64 k2, .int .i64 k3, .int .i64 k4] 32)
  have hE2 := hE1.alloc (.cells #[.int .i64 0] 37)
  have hR := (BoxL.new (w.alloc (.cells #[.int .i64 k0, .int .i64 k1, .int .i64 k2, .int .i64 k3, .int .i64 k4] 32)) [.int .i64 0] 37)
  rw [World.size_alloc] at hR
  have HE2 := Lib.hid hE2
  have HR := Lib.hid hR
  clear hN hI hO hE1 hE2 hR
  refine (callsIn_wide (n := 3)).1 ?_
  refine callsIn_of_wp_marks Tryd.func14 rfl trivial ?_ rfl
  simp only [Tryd.ntmps14, List.size_toArray, List.length_cons, List.length_nil, Nat.reduceAdd, Nat.reduceSub, Array.replicate_succ, Array.replicate_zero, List.push_toArray, List.append_toArray, List.nil_append, List.cons_append]
  gi_wp2_with (gi_at_call 29; refine (callsIn_wide.2 (call_any k0 k1 k2 k3 k4 ow q an _ cn ai _ ci _)).mono ?_; rintro e w1 ⟨rfl, hA, hB, hC, hz, hE⟩)
  simp only [World.size_alloc, Nat.add_assoc, Nat.reduceAdd] at hA hB hC hz ⊢
  obtain ⟨AV, hAV⟩ : ∃ AV, AV = Value.agg (askV k0 k1 k2 k3 k4 (.slice an nd.length cn) ow q (.slice ai items.length ci)) := ⟨_, rfl⟩
  rw [← hAV] at hB
  have HN1 := Lib.hid (HN.out.ext (HE2.out.trans hE))
  have HI1 := Lib.hid (HI.out.ext (HE2.out.trans hE))
  have HEw := Lib.hid (HE2.out.trans hE)
  have HR1 := Lib.hid (HR.out.ext hE)
  have HA := Lib.hid hA
  have HAV := Lib.hid hAV
  have hrow := askRow_cells hB
  have hcC := hC.cell 0 _ rfl
  clear hE hA HN HI HE2 HR hAV hB hC
  -- what each of the seven answers
  have HS := Lib.hid (fun X (hX : Ext w1 X) (k : Nat) (x : Asks) (hx : (askRow AV (w.heap.size + 2))[k]? = some x) (h0 : ∀ j, j < k → (saysL k1 k2 nd ow q items).getD j false = false) =>
    (show (∀ args W, (callFunc x.f args).run Tryd.prog W = .ok (.enter x.f args) W) ∧ Calls Tryd.prog x.f (x.bnd ++ x.caps) X fun e w' => e = .returned (.bool ((saysL k1 k2 nd ow q items).getD k false)) ∧ Ext X w' from by
      have hN := HN1.out.ext hX
      have hI := HI1.out.ext hX
      have hA := HA.out.ext hX
      match k, hx with
      | 0, hx => cases hx; refine ⟨enters_of Tryd.func53 (by kernel_rfl) rfl, ?_⟩; exact call1_any items k0 k1 k2 k3 k4 ow q _ _ X hI _ hA
      | 1, hx => cases hx; refine ⟨enters_of Tryd.func54 (by kernel_rfl) rfl, ?_⟩; rw [HAV.out]; exact cwide_any nd items k0 k1 k2 k3 k4 ow q X _ _ hN hI
      | 2, hx => cases hx; refine ⟨enters_of Tryd.func55 (by kernel_rfl) rfl, ?_⟩; rw [HAV.out]; exact ctwice_any nd items (by omega) k0 k1 k2 k3 k4 ow q X _ _ hN hI
      | 3, hx => cases hx; refine ⟨enters_of Tryd.func56 (by kernel_rfl) rfl, ?_⟩; rw [HAV.out]; exact cdeep_any nd items HO.out hl k0 k1 k2 k3 k4 ow q X _ _ hN hI
      | 4, hx => cases hx; refine ⟨enters_of Tryd.func57 (by kernel_rfl) rfl, ?_⟩; rw [HAV.out]; exact crefers_any nd items HO.out hl k0 k1 k2 k3 k4 ow q X _ _ hN hI
      | 5, hx => cases hx; refine ⟨enters_of Tryd.func58 (by kernel_rfl) rfl, ?_⟩; exact call2_any items (fair_of (by have := h0 0 (by omega); simpa [saysL] using this)) hi k0 k1 k2 k3 k4 ow q _ _ X hI _ hA
      | 6, hx => cases hx; refine ⟨enters_of Tryd.func59 (by kernel_rfl) rfl, ?_⟩; rw [HAV.out]; exact cover_any nd items HO.out hl k0 k1 k2 k3 k4 ow q X _ _ hN hI
      | k + 7, hx => exact absurd hx (by simp [askRow])))
  clear HN1 HI1 HA
  refine wpIn_rangeFunc_ab rfl (by decide) (gf := 60) (lb := #[.pointer (some ⟨w.heap.size + 4, 0, none⟩)]) rfl trivial (enters_of Tryd.func60 (by kernel_rfl) rfl)
    (all3_stops _ (w.heap.size + 4) (w.heap.size + 3) (askRow AV (w.heap.size + 2)) (by simp [askRow]) w1 (by omega) (by omega) hcC hrow) (Below.refl _ _) (fun _ => rfl)
    (fun X Y ⟨o, h⟩ k u _ hk _ => by rw [h]; exact (Below.heap_alloc _ _ _ (Array.getElem?_eq_some_iff.1 hk).1).trans hk) (fun h k => h.trans k) (fun X l o o' hl ho hc => (Below.refl _ X).grown (grownBy_putObj' X l o') (by have := (Array.getElem?_eq_some_iff.1 ho).1; omega) (fun k e => by injection e with e; omega))
    (fun pre X => Ext w1 X ∧ ∀ j, j < pre.length → (saysL k1 k2 nd ow q items).getD j false = false)
    (fun c _ X => c = .ret ∧ Ext w X ∧ BoxL X (w.heap.size + 1) [.int .i64 (checkF k1 k2 nd ow q items)])
    (by rintro pre X Y row ⟨h1, h2⟩ hg hr; exact ⟨h1.grown hg (fun k e => (hr k e).1), h2⟩)
    (by rintro c pre X Y row ⟨h0, h1, h2⟩ hg hr; exact ⟨h0, h1.grown hg (fun k e => by have := (hr k e).1; omega), h2.kept hg (fun e => by have := (hr _ e).1; omega)⟩)
    (fun s X Y ⟨h1, h2⟩ ⟨o, h⟩ => ⟨by rw [h]; exact h1.alloc o, h2⟩) (fun c s X Y ⟨h0, h1, h2⟩ ⟨o, h⟩ => ⟨h0, by rw [h]; exact h1.alloc o, by rw [h]; exact h2.ext ((Ext.refl X).alloc o)⟩) ⟨Ext.refl w1, fun j hj => absurd hj (Nat.not_lt_zero _)⟩
    (fun x => { tmps := #[.agg #[.int .i64 k0, .int .i64 k1, .int .i64 k2, .int .i64 k3, .int .i64 k4], .slice an nd.length cn, .int .i64 ow, .int .i64 q, .slice ai items.length ci, .pointer (some ⟨w.heap.size, 0, none⟩), undef, undef, undef, undef, .pointer (some ⟨w.heap.size + 1, 0, none⟩), .int .i64 x.e, .func (.func x.f) x.bnd x.caps, .agg #[.int .i64 k0, .int .i64 k1, .int .i64 k2, .int .i64 k3, .int .i64 k4], .slice an nd.length cn, .int .i64 ow, .int .i64 q, .slice ai items.length ci, .agg #[.int .i64 k0, .int .i64 k1, .int .i64 k2, .int .i64 k3, .int .i64 k4, .slice an nd.length cn, .int .i64 ow, .int .i64 q, .slice ai items.length ci], .func (.func 60) #[] #[.pointer (some ⟨w.heap.size + 4, 0, none⟩)], .int .i64 x.e, .func (.func x.f) x.bnd x.caps, undef, undef, undef], defers := [] }) ?assign ?body ?done ?stop
  case assign =>
    intro l x W K hK
    gi_wp2
    exact hK
  case body =>
    rintro l pre x W ⟨hE, hno⟩ ⟨post, hp⟩
    have hx : (askRow AV (w.heap.size + 2))[pre.length]? = some x := by rw [hp]; simp
    have hk : pre.length < 7 := by
      have : (askRow AV (w.heap.size + 2)).length = 7 := rfl
      rw [hp] at this
      simp at this
      omega
    obtain ⟨eg, hC⟩ := HS.out W hE pre.length x hx hno
    have HER := Lib.hid (show (saysL k1 k2 nd ow q items).getD pre.length false = true → x.e = checkF k1 k2 nd ow q items from fun h => by
      rw [checkF_at hk hno h]
      match pre.length, hk, hx with
      | 0, _, hx | 1, _, hx | 2, _, hx | 3, _, hx | 4, _, hx | 5, _, hx | 6, _, hx => cases hx; rfl)
    have HNO := Lib.hid (show (saysL k1 k2 nd ow q items).getD pre.length false = false → ∀ j, j < (pre ++ [x]).length → (saysL k1 k2 nd ow q items).getD j false = false from fun h j hj => by
      rw [List.length_append, List.length_singleton] at hj
      by_cases e : j = pre.length
      · rw [e]; exact h
      · exact hno j (by omega))
    obtain ⟨b, hb⟩ : ∃ b, b = (saysL k1 k2 nd ow q items).getD pre.length false := ⟨_, rfl⟩
    rw [← hb] at hC HER HNO
    have HC := Lib.hid hC
    have HE := Lib.hid hE
    have hR := HR1.out.ext hE
    have HR := Lib.hid hR
    have hE1 := hE
    clear hx hp hno hb hC hE hR hcC hrow HS
    obtain ⟨xe, xf, xb, xc⟩ := x
    simp only at eg HC HER ⊢
    gi_wp2_with fail
    refine (CallsIn.inRound l (callsIn_wide.2 HC.out)).mono ?_
    rintro e w2 ⟨rfl, hE2⟩
    have HE2 := Lib.hid hE2
    have c0 := (HR.out.ext hE2).cell 0 _ rfl
    have c1 := (HR.out.ext hE2).free 0
    clear hE2
    cases b with
    | false =>
      gi_wp2
      exact ⟨KeepsFrom.of_grownBy HE2.out.grownBy (fun j e => by cases e), HE2.out.mono hE1.size, HE.out.trans HE2.out, HNO.out trivial⟩
    | true =>
      gi_wp2
      refine ⟨KeepsFrom.of_grownBy (row := some (w.heap.size + 1)) (grown_trans (grown_ext HE2.out _) (setOne_grown w2 (w.heap.size + 1) 0 (.int .i64 xe))) (fun j e => by injection e with e; omega), rfl, ((HEw.out.trans HE.out).trans HE2.out).setCell (p := ⟨w.heap.size + 1, 0, none⟩) (Nat.le_succ _) _, ?_⟩
      rw [← HER.out trivial]
      exact (HR.out.ext HE2.out).set 0 (by simp) _
  case done =>
    rintro D xs W hD rfl ⟨hE, hno⟩ hK
    have hR := HR1.out.ext hE
    have c0 := hR.cell 0 _ rfl
    have c1 := hR.free 0
    have HX := Lib.hid (show checkF k1 k2 nd ow q items = 0 from checkF_none hno)
    have HE := Lib.hid (HEw.out.trans hE)
    have HR := Lib.hid hR
    have HK := Lib.hid hK
    clear hE hR hno hK hcC hrow HS
    gi_wp2
    have hg := setOne_grown W (w.heap.size + 1) 0 (.int .i64 0)
    refine frag_leave (x := checkF k1 k2 nd ow q items) _ rfl (HE.out.setCell (p := ⟨w.heap.size + 1, 0, none⟩) (Nat.le_succ _) _) ?_ (D := D) (by omega) (by omega) ?_
    · rw [HX.out]
      exact HR.out.set 0 (by simp) _
    · exact (hg.block D (Array.getElem?_eq_some_iff.1 HK.out).1 (fun e => by injection e with e; omega)).trans HK.out
  case stop =>
    rintro D cd pre W hD - ⟨rfl, hE, bR⟩ hK
    gi_wp2
    exact frag_leave _ rfl hE bR (by omega) (by omega) hK
end Go.Proofs.YtgclfmdpapadnaaDoor

namespace Fm
open Go Go.RowKit

/-- Nodes of which all that is asked stands. -/
structure SameS (l l' : List Nd) (owner : Int) : Prop where
  len : l.length = l'.length
  all : ∀ (i : Nat) (h1 : i < l.length) (h2 : i < l'.length), l'[i].flow = l[i].flow ∧ l'[i].owner = l[i].owner ∧ l'[i].kind = l[i].kind ∧ l'[i].width = l[i].width
  names : ∀ (i : Nat) (h1 : i < l.length) (h2 : i < l'.length), 0 ≤ owner → l[i].flow = (nthF l owner).flow → l[i].owner ∈ ownersF l owner.toNat → l'[i].name = l[i].name
theorem SameS.place {l l' : List Nd} {owner : Int} (h : SameS l l' owner) (i : Int) : placeF l' i = placeF l i := by unfold placeF; rw [h.len]
theorem twiceF_iff {items : List It} : twiceF items = false ↔ ∀ (i j : Nat) (hi : i < items.length) (hj : j < i), items[j].name ≠ items[i].name := by
  unfold twiceF
  rw [List.any_eq_false]
  constructor
  · intro h i j hi hj e
    have h1 := h i (List.mem_range.2 hi)
    apply h1
    rw [List.any_eq_true]
    refine ⟨items[j], ?_, ?_⟩
    · rw [List.mem_take_iff_getElem]
      exact ⟨j, by omega, rfl⟩
    · rw [List.getD_eq_getElem?_getD, List.getElem?_eq_getElem hi, Option.getD_some, decide_eq_true_eq]
      exact e
  · intro h i hi hh
    have hi := List.mem_range.1 hi
    rw [List.any_eq_true] at hh
    obtain ⟨y, hy, e⟩ := hh
    rw [List.mem_take_iff_getElem] at hy
    obtain ⟨j, hj, rfl⟩ := hy
    rw [List.getD_eq_getElem?_getD, List.getElem?_eq_getElem hi, Option.getD_some, decide_eq_true_eq] at e
    exact h i j hi (by omega) e
end Fm

namespace Fm
open Go Go.RowKit

/-- A node in memory of its own from 'base' on; block g is none of it. -/
def NdIn (eI eV : TypeId) (base : Nat) (w : World) (n : Nd) (C : List Value) (g : Option Nat) : Prop :=
  ∃ (a : Option Addr) (m c : Nat) (k N S l : Value) (F : Nat → Prop), C = ndCells n (.slice a m c) k N S l ∧ OwnN eI base w (.slice a m c) n.after ∧ (∀ b, (Value.slice a m c).ownBlock = some b → g ≠ some b) ∧
    Owns eV w base n.val (.agg #[k, N, S, l]) F ∧ (∀ b, F b → g ≠ some b) ∧ ndWf n
theorem NdIn.cells {eI eV : TypeId} {base : Nat} {w : World} {n : Nd} {C : List Value} {g : Option Nat} (h : NdIn eI eV base w n C g) : C.length = 16 := by
  obtain ⟨a, m, c, k, N, S, l, F, rfl, -⟩ := h; rfl
theorem NdIn.v {eI eV : TypeId} {base : Nat} {w : World} {n : Nd} {C : List Value} {g : Option Nat} (h : NdIn eI eV base w n C g) : NdV w n (.agg C.toArray) := by
  obtain ⟨a, m, c, k, N, S, l, F, rfl, h1, -, h2, -, h3⟩ := h
  obtain ⟨w1, w2, w3, w4, w5, w6, w7, w8, w9, w10, w11⟩ := h3
  exact ⟨a, m, c, k, N, S, l, rfl, h1.row w11, h2.lies, w1, w2, w3, w4, w5, w6, w7, w8, w9⟩
theorem NdIn.keep {eI eV : TypeId} {base : Nat} {w w' : World} {n : Nd} {C : List Value} {g g' row : Option Nat} (h : NdIn eI eV base w n C g) (hg : w.grownBy w' row) (hr : ∀ b, row = some b → b < base ∨ g = some b) (hat : ∀ b, g' = some b → g = some b ∨ w.heap.size ≤ b) : NdIn eI eV base w' n C g' := by
  obtain ⟨a, m, c, k, N, S, l, F, rfl, h1, h2, h3, h4, h5⟩ := h
  refine ⟨a, m, c, k, N, S, l, F, rfl, ?_, fun b hb e => ?_, h3.grown hg (fun b hb hF => ?_), fun b hb e => ?_, h5⟩
  · refine World.ownsRow.kept h1 hg ?_
    cases hv : (Value.slice a m c).ownBlock with
    | none => exact .inl rfl
    | some b =>
      right; intro e
      rcases hr b e.symm with q | q
      · have := (World.ownsRow.lt h1 b hv).1; omega
      · exact h2 b hv q
  · rcases hat b e with q | q
    · exact h2 b hb q
    · have := (World.ownsRow.lt h1 b hb).2; omega
  · rcases hr b hb with q | q
    · have := (h3.bounds b hF).1; omega
    · exact h4 b hF q
  · rcases hat b e with q | q
    · exact h4 b hb q
    · have := (h3.bounds b hb).2; omega
/-- Nodes in memory of their own. -/
def OwnNds (eN eI eV : TypeId) (base : Nat) (w : World) (v : Value) (l : List Nd) : Prop :=
  ∃ cs : List (List Value), cs.length = l.length ∧ w.ownsRow base eN 16 v l.length cs.flatten ∧ ∀ (i : Nat) (hi : i < l.length) (hc : i < cs.length), NdIn eI eV base w l[i] cs[i] v.ownBlock
theorem OwnNds.nil (eN eI eV : TypeId) (base : Nat) (w : World) : OwnNds eN eI eV base w (.slice none 0 0) [] := ⟨[], rfl, World.ownsRow_nil w base eN 16, fun i hi => by simp at hi⟩
theorem OwnNds.kept {eN eI eV : TypeId} {base : Nat} {w w' : World} {v : Value} {l : List Nd} {row : Option Nat} (h : OwnNds eN eI eV base w v l) (hg : w.grownBy w' row) (hr : ∀ b, row = some b → b < base) : OwnNds eN eI eV base w' v l := by
  obtain ⟨cs, h1, h2, h3⟩ := h
  have hlt := h2.lt
  refine ⟨cs, h1, h2.kept hg ?_, fun i hi hc => (h3 i hi hc).keep hg (fun b hb => .inl (hr b hb)) (fun b hb => .inl hb)⟩
  cases hv : v.ownBlock with
  | none => exact .inl rfl
  | some b => right; exact fun e => by have := hr b e.symm; have := (hlt b hv).1; omega
theorem OwnNds.ext {eN eI eV : TypeId} {base : Nat} {w w' : World} {v : Value} {l : List Nd} (h : OwnNds eN eI eV base w v l) (hE : Ext w w') : OwnNds eN eI eV base w' v l := h.kept (row := none) hE.grownBy (fun b hb => by cases hb)
theorem NdIn.mono {eI eV : TypeId} {base base' : Nat} {w : World} {n : Nd} {C : List Value} {g : Option Nat} (h : NdIn eI eV base w n C g) (hb : base' ≤ base) : NdIn eI eV base' w n C g := by
  obtain ⟨a, m, c, k, N, S, l, F, rfl, h1, h2, h3, h4, h5⟩ := h
  exact ⟨a, m, c, k, N, S, l, F, rfl, h1.mono hb, h2, h3.mono hb, h4, h5⟩
theorem OwnNds.mono {eN eI eV : TypeId} {base base' : Nat} {w : World} {v : Value} {l : List Nd} (h : OwnNds eN eI eV base w v l) (hb : base' ≤ base) : OwnNds eN eI eV base' w v l := by
  obtain ⟨cs, h1, h2, h3⟩ := h
  exact ⟨cs, h1, ownsRow_base h2 hb, fun i hi hc => (h3 i hi hc).mono hb⟩
theorem flat16 : ∀ (cs : List (List Value)) (i j : Nat) (hi : i < cs.length), (∀ C, C ∈ cs → C.length = 16) → j < 16 → cs.flatten[i * 16 + j]? = cs[i][j]?
  | [], i, _, hi, _, _ => by simp at hi
  | C :: cs, 0, j, _, h, hj => by
    have := h C (List.mem_cons_self ..)
    rw [List.flatten_cons, List.getElem?_append_left (by omega)]
    simp
  | C :: cs, i + 1, j, hi, h, hj => by
    have hC := h C (List.mem_cons_self ..)
    have ih := flat16 cs i j (by simpa using hi) (fun D hD => h D (List.mem_cons_of_mem _ hD)) hj
    rw [List.flatten_cons, List.getElem?_append_right (by omega)]
    have e : (i + 1) * 16 + j - C.length = i * 16 + j := by omega
    rw [e, ih]
    simp
theorem OwnNds.row {eN eI eV : TypeId} {base : Nat} {w : World} {v : Value} {l : List Nd} (h : OwnNds eN eI eV base w v l) : ndE.Row w l v := by
  obtain ⟨cs, h1, h2, h3⟩ := h
  have hc := fun g => World.ownsRow.cells h2 (g := g)
  have h16 : ∀ C, C ∈ cs → C.length = 16 := fun C hC => by
    obtain ⟨i, hi, rfl⟩ := List.getElem_of_mem hC
    exact (h3 i (by omega) hi).cells
  rcases h2.2 with ⟨rfl, h0⟩ | ⟨g, cap, cur, rfl, hb, hg, hl, hm, h5, h6⟩
  · have : l = [] := List.eq_nil_of_length_eq_zero h0
    subst this
    exact Elem.Row.void ndE w none
  · refine Elem.Row.mk rfl hl hm (Array.getElem?_eq_some_iff.1 hg).1 (fun i hi => ?_)
    have hd : i < cs.length := by omega
    have hn := h3 i hi hd
    refine ⟨fun j => cs[i].getD j .nilFunc, ?_, fun j hj => ?_⟩
    · obtain ⟨a, m, c, k, N, S, x, F, e, k1, -, k2, -, k3⟩ := hn
      obtain ⟨w1, w2, w3, w4, w5, w6, w7, w8, w9, w10, w11⟩ := k3
      rw [e]
      exact ⟨⟨rfl, rfl, rfl, rfl, rfl, rfl⟩, k1.row w11, ⟨rfl, rfl, rfl, rfl, rfl⟩, k2.lies, w1, w2, w3, w4, w5, w6, w7, w8, w9⟩
    · have hj16 : j < 16 := hj
      have hlen := hn.cells
      have := hc g rfl (i * 16 + j) (cs[i].getD j .nilFunc) (by
        rw [flat16 cs i j hd h16 hj16, List.getD_eq_getElem?_getD, List.getElem?_eq_getElem (by omega)]; rfl)
      rw [Addr.add_lit] at this
      exact this
/-- A state in memory of its own. -/
def SnOwn (eN eI eV : TypeId) (base : Nat) (w : World) (s : Sn) (v : Value) : Prop :=
  ∃ (a : Option Addr) (m c : Nat), v = .agg #[.int .i64 s.cq, .int .i64 s.cd, .int .i64 s.cw, .int .i64 s.cr, .int .i64 s.cf, .int .i64 s.flows, .slice a m c, .int .i64 s.tok] ∧ OwnNds eN eI eV base w (.slice a m c) s.nodes ∧
    isI64 s.cq ∧ isI64 s.cd ∧ isI64 s.cw ∧ isI64 s.cr ∧ isI64 s.cf ∧ isI64 s.flows ∧ isI64 s.tok
theorem SnOwn.v {eN eI eV : TypeId} {base : Nat} {w : World} {s : Sn} {v : Value} (h : SnOwn eN eI eV base w s v) : SnV w s v := by
  obtain ⟨a, m, c, h1, h2, h3⟩ := h
  exact ⟨a, m, c, h1, h2.row, h3⟩
theorem SnOwn.kept {eN eI eV : TypeId} {base : Nat} {w w' : World} {s : Sn} {v : Value} {row : Option Nat} (h : SnOwn eN eI eV base w s v) (hg : w.grownBy w' row) (hr : ∀ b, row = some b → b < base) : SnOwn eN eI eV base w' s v := by
  obtain ⟨a, m, c, h1, h2, h3⟩ := h
  exact ⟨a, m, c, h1, h2.kept hg hr, h3⟩
theorem SnOwn.ext {eN eI eV : TypeId} {base : Nat} {w w' : World} {s : Sn} {v : Value} (h : SnOwn eN eI eV base w s v) (hE : Ext w w') : SnOwn eN eI eV base w' s v := h.kept (row := none) hE.grownBy (fun b hb => by cases hb)

/-! ### Parse's steps -/
def z8 : List Value := [.int .i64 0, .int .i64 0, .int .i64 0, .int .i64 0, .int .i64 0, .int .i64 0, .slice none 0 0, .int .i64 0]
structure PSt (w wr : World) (ss : List Value) : Prop where
  e : Ext w wr
  pb : BoxL wr w.heap.size z8
  sb : BoxL wr (w.heap.size + 1 + 1) ss
theorem PSt.then {w wr wx : World} {ss : List Value} (h : PSt w wr ss) (hE : Ext wr wx) : PSt w wx ss := ⟨h.e.trans hE, h.pb.ext hE, h.sb.ext hE⟩
theorem PSt.step {w wr wx : World} {ss : List Value} (h : PSt w wr ss) (hg : wr.grownBy wx (some (w.heap.size + 1))) : PSt w wx ss :=
  ⟨h.e.grown hg (fun k hk => by injection hk with hk; omega), h.pb.kept hg (fun e => by injection e with e; omega), h.sb.kept hg (fun e => by injection e with e; omega)⟩
theorem PSt.far {w wr wx : World} {ss : List Value} (h : PSt w wr ss) {row : Option Nat} (hg : wr.grownBy wx row) (hr : ∀ k, row = some k → w.heap.size + 1 + 1 < k) : PSt w wx ss :=
  ⟨h.e.grown hg (fun k hk => by have := hr k hk; omega), h.pb.kept hg (fun e => by have := hr _ e; omega), h.sb.kept hg (fun e => by have := hr _ e; omega)⟩
theorem PSt.set {w wr : World} {ss : List Value} (h : PSt w wr ss) (j : Nat) (hj : j < ss.length) (u : Value) : PSt w (wr.setCell ⟨w.heap.size + 1 + 1, j, none⟩ u) (ss.set j u) := by
  have hg := setOne_grown wr (w.heap.size + 1 + 1) j u
  exact ⟨h.e.grown hg (fun k hk => by injection hk with hk; omega), h.pb.kept hg (fun e => by injection e with e; omega), h.sb.set j hj u⟩
end Fm
