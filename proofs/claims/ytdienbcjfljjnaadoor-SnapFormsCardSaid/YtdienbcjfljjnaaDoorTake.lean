/- A region that draws its order, operation by operation: those that are wanted and those that are not. No program is imported. -/
import Derived.Deep.RegionHeld3
namespace Fm
open Go

section
variable {P : Program} {ops : Array Oper} {Q : Exit → Act → World → Prop} {md : Region.Mode} {S : World → Prop}

/-- Operation i is wanted, and only reads: it may come first. -/
theorem take_w (i : Nat) (d : Option Tmp) {v : Value} {fuel : Nat} {listed : Array Bool} {a : Act} {w : World}
    (hi : ops[i]? = some (ops.getD i default)) (hd : (ops.getD i default).dst = d) (hs : Region.noSelect ops = true) (hf : Region.free md ops listed i = true) (hr : (Region.ready md ops listed).contains i = true)
    (hQ : ∀ c a w, Q (.panic c) (a.put d v) w → Q (.panic c) a w) (hw : Region.wanted (ops.getD i default) (yielded ops a.tmps) = true)
    (hy : ∀ w, S w → (execOp a.eval (ops.getD i default)).run P w = .ok (.value v) w) (hS : S w)
    (h : wpAnyH P md ops Q S fuel (listed.setIfInBounds i true) (a.put d v) w) : wpAnyH P md ops Q S (fuel + 1) listed a w := by
  subst hd; exact wpAnyH_take hi hs hf hr hQ (.inl ⟨hw, hy⟩) hS h
/-- Operation i is not wanted: it may come first. -/
theorem take_u (i : Nat) (d : Option Tmp) {fuel : Nat} {listed : Array Bool} {a : Act} {w : World}
    (hi : ops[i]? = some (ops.getD i default)) (hd : (ops.getD i default).dst = d) (hs : Region.noSelect ops = true) (hf : Region.free md ops listed i = true) (hr : (Region.ready md ops listed).contains i = true)
    (hQ : ∀ c a w, Q (.panic c) (a.put d undef) w → Q (.panic c) a w) (hw : Region.wanted (ops.getD i default) (yielded ops a.tmps) = false) (hS : S w)
    (h : wpAnyH P md ops Q S fuel (listed.setIfInBounds i true) (a.put d undef) w) : wpAnyH P md ops Q S (fuel + 1) listed a w := by
  subst hd; exact wpAnyH_take hi hs hf hr hQ (.inr ⟨hw, rfl⟩) hS h
/-- Operations that are not wanted, one behind the other: each may come first. -/
def skipB (md : Region.Mode) (ops : Array Oper) : List (Nat × Option Tmp) → Array Bool → Act → Bool
  | [], _, _ => true
  | (i, d) :: is, listed, a => decide (i < ops.size) && decide ((ops.getD i default).dst = d) && Region.noSelect ops && Region.free md ops listed i && (Region.ready md ops listed).contains i && !(Region.wanted (ops.getD i default) (yielded ops a.tmps)) && skipB md ops is (listed.setIfInBounds i true) (a.put d undef)
def putU : List (Nat × Option Tmp) → Act → Act
  | [], a => a
  | (_, d) :: is, a => putU is (a.put d undef)
def setU : List (Nat × Option Tmp) → Array Bool → Array Bool
  | [], l => l
  | (i, _) :: is, l => setU is (l.setIfInBounds i true)
theorem take_us : ∀ (is : List (Nat × Option Tmp)) {fuel : Nat} {listed : Array Bool} {a : Act} {w : World}, skipB md ops is listed a = true →
    (∀ i c a w, Q (.panic c) (a.put (some i) undef) w → Q (.panic c) a w) → S w → wpAnyH P md ops Q S fuel (setU is listed) (putU is a) w → wpAnyH P md ops Q S (fuel + is.length) listed a w
  | [], _, _, _, _, _, _, _, h => h
  | (i, d) :: is, fuel, listed, a, w, hb, hQ, hS, h => by
    unfold skipB at hb
    simp only [Bool.and_eq_true, decide_eq_true_eq, Bool.not_eq_true'] at hb
    obtain ⟨⟨⟨⟨⟨⟨h1, h2⟩, h3⟩, h4⟩, h5⟩, h6⟩, h7⟩ := hb
    rw [List.length_cons, ← Nat.add_assoc]
    refine take_u i d ?_ h2 h3 h4 h5 (match d with | none => fun _ _ _ h => h | some j => hQ j) h6 hS (take_us is h7 hQ hS h)
    rw [Array.getElem?_eq_getElem h1, Array.getD_eq_getD_getElem?, Array.getElem?_eq_getElem h1]
    rfl
theorem take_un (n : Nat) (is : List (Nat × Option Tmp)) (hn : is.length = n) {fuel : Nat} {listed : Array Bool} {a : Act} {w : World} (hb : skipB md ops is listed a = true)
    (hQ : ∀ i c a w, Q (.panic c) (a.put (some i) undef) w → Q (.panic c) a w) (hS : S w) (h : wpAnyH P md ops Q S fuel (setU is listed) (putU is a) w) : wpAnyH P md ops Q S (fuel + n) listed a w := by
  subst hn; exact take_us is hb hQ hS h
/-- Operation i alone may come up. -/
theorem ready_one (i : Nat) {fuel : Nat} {listed : Array Bool} {a : Act} {w : World}
    (hi : ops[i]? = some (ops.getD i default)) (hr : Region.ready md ops listed = [i]) (hw : Region.wanted (ops.getD i default) (yielded ops a.tmps) = true)
    (h : ∀ K' : Act → World → Prop, Shut (∀ a w, S w → (S w → wpAnyH P md ops Q S fuel (listed.setIfInBounds i true) a w) → K' a w) → Oper.wp P (ops.getD i default) a w K' Q) : wpAnyH P md ops Q S (fuel + 1) listed a w :=
  wpAnyH_ready hr (by simp) (AllReadyH.cons hi (fun K hK => by rw [if_pos hw]; exact h K hK) AllReadyH.nil)
/-- One of two may come up. -/
theorem ready_two (i j : Nat) {fuel : Nat} {listed : Array Bool} {a : Act} {w : World}
    (hi : ops[i]? = some (ops.getD i default)) (hj : ops[j]? = some (ops.getD j default)) (hr : Region.ready md ops listed = [i, j]) (hw : Region.wanted (ops.getD i default) (yielded ops a.tmps) = true) (hw2 : Region.wanted (ops.getD j default) (yielded ops a.tmps) = true)
    (h : ∀ K' : Act → World → Prop, Shut (∀ a w, S w → (S w → wpAnyH P md ops Q S fuel (listed.setIfInBounds i true) a w) → K' a w) → Oper.wp P (ops.getD i default) a w K' Q)
    (h2 : ∀ K' : Act → World → Prop, Shut (∀ a w, S w → (S w → wpAnyH P md ops Q S fuel (listed.setIfInBounds j true) a w) → K' a w) → Oper.wp P (ops.getD j default) a w K' Q) : wpAnyH P md ops Q S (fuel + 1) listed a w :=
  wpAnyH_ready hr (by simp) (AllReadyH.cons hi (fun K hK => by rw [if_pos hw]; exact h K hK) (AllReadyH.cons hj (fun K hK => by rw [if_pos hw2]; exact h2 K hK) AllReadyH.nil))
/-- Operation i alone may come up, and it is not wanted. -/
theorem ready_u (i : Nat) (d : Option Tmp) {fuel : Nat} {listed : Array Bool} {a : Act} {w : World}
    (hi : ops[i]? = some (ops.getD i default)) (hd : (ops.getD i default).dst = d) (hr : Region.ready md ops listed = [i]) (hw : Region.wanted (ops.getD i default) (yielded ops a.tmps) = false) (hS : S w)
    (h : wpAnyH P md ops Q S fuel (listed.setIfInBounds i true) (a.put d undef) w) : wpAnyH P md ops Q S (fuel + 1) listed a w := by
  subst hd
  exact wpAnyH_ready hr (by simp) (AllReadyH.cons hi (fun K hK => by rw [if_neg (by rw [hw]; exact Bool.false_ne_true)]; exact hK.out _ _ hS (fun _ => h)) AllReadyH.nil)
end
end Fm
