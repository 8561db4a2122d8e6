/- Texts and items in memory of their own: plain facts. No program is imported. -/
import Derived.Test.YtnbalamacpcanaaDoorFrE
import Derived.Test.YtnbalamacpcanaaDoorAppAt
import Derived.Test.YtnbalamacpcanaaDoorTreeF
namespace Fm
open Go Go.RowKit

def strV (s : List UInt8) : Value := .string (str s)
/-- The texts l in a row of their own, from block 'base' on. e: the elements' type. -/
def OwnS (e : TypeId) (base : Nat) (w : World) (v : Value) (l : List (List UInt8)) : Prop := w.ownsRow base e 1 v l.length (l.map strV) ∧ ∀ s, s ∈ l → s.length ≤ 9223372036854775807
theorem OwnS.nil (e : TypeId) (base : Nat) (w : World) : OwnS e base w (.slice none 0 0) [] := ⟨World.ownsRow_nil w base e 1, fun s h => by cases h⟩
theorem OwnS.ext {e : TypeId} {base : Nat} {w w' : World} {v : Value} {l : List (List UInt8)} (h : OwnS e base w v l) (hE : Ext w w') : OwnS e base w' v l := ⟨hE.own h.1, h.2⟩
theorem ownsRow_base {w : World} {base base' e size n : Nat} {v : Value} {xs : List Value} (h : w.ownsRow base e size v n xs) (hb : base' ≤ base) : w.ownsRow base' e size v n xs := by
  refine ⟨h.1, ?_⟩
  rcases h.2 with h | ⟨g, cap, cur, a, b, c⟩
  · exact .inl h
  · exact .inr ⟨g, cap, cur, a, by omega, c⟩
theorem OwnS.mono {e : TypeId} {base base' : Nat} {w : World} {v : Value} {l : List (List UInt8)} (h : OwnS e base w v l) (hb : base' ≤ base) : OwnS e base' w v l := ⟨ownsRow_base h.1 hb, h.2⟩
theorem OwnS.kept {e : TypeId} {base : Nat} {w w' : World} {v : Value} {l : List (List UInt8)} {row : Option Nat} (h : OwnS e base w v l) (hg : w.grownBy w' row) (hr : ∀ b, v.ownBlock = some b → row ≠ some b) : OwnS e base w' v l :=
  ⟨h.1.kept hg (by
    cases hv : v.ownBlock with
    | none => exact .inl rfl
    | some b => right; exact fun e => hr b hv e.symm), h.2⟩
theorem OwnS.row {e : TypeId} {base : Nat} {w : World} {v : Value} {l : List (List UInt8)} (h : OwnS e base w v l) : strE.Row w l v := by
  have hc := fun g => World.ownsRow.cells h.1 (g := g)
  rcases h.1.2 with ⟨rfl, h0⟩ | ⟨g, cap, cur, rfl, hb, hg, h1, h2, h3, h4⟩
  · have : l = [] := List.eq_nil_of_length_eq_zero h0
    subst this
    exact Elem.Row.void strE w none
  · refine Elem.Row.mk rfl h1 h2 (Array.getElem?_eq_some_iff.1 hg).1 (fun i hi => ⟨fun _ => strV l[i], ⟨rfl, h.2 _ (List.getElem_mem hi)⟩, fun j hj => ?_⟩)
    have := hc g rfl i (strV l[i]) (by simp [hi])
    rw [Addr.add_lit] at this
    have e : (0 + (i * strE.sz + j)) = 0 + i := by
      have : j < 1 := hj
      show 0 + (i * 1 + j) = 0 + i
      omega
    rw [e]; exact this
theorem OwnS.block {e : TypeId} {base : Nat} {w : World} {v : Value} {l : List (List UInt8)} (h : OwnS e base w v l) : ∀ b, v.ownBlock = some b → base ≤ b ∧ b < w.heap.size := h.1.lt
theorem OwnS.snoc {e : TypeId} {base : Nat} {w' : World} {v' : Value} {l : List (List UInt8)} {s : List UInt8} (h : w'.ownsRow base e 1 v' (l.length + 1) (l.map strV ++ [strV s])) (hl : ∀ s, s ∈ l → s.length ≤ 9223372036854775807) (hs : s.length ≤ 9223372036854775807) : OwnS e base w' v' (l ++ [s]) := by
  refine ⟨by rw [List.length_append, List.map_append]; exact h, fun x hx => ?_⟩
  rcases List.mem_append.1 hx with hx | hx
  · exact hl x hx
  · rw [List.mem_singleton.1 hx]; exact hs

/-- 'append(s, x)' of one element, which a new block holds. -/
theorem wpList_appOne {P : Program} {w : World} {ops : Array Oper} {rest : List Oper} {o : Oper} {a : Act} {Q : Exit → Act → World → Prop} {t e : TypeId} {z : Value} {size bytes : Nat} (he : ElemOf P t e z size bytes)
    (hg : Region.wanted o (yielded ops a.tmps) = true) (s x : Operand) (hop : o.op = Op.call { callee := Callee.builtin Builtin.append, args := #[s, x], argTypes := #[t, t] }) {base : Nat}
    {v : Value} {k : Nat} {xs : List Value} (hs : a.eval s = v) (hown : w.ownsRow base e size v k xs) {B cp : Nat} {news : List Value} {e' : TypeId} {fr : Nat × Nat} (hx : a.eval x = .slice (some ⟨B, 0, none⟩) 1 cp)
    (hB : w.heap[B]? = some (.cells news.toArray e' fr)) (hn : news.length = size) (h1 : ∀ u ∈ news, u.oneCell' = true) (hb : k ≤ 1000) (hby : bytes ≤ 1000) (b3 : base ≤ w.heap.size)
    (hK : ∀ v' w', w'.ownsRow base e size v' (k + 1) (xs ++ news) → w.grownBy w' v.ownBlock → (v'.ownBlock = v.ownBlock ∨ v'.ownBlock = some w.heap.size) → wpList P ops Q rest (a.put o.dst v') w') :
    wpList P ops Q (o :: rest) a w := by
  have hm : (k + 1) * bytes ≤ 1001 * 1000 := Nat.mul_le_mul (by omega) hby
  refine wpList_appAt w he hg s x t hop base v k xs hs hown _ 1 news hx (Src.ofSlice _ he.1 _ _ _ _ (by rw [hn]; omega) ?_ h1) (by unfold maxLen; omega) (by omega) b3 hK
  intro j u hu
  rw [Addr.add_lit]
  simp only [World.cell?, hB]
  simpa using hu
end Fm
