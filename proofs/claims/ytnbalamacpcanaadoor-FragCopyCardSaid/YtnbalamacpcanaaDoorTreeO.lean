/- A value's tree in memory of its own: plain facts. No program is imported. -/
import Derived.Test.YtnbalamacpcanaaDoorTreeF
namespace Fm
open Go Go.RowKit

/-- The cells of n elements. -/
def cells4 (C : Nat → Nat → Value) : Nat → List Value
  | 0 => []
  | n + 1 => cells4 C n ++ [C n 0, C n 1, C n 2, C n 3]
theorem cells4_length (C : Nat → Nat → Value) : ∀ n, (cells4 C n).length = n * 4
  | 0 => rfl
  | n + 1 => by rw [cells4, List.length_append, cells4_length C n]; simp; omega
theorem cells4_at (C : Nat → Nat → Value) : ∀ (n i j : Nat), i < n → j < 4 → (cells4 C n)[i * 4 + j]? = some (C i j)
  | 0, i, j, h, _ => by omega
  | n + 1, i, j, h, hj => by
    rw [cells4]
    have hl := cells4_length C n
    by_cases hi : i < n
    · rw [List.getElem?_append_left (by omega), cells4_at C n i j hi hj]
    · obtain rfl : i = n := by omega
      rw [List.getElem?_append_right (by omega), hl]
      have e : i * 4 + j - i * 4 = j := by omega
      rw [e]
      match j, hj with
      | 0, _ => rfl
      | 1, _ => rfl
      | 2, _ => rfl
      | 3, _ => rfl
theorem cells4_congr {C D : Nat → Nat → Value} : ∀ n, (∀ i j, i < n → j < 4 → C i j = D i j) → cells4 C n = cells4 D n
  | 0, _ => rfl
  | n + 1, h => by
    rw [cells4, cells4, cells4_congr n (fun i j hi hj => h i j (by omega) hj), h n 0 (by omega) (by omega), h n 1 (by omega) (by omega), h n 2 (by omega) (by omega), h n 3 (by omega) (by omega)]

/-- The tree lies in blocks of its own, from 'base' on: F tells which. e: the elements' type. -/
inductive Owns (e : TypeId) (w : World) (base : Nat) : Tr → Value → (Nat → Prop) → Prop where
  | node (k : UInt8) (n : Int) (s : List UInt8) (l : List Tr) (d : Value) (C : Nat → Nat → Value) (G : Nat → Nat → Prop) (F : Nat → Prop) (hn : isI64 n) (hs : s.length ≤ 9223372036854775807)
      (hrow : w.ownsRow base e 4 d l.length (cells4 C l.length))
      (hch : ∀ (i : Nat) (hi : i < l.length), Owns e w base l[i] (.agg #[C i 0, C i 1, C i 2, C i 3]) (G i))
      (hF : ∀ b, F b ↔ d.ownBlock = some b ∨ ∃ i, i < l.length ∧ G i b)
      (hdis : ∀ i j b, i < j → j < l.length → G i b → ¬ G j b)
      (hown : ∀ i b, i < l.length → G i b → d.ownBlock ≠ some b) :
      Owns e w base (.node k n s l) (.agg #[.int .u8 (k.toNat : Int), .int .i64 n, .string (str s), d]) F
/-- A row of trees of its own. -/
def RowO (e : TypeId) (w : World) (base : Nat) (l : List Tr) (d : Value) (F : Nat → Prop) : Prop :=
  ∃ (C : Nat → Nat → Value) (G : Nat → Nat → Prop), w.ownsRow base e 4 d l.length (cells4 C l.length) ∧
    (∀ (i : Nat) (hi : i < l.length), Owns e w base l[i] (.agg #[C i 0, C i 1, C i 2, C i 3]) (G i)) ∧
    (∀ b, F b ↔ d.ownBlock = some b ∨ ∃ i, i < l.length ∧ G i b) ∧ (∀ i j b, i < j → j < l.length → G i b → ¬ G j b) ∧ (∀ i b, i < l.length → G i b → d.ownBlock ≠ some b)
theorem Owns.parts {e : TypeId} {w : World} {base : Nat} {k : UInt8} {n : Int} {s : List UInt8} {l : List Tr} {v : Value} {F : Nat → Prop} (h : Owns e w base (.node k n s l) v F) :
    ∃ d, v = .agg #[.int .u8 (k.toNat : Int), .int .i64 n, .string (str s), d] ∧ isI64 n ∧ s.length ≤ 9223372036854775807 ∧ RowO e w base l d F := by
  cases h with
  | node k n s l d C G F hn hs hrow hch hF hdis hown => exact ⟨d, rfl, hn, hs, C, G, hrow, hch, hF, hdis, hown⟩
theorem Owns.mk {e : TypeId} {w : World} {base : Nat} {k : UInt8} {n : Int} {s : List UInt8} {l : List Tr} {d : Value} {F : Nat → Prop} (hn : isI64 n) (hs : s.length ≤ 9223372036854775807) (h : RowO e w base l d F) :
    Owns e w base (.node k n s l) (.agg #[.int .u8 (k.toNat : Int), .int .i64 n, .string (str s), d]) F := by
  obtain ⟨C, G, hrow, hch, hF, hdis, hown⟩ := h
  exact .node k n s l d C G F hn hs hrow hch hF hdis hown
theorem Owns.bounds {e : TypeId} {w : World} {base : Nat} {t : Tr} {v : Value} {F : Nat → Prop} (h : Owns e w base t v F) : ∀ b, F b → base ≤ b ∧ b < w.heap.size := by
  induction h with
  | node k n s l d C G F hn hs hrow hch hF hdis hown ih =>
    intro b hb
    rcases (hF b).1 hb with h | ⟨i, hi, h⟩
    · exact hrow.lt b h
    · exact ih i hi b h
theorem RowO.bounds {e : TypeId} {w : World} {base : Nat} {l : List Tr} {d : Value} {F : Nat → Prop} (h : RowO e w base l d F) : ∀ b, F b → base ≤ b ∧ b < w.heap.size := by
  obtain ⟨C, G, hrow, hch, hF, hdis, hown⟩ := h
  intro b hb
  rcases (hF b).1 hb with h | ⟨i, hi, h⟩
  · exact hrow.lt b h
  · exact (hch i hi).bounds b h
theorem ownsRow_block {w w' : World} {base e size : Nat} {v : Value} {n : Nat} {xs : List Value} (h : w.ownsRow base e size v n xs) (hb : ∀ b, v.ownBlock = some b → w'.heap[b]? = w.heap[b]?) : w'.ownsRow base e size v n xs := by
  refine ⟨h.1, ?_⟩
  rcases h.2 with hn | ⟨g, cap, cur, hv, h1, h2, rest⟩
  · exact .inl hn
  · exact .inr ⟨g, cap, cur, hv, h1, by rw [hb g (by rw [hv]; rfl)]; exact h2, rest⟩
theorem ownsRow_mono {w : World} {base base' e size : Nat} {v : Value} {n : Nat} {xs : List Value} (h : w.ownsRow base e size v n xs) (hb : base' ≤ base) : w.ownsRow base' e size v n xs := by
  refine ⟨h.1, ?_⟩
  rcases h.2 with hn | ⟨g, cap, cur, hv, h1, rest⟩
  · exact .inl hn
  · exact .inr ⟨g, cap, cur, hv, Nat.le_trans hb h1, rest⟩
theorem Owns.kept {e : TypeId} {w : World} {base : Nat} {t : Tr} {v : Value} {F : Nat → Prop} (h : Owns e w base t v F) {w' : World} (hk : ∀ b, F b → w'.heap[b]? = w.heap[b]?) : Owns e w' base t v F := by
  induction h with
  | node k n s l d C G F hn hs hrow hch hF hdis hown ih =>
    exact .node k n s l d C G F hn hs (ownsRow_block hrow fun b hb => hk b ((hF b).2 (.inl hb))) (fun i hi => ih i hi fun b hb => hk b ((hF b).2 (.inr ⟨i, hi, hb⟩))) hF hdis hown
theorem Owns.mono {e : TypeId} {w : World} {base : Nat} {t : Tr} {v : Value} {F : Nat → Prop} (h : Owns e w base t v F) {base' : Nat} (hb : base' ≤ base) : Owns e w base' t v F := by
  induction h with
  | node k n s l d C G F hn hs hrow hch hF hdis hown ih =>
    exact .node k n s l d C G F hn hs (ownsRow_mono hrow hb) (fun i hi => ih i hi) hF hdis hown
theorem RowO.kept {e : TypeId} {w : World} {base : Nat} {l : List Tr} {d : Value} {F : Nat → Prop} (h : RowO e w base l d F) {w' : World} (hk : ∀ b, F b → w'.heap[b]? = w.heap[b]?) : RowO e w' base l d F := by
  obtain ⟨C, G, hrow, hch, hF, hdis, hown⟩ := h
  exact ⟨C, G, ownsRow_block hrow fun b hb => hk b ((hF b).2 (.inl hb)), fun i hi => (hch i hi).kept fun b hb => hk b ((hF b).2 (.inr ⟨i, hi, hb⟩)), hF, hdis, hown⟩
theorem RowO.ext {e : TypeId} {w w' : World} {base : Nat} {l : List Tr} {d : Value} {F : Nat → Prop} (h : RowO e w base l d F) (hE : Ext w w') : RowO e w' base l d F :=
  h.kept fun b hb => hE.block b (h.bounds b hb).2
theorem Owns.ext {e : TypeId} {w w' : World} {base : Nat} {t : Tr} {v : Value} {F : Nat → Prop} (h : Owns e w base t v F) (hE : Ext w w') : Owns e w' base t v F :=
  h.kept fun b hb => hE.block b (h.bounds b hb).2
theorem RowO.grown {e : TypeId} {w w' : World} {base : Nat} {l : List Tr} {d : Value} {F : Nat → Prop} {row : Option Nat} (h : RowO e w base l d F) (hg : w.grownBy w' row) (hr : ∀ b, row = some b → ¬ F b) : RowO e w' base l d F :=
  h.kept fun b hb => hg.block b (h.bounds b hb).2 (fun e => hr b e.symm hb)
theorem Owns.grown {e : TypeId} {w w' : World} {base : Nat} {t : Tr} {v : Value} {F : Nat → Prop} {row : Option Nat} (h : Owns e w base t v F) (hg : w.grownBy w' row) (hr : ∀ b, row = some b → ¬ F b) : Owns e w' base t v F :=
  h.kept fun b hb => hg.block b (h.bounds b hb).2 (fun e => hr b e.symm hb)
theorem RowO.nil (e : TypeId) (w : World) (base : Nat) : RowO e w base [] (.slice none 0 0) (fun _ => False) :=
  ⟨fun _ _ => .nilFunc, fun _ _ => False, World.ownsRow_nil w base e 4, (fun i hi => by simp at hi), (fun b => by simp [Value.ownBlock]), (fun i j b _ hj => by simp at hj), fun i b hi => by simp at hi⟩
theorem RowO.slice {e : TypeId} {w : World} {base : Nat} {l : List Tr} {d : Value} {F : Nat → Prop} (h : RowO e w base l d F) : ∃ a cap, d = .slice a l.length cap := by
  obtain ⟨C, G, hrow, _⟩ := h
  rcases hrow.2 with ⟨hv, h0⟩ | ⟨g, cap, cur, hv, _⟩
  · exact ⟨none, 0, by rw [hv, h0]⟩
  · exact ⟨_, cap, hv⟩
/-- What lies in memory of its own lies. -/
theorem Owns.lies {e : TypeId} {w : World} {base : Nat} {t : Tr} {v : Value} {F : Nat → Prop} (h : Owns e w base t v F) : Lies w t v := by
  induction h with
  | node k n s l d C G F hn hs hrow hch hF hdis hown ih =>
    have hc := fun g => World.ownsRow.cells hrow (g := g)
    rcases hrow.2 with ⟨rfl, h0⟩ | ⟨g, cap, cur, rfl, hb, hg, h1, h2, h3, h4⟩
    · have hl : l.length = 0 := h0
      obtain rfl : l = [] := List.eq_nil_of_length_eq_zero hl
      exact Lies.node k n s [] none 0 C hn hs (by simp) (by simp [maxLen]) (fun _ => rfl) (fun h => by simp at h) (fun i hi => by simp at hi)
    · refine Lies.node k n s l (some ⟨g, 0, none⟩) cap C hn hs h1 h2 (fun h => by cases h) (fun hp => ⟨g, 0, rfl, (Array.getElem?_eq_some_iff.1 hg).1, fun i j hi hj => ?_⟩) ih
      have := hc g rfl (i * 4 + j) (C i j) (cells4_at C l.length i j hi hj)
      rw [Addr.add_lit] at this
      exact this
theorem RowO.lies {e : TypeId} {w : World} {base : Nat} {l : List Tr} {d : Value} {F : Nat → Prop} (h : RowO e w base l d F) : LiesS w l d := by
  have hl := (Owns.mk (k := 2) (n := 0) (s := []) (by unfold isI64; omega) (by simp) h).lies
  obtain ⟨d', hd, _, _, hx⟩ := hl.parts
  injection hd with hd
  have : d = d' := by
    have := congrArg (fun a => a[3]?) hd
    simpa using this
  rw [this]; exact hx

/-- One tree more. -/
theorem RowO.snoc {e : TypeId} {w w' : World} {base : Nat} {l : List Tr} {d : Value} {F : Nat → Prop} (h : RowO e w base l d F) {t : Tr} {c0 c1 c2 c3 : Value} {Ft : Nat → Prop}
    (ht : Owns e w base t (.agg #[c0, c1, c2, c3]) Ft) (hdj : ∀ b, Ft b → ¬ F b) {d' : Value} (hg : w.grownBy w' d.ownBlock) {xs : List Value}
    (hx : w.ownsRow base e 4 d l.length xs) (hrow' : w'.ownsRow base e 4 d' (l.length + 1) (xs ++ [c0, c1, c2, c3])) (hat : d'.ownBlock = d.ownBlock ∨ d'.ownBlock = some w.heap.size) :
    ∃ F', RowO e w' base (l ++ [t]) d' F' ∧ ∀ b, F' b → F b ∨ Ft b ∨ b = w.heap.size := by
  have hFb := h.bounds
  have hTb := ht.bounds
  obtain ⟨C, G, hrow, hch, hF, hdis, hown⟩ := h
  have hxs : xs = cells4 C l.length := by
    rcases hrow.2 with ⟨hv, h0⟩ | ⟨g, cap, cur, hv, _, hgg, _, _, _, ht4⟩
    · have a1 := hrow.1; have a2 := hx.1
      rw [h0] at a1 a2
      have b1 : cells4 C l.length = [] := List.eq_nil_of_length_eq_zero (by rw [h0]; omega)
      have b2 : xs = [] := List.eq_nil_of_length_eq_zero (by omega)
      rw [b1, b2]
    · rcases hx.2 with ⟨hv2, _⟩ | ⟨g2, cap2, cur2, hv2, _, hgg2, _, _, _, ht42⟩
      · rw [hv] at hv2; cases hv2
      · rw [hv] at hv2
        injection hv2 with ha _ _
        injection ha with ha
        injection ha with ha
        subst ha
        rw [hgg] at hgg2
        injection hgg2 with hc
        injection hc with hc
        rw [← ht4, ← ht42, hc]
  let C' : Nat → Nat → Value := fun i j => if i < l.length then C i j else match j with | 0 => c0 | 1 => c1 | 2 => c2 | _ => c3
  let G' : Nat → Nat → Prop := fun i b => if i < l.length then G i b else Ft b
  have hC : ∀ i j, i < l.length → C' i j = C i j := fun i j hi => if_pos hi
  have hG : ∀ i, i < l.length → G' i = G i := fun i hi => by funext b; exact if_pos hi
  have hC4 : ∀ j, C' l.length j = match j with | 0 => c0 | 1 => c1 | 2 => c2 | _ => c3 := fun j => if_neg (by omega)
  have hG4 : G' l.length = Ft := by funext b; exact if_neg (by omega)
  have hold : ∀ b, (∃ i, i < l.length ∧ G i b) → w'.heap[b]? = w.heap[b]? := by
    rintro b ⟨i, hi, hb⟩
    exact hg.block b (hFb b ((hF b).2 (.inr ⟨i, hi, hb⟩))).2 (fun e => hown i b hi hb e.symm)
  have holdT : ∀ b, Ft b → w'.heap[b]? = w.heap[b]? := fun b hb =>
    hg.block b (hTb b hb).2 (fun e => hdj b hb ((hF b).2 (.inl e.symm)))
  refine ⟨fun b => d'.ownBlock = some b ∨ ∃ i, i < (l ++ [t]).length ∧ G' i b, ⟨C', G', ?_, ?_, fun b => Iff.rfl, ?_, ?_⟩, ?_⟩
  · have e1 : cells4 C' (l ++ [t]).length = xs ++ [c0, c1, c2, c3] := by
      rw [List.length_append, List.length_singleton, cells4, hxs, cells4_congr (D := C) l.length (fun i j hi _ => hC i j hi), hC4, hC4, hC4, hC4]
      rfl
    rw [e1, List.length_append, List.length_singleton]
    exact hrow'
  · intro i hi
    rw [List.length_append, List.length_singleton] at hi
    by_cases hlt : i < l.length
    · rw [List.getElem_append_left hlt, hG i hlt, hC i 0 hlt, hC i 1 hlt, hC i 2 hlt, hC i 3 hlt]
      exact (hch i hlt).kept fun b hb => hold b ⟨i, hlt, hb⟩
    · obtain rfl : i = l.length := by omega
      rw [List.getElem_append_right (by omega), hG4, hC4, hC4, hC4, hC4]
      simp only [Nat.sub_self, List.getElem_cons_zero]
      exact ht.kept holdT
  · intro i j b hij hj hb hb2
    rw [List.length_append, List.length_singleton] at hj
    rw [hG i (by omega)] at hb
    by_cases hlt : j < l.length
    · rw [hG j hlt] at hb2
      exact hdis i j b hij hlt hb hb2
    · obtain rfl : j = l.length := by omega
      rw [hG4] at hb2
      exact hdj b hb2 ((hF b).2 (.inr ⟨i, by omega, hb⟩))
  · intro i b hi hb he
    rw [List.length_append, List.length_singleton] at hi
    by_cases hlt : i < l.length
    · rw [hG i hlt] at hb
      rcases hat with ha | ha
      · exact hown i b hlt hb (by rw [← ha]; exact he)
      · have := (hFb b ((hF b).2 (.inr ⟨i, hlt, hb⟩))).2
        rw [ha] at he; injection he with he; omega
    · obtain rfl : i = l.length := by omega
      rw [hG4] at hb
      rcases hat with ha | ha
      · exact hdj b hb ((hF b).2 (.inl (by rw [← ha]; exact he)))
      · have := (hTb b hb).2
        rw [ha] at he; injection he with he; omega
  · rintro b (hb | ⟨i, hi, hb⟩)
    · rcases hat with ha | ha
      · exact .inl ((hF b).2 (.inl (by rw [← ha]; exact hb)))
      · rw [ha] at hb; injection hb with hb; exact .inr (.inr hb.symm)
    · rw [List.length_append, List.length_singleton] at hi
      by_cases hlt : i < l.length
      · rw [hG i hlt] at hb; exact .inl ((hF b).2 (.inr ⟨i, hlt, hb⟩))
      · obtain rfl : i = l.length := by omega
        rw [hG4] at hb; exact .inr (.inl hb)

/-- .. in memory of its own from 'base' on. -/
def OwnT (e : TypeId) (w : World) (base : Nat) (t : Tr) (v : Value) : Prop := ∃ F, Owns e w base t v F
def OwnL (e : TypeId) (w : World) (base : Nat) (l : List Tr) (d : Value) : Prop := ∃ F, RowO e w base l d F
theorem OwnT.lies {e : TypeId} {w : World} {base : Nat} {t : Tr} {v : Value} (h : OwnT e w base t v) : Lies w t v := let ⟨_, h⟩ := h; h.lies
theorem OwnT.ext {e : TypeId} {w w' : World} {base : Nat} {t : Tr} {v : Value} (h : OwnT e w base t v) (hE : Ext w w') : OwnT e w' base t v := let ⟨F, h⟩ := h; ⟨F, h.ext hE⟩
theorem OwnT.grown {e : TypeId} {w w' : World} {base : Nat} {t : Tr} {v : Value} {row : Option Nat} (h : OwnT e w base t v) (hg : w.grownBy w' row) (hr : ∀ b, row = some b → b < base) : OwnT e w' base t v :=
  let ⟨F, h⟩ := h; ⟨F, h.grown hg fun b hb hF => by have := (h.bounds b hF).1; have := hr b hb; omega⟩
theorem OwnT.mono {e : TypeId} {w : World} {base base' : Nat} {t : Tr} {v : Value} (h : OwnT e w base t v) (hb : base' ≤ base) : OwnT e w base' t v := let ⟨F, h⟩ := h; ⟨F, h.mono hb⟩
theorem OwnL.ext {e : TypeId} {w w' : World} {base : Nat} {l : List Tr} {d : Value} (h : OwnL e w base l d) (hE : Ext w w') : OwnL e w' base l d := let ⟨F, h⟩ := h; ⟨F, h.ext hE⟩
theorem OwnL.grown {e : TypeId} {w w' : World} {base : Nat} {l : List Tr} {d : Value} {row : Option Nat} (h : OwnL e w base l d) (hg : w.grownBy w' row) (hr : ∀ b, row = some b → b < base) : OwnL e w' base l d :=
  let ⟨F, h⟩ := h; ⟨F, h.grown hg fun b hb hF => by have := (h.bounds b hF).1; have := hr b hb; omega⟩
theorem OwnL.nil (e : TypeId) (w : World) (base : Nat) : OwnL e w base [] (.slice none 0 0) := ⟨_, RowO.nil e w base⟩
theorem OwnL.lies {e : TypeId} {w : World} {base : Nat} {l : List Tr} {d : Value} (h : OwnL e w base l d) : LiesS w l d := let ⟨_, h⟩ := h; h.lies
theorem OwnL.row {e : TypeId} {w : World} {base : Nat} {l : List Tr} {d : Value} (h : OwnL e w base l d) : ∃ xs, w.ownsRow base e 4 d l.length xs := let ⟨_, _, _, h, _⟩ := h; ⟨_, h⟩
theorem OwnT.mk {e : TypeId} {w : World} {base : Nat} {k : UInt8} {n : Int} {s : List UInt8} {l : List Tr} {d : Value} (hn : isI64 n) (hs : s.length ≤ 9223372036854775807) (h : OwnL e w base l d) :
    OwnT e w base (.node k n s l) (.agg #[.int .u8 (k.toNat : Int), .int .i64 n, .string (str s), d]) := let ⟨F, h⟩ := h; ⟨F, Owns.mk hn hs h⟩
/-- One tree more, younger than all ahead: the row in w, the tree made since, the append behind. -/
theorem OwnL.snoc {e : TypeId} {w0 w w' : World} {base mid : Nat} {l : List Tr} {d : Value} (h : OwnL e w0 base l d) (hmid : w0.heap.size ≤ mid) (hkeep : ∀ b, base ≤ b → b < w0.heap.size → w.heap[b]? = w0.heap[b]?)
    {t : Tr} {c0 c1 c2 c3 : Value} (ht : OwnT e w mid t (.agg #[c0, c1, c2, c3])) (hbm : base ≤ mid) {d' : Value} (hg : w.grownBy w' d.ownBlock) {xs : List Value}
    (hx : w.ownsRow base e 4 d l.length xs) (hrow' : w'.ownsRow base e 4 d' (l.length + 1) (xs ++ [c0, c1, c2, c3])) (hat : d'.ownBlock = d.ownBlock ∨ d'.ownBlock = some w.heap.size) :
    OwnL e w' base (l ++ [t]) d' := by
  obtain ⟨F, h⟩ := h
  obtain ⟨Ft, ht⟩ := ht
  have h1 := h.kept (w' := w) fun b hb => hkeep b (h.bounds b hb).1 (h.bounds b hb).2
  obtain ⟨F', h2, _⟩ := h1.snoc (ht.mono hbm) (fun b hb hF => by have := (ht.bounds b hb).1; have := (h.bounds b hF).2; omega) hg hx hrow' hat
  exact ⟨F', h2⟩
end Fm
