/- One part of a tree in memory of its own is changed: plain facts. No program is imported. -/
import Derived.Test.YtdmdabcjoealhaaDoorTreeO
namespace Fm
open Go Go.RowKit

/-- A tree's four cells lie at (b, o), its lists in memory of its own; beside it a counter. -/
structure Spot (e : TypeId) (w : World) (base b o kb : Nat) (c : Int) (k : UInt8) (n : Int) (s : List UInt8) (l : List Tr) (d : Value) (F : Nat → Prop) : Prop where
  c0 : w.cell? ⟨b, o, none⟩ = some (.int .u8 (k.toNat : Int))
  c1 : w.cell? ⟨b, o + 1, none⟩ = some (.int .i64 n)
  c2 : w.cell? ⟨b, o + 2, none⟩ = some (.string (str s))
  c3 : w.cell? ⟨b, o + 3, none⟩ = some d
  f1 : w.frozen? ⟨b, o + 1, none⟩ = false
  hn : isI64 n
  hs : s.length ≤ 9223372036854775807
  row : RowO e w base l d F
  nb : ¬ F b
  nk : ¬ F kb
  bk : b ≠ kb
  ck : w.cell? ⟨kb, 0, none⟩ = some (.int .i64 c)
  fk : w.frozen? ⟨kb, 0, none⟩ = false

/-- The tree at (b, o) has become another one; nothing else has turned but what was its own, and the counter. -/
def Changed (w : World) (b o kb : Nat) (t : Tr) (F : Nat → Prop) (w' : World) : Prop :=
  (∃ (t' : Tr) (x0 x1 x2 x3 : Value), t' ≠ t ∧ w'.cell? ⟨b, o, none⟩ = some x0 ∧ w'.cell? ⟨b, o + 1, none⟩ = some x1 ∧ w'.cell? ⟨b, o + 2, none⟩ = some x2 ∧ w'.cell? ⟨b, o + 3, none⟩ = some x3 ∧ Lies w' t' (.agg #[x0, x1, x2, x3])) ∧
  (∀ g, g < w.heap.size → ¬ F g → g ≠ b → g ≠ kb → w'.heap[g]? = w.heap[g]?) ∧ (∀ j, (j < o ∨ o + 4 ≤ j) → w'.cell? ⟨b, j, none⟩ = w.cell? ⟨b, j, none⟩) ∧ w'.os = w.os ∧ w'.tape = w.tape ∧ w'.output = w.output ∧ w.heap.size ≤ w'.heap.size
/-- What change answers. -/
def ChPost (w : World) (b o kb : Nat) (c : Int) (t : Tr) (F : Nat → Prop) (e : Ending) (w' : World) : Prop :=
  if c < (partsT t : Int) then e = .returned (.bool true) ∧ Changed w b o kb t F w'
  else e = .returned (.bool false) ∧ w.grownBy w' (some kb) ∧ w'.cell? ⟨kb, 0, none⟩ = some (.int .i64 (c - partsT t)) ∧ w'.frozen? ⟨kb, 0, none⟩ = false

theorem Spot.size {e : TypeId} {w : World} {base b o kb : Nat} {c : Int} {k : UInt8} {n : Int} {s : List UInt8} {l : List Tr} {d : Value} {F : Nat → Prop} (h : Spot e w base b o kb c k n s l d F) : b < w.heap.size ∧ kb < w.heap.size :=
  ⟨World.block_lt_of_cell? w _ h.c0, World.block_lt_of_cell? w _ h.ck⟩
/-- Where only the counter turns, all stays. -/
theorem Spot.count {e : TypeId} {w w' : World} {base b o kb : Nat} {c c' : Int} {k : UInt8} {n : Int} {s : List UInt8} {l : List Tr} {d : Value} {F : Nat → Prop} (h : Spot e w base b o kb c k n s l d F)
    (hg : w.grownBy w' (some kb)) (hc : w'.cell? ⟨kb, 0, none⟩ = some (.int .i64 c')) (hf : w'.frozen? ⟨kb, 0, none⟩ = false) : Spot e w' base b o kb c' k n s l d F := by
  have hlt := h.size.1
  have hne : some b ≠ some kb := fun e => by injection e with e; exact h.bk e
  exact ⟨(hg.cell_far ⟨b, o, none⟩ hlt hne).trans h.c0, (hg.cell_far ⟨b, o + 1, none⟩ hlt hne).trans h.c1, (hg.cell_far ⟨b, o + 2, none⟩ hlt hne).trans h.c2, (hg.cell_far ⟨b, o + 3, none⟩ hlt hne).trans h.c3, (hg.frozen_far ⟨b, o + 1, none⟩ hlt hne).trans h.f1,
    h.hn, h.hs, h.row.grown hg (fun x hx => by injection hx with hx; subst hx; exact h.nk), h.nb, h.nk, h.bk, hc, hf⟩

/-- A child has become another one: so has the tree. -/
theorem Spot.changed {e : TypeId} {w w' : World} {base b o kb : Nat} {c : Int} {k : UInt8} {n : Int} {s : List UInt8} {l : List Tr} {d : Value} {F : Nat → Prop} (h : Spot e w base b o kb c k n s l d F) (i : Nat) (hi : i < l.length)
    {g cap : Nat} (hd : d = .slice (some ⟨g, 0, none⟩) l.length cap) {C : Nat → Nat → Value} {G : Nat → Nat → Prop} (hrow : w.ownsRow base e 4 d l.length (cells4 C l.length))
    (hch : ∀ (i : Nat) (hi : i < l.length), Owns e w base l[i] (.agg #[C i 0, C i 1, C i 2, C i 3]) (G i))
    (hF : ∀ b, F b ↔ d.ownBlock = some b ∨ ∃ i, i < l.length ∧ G i b) (hdis : ∀ i j b, i < j → j < l.length → G i b → ¬ G j b) (hown : ∀ i b, i < l.length → G i b → d.ownBlock ≠ some b)
    (hc : Changed w g (i * 4) kb l[i] (G i) w') : Changed w b o kb (.node k n s l) F w' := by
  obtain ⟨⟨t', x0, x1, x2, x3, hne, y0, y1, y2, y3, hl'⟩, hfr, hrow2, hos, htp, hout, hsz⟩ := hc
  subst hd
  have hFg : F g := (hF g).2 (.inl rfl)
  have hgb : g ≠ b := fun e => h.nb (e ▸ hFg)
  have hgk : g ≠ kb := fun e => h.nk (e ▸ hFg)
  have hblt := h.size.1
  have hib : ¬ G i b := fun hx => h.nb ((hF b).2 (.inr ⟨i, hi, hx⟩))
  have hbb : w'.heap[b]? = w.heap[b]? := hfr b hblt hib (fun e => hgb e.symm) h.bk
  have hcb : ∀ j, w'.cell? ⟨b, j, none⟩ = w.cell? ⟨b, j, none⟩ := fun j => World.cell?_of_block hbb
  have hcell := fun g => World.ownsRow.cells hrow (g := g)
  rcases hrow.2 with ⟨h0, _⟩ | ⟨g', cap', cur, hd', hb', hg, h1, h2, h3, h4⟩
  · cases h0
  injection hd' with ha _ hcap
  injection ha with ha
  injection ha with ha
  subst ha hcap
  have hglt : g < w.heap.size := (Array.getElem?_eq_some_iff.1 hg).1
  have hat : ∀ i j, i < l.length → j < 4 → w.cell? ⟨g, i * 4 + j, none⟩ = some (C i j) := fun i j hi hj => by
    have := hcell g rfl (i * 4 + j) (C i j) (cells4_at C l.length i j hi hj)
    rw [Addr.add_lit, Nat.zero_add] at this
    exact this
  let D : Nat → Nat → Value := fun a j => if a = i then (match j with | 0 => x0 | 1 => x1 | 2 => x2 | _ => x3) else C a j
  have hll : (l.set i t').length = l.length := by simp
  refine ⟨⟨.node k n s (l.set i t'), _, _, _, _, ?_, (hcb o).trans h.c0, (hcb _).trans h.c1, (hcb _).trans h.c2, (hcb _).trans h.c3, ?_⟩, ?_, fun j _ => hcb j, hos, htp, hout, hsz⟩
  · intro e
    injection e with _ _ _ e
    have := congrArg (fun z : List Tr => z[i]?) e
    simp [hi] at this
    exact hne this
  · have hL : LiesS w' (l.set i t') (.slice (some ⟨g, 0, none⟩) l.length cap) := by
      refine ⟨_, cap, by rw [hll], by rw [hll]; exact h1, h2, (fun h => by cases h), D, fun _ => ⟨g, 0, rfl, by omega, fun a j ha hj => ?_⟩, fun a ha => ?_⟩
      · rw [hll] at ha
        rw [Nat.zero_add]
        by_cases hai : a = i
        · subst hai
          match j, hj with
          | 0, _ => simp [D]; exact y0
          | 1, _ => simp [D]; exact y1
          | 2, _ => simp [D]; exact y2
          | 3, _ => simp [D]; exact y3
        · have hD : D a j = C a j := if_neg hai
          rw [hD, ← hat a j ha hj]
          exact hrow2 _ (by omega)
      · have ha' := ha
        rw [hll] at ha
        by_cases hai : a = i
        · subst hai
          simp only [D, if_true, List.getElem_set_self]
          exact hl'
        · rw [List.getElem_set_ne (by omega)]
          have h0 : D a 0 = C a 0 := if_neg hai
          have e1 : D a 1 = C a 1 := if_neg hai
          have e2 : D a 2 = C a 2 := if_neg hai
          have e3 : D a 3 = C a 3 := if_neg hai
          rw [h0, e1, e2, e3]
          refine ((hch a ha).kept (w' := w') fun x hx => ?_).lies
          refine hfr x ((hch a ha).bounds x hx).2 (fun hxi => ?_) (fun e => hown a x ha hx (by rw [e]; rfl)) (fun e => h.nk ((hF kb).2 (.inr ⟨a, ha, e ▸ hx⟩)))
          rcases Nat.lt_or_ge a i with hlt | hge
          · exact hdis a i x hlt hi hx hxi
          · exact hdis i a x (by omega) ha hxi hx
    exact Lies.mk h.hn h.hs hL
  · intro x hx hxF hxb hxk
    exact hfr x hx (fun hxi => hxF ((hF x).2 (.inr ⟨i, hi, hxi⟩))) (fun e => hxF (e ▸ hFg)) hxk
/-- The i-th child's spot. -/
theorem Spot.child {e : TypeId} {w : World} {base b o kb : Nat} {c : Int} {k : UInt8} {n : Int} {s : List UInt8} {l : List Tr} {d : Value} {F : Nat → Prop} (h : Spot e w base b o kb c k n s l d F) (i : Nat) (hi : i < l.length) :
    ∃ (g cap : Nat) (Fi : Nat → Prop) (k' : UInt8) (n' : Int) (s' : List UInt8) (l' : List Tr) (d' : Value), d = .slice (some ⟨g, 0, none⟩) l.length cap ∧ l[i] = .node k' n' s' l' ∧ Spot e w base g (i * 4) kb c k' n' s' l' d' Fi ∧ (∀ w', Changed w g (i * 4) kb l[i] Fi w' → Changed w b o kb (.node k n s l) F w') := by
  have hbd := h.row.bounds
  obtain ⟨C, G, hrow, hch, hF, hdis, hown⟩ := h.row
  have hcell := fun g => World.ownsRow.cells hrow (g := g)
  rcases hrow.2 with ⟨_, h0⟩ | ⟨g, cap, cur, rfl, hb, hg, h1, h2, h3, h4⟩
  · omega
  have hFg : F g := (hF g).2 (.inl rfl)
  have hgb : g ≠ b := fun e => h.nb (e ▸ hFg)
  have hgk : g ≠ kb := fun e => h.nk (e ▸ hFg)
  have hsp := fun w' hc => h.changed (w' := w') i hi rfl hrow hch hF hdis hown hc
  have hci := hch i hi
  generalize l[i] = ti at *
  obtain ⟨k', n', s', l'⟩ := ti
  obtain ⟨d', hd', hn', hs', hr'⟩ := hci.parts
  have hC : C i 0 = .int .u8 (k'.toNat : Int) ∧ C i 1 = .int .i64 n' ∧ C i 2 = .string (str s') ∧ C i 3 = d' := by
    injection hd' with hd'
    have e0 := congrArg (fun a : Array Value => a[0]?) hd'
    have e1 := congrArg (fun a : Array Value => a[1]?) hd'
    have e2 := congrArg (fun a : Array Value => a[2]?) hd'
    have e3 := congrArg (fun a : Array Value => a[3]?) hd'
    simp at e0 e1 e2 e3
    exact ⟨e0, e1, e2, e3⟩
  have hat : ∀ j, j < 4 → w.cell? ⟨g, i * 4 + j, none⟩ = some (C i j) := fun j hj => by
    have := hcell g rfl (i * 4 + j) (C i j) (cells4_at C l.length i j hi hj)
    rw [Addr.add_lit, Nat.zero_add] at this
    exact this
  refine ⟨g, cap, G i, k', n', s', l', d', rfl, rfl, ⟨?_, ?_, ?_, ?_, ?_, hn', hs', hr', fun hg' => hown i g hi hg' rfl, fun hk' => h.nk ((hF kb).2 (.inr ⟨i, hi, hk'⟩)), hgk, h.ck, h.fk⟩, hsp⟩
  · rw [← hC.1]; exact hat 0 (by omega)
  · rw [← hC.2.1]; exact hat 1 (by omega)
  · rw [← hC.2.2.1]; exact hat 2 (by omega)
  · rw [← hC.2.2.2]; exact hat 3 (by omega)
  · simp [World.frozen?, hg]

end Fm
