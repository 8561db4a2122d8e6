/- FragCopy answers true at every input. -/
import Derived.Test.YtnbalamacpcanaaDoorFragV
import Derived.Test.YtnbalamacpcanaaDoorFragG
open Go.RowKit Go.Shelf
namespace Go.Proofs.YtnbalamacpcanaaDoor
open Go Go.Proofs Fm

theorem itsCells_len : ∀ (l : List It) (ds : List Value), ds.length = l.length → (itsCells l ds).length = l.length * 6
  | [], _, _ => by simp [itsCells]
  | _ :: _, [], h => by simp at h
  | x :: l, d :: ds, h => by
    have ih := itsCells_len l ds (by simpa using h)
    unfold itsCells at ih ⊢
    rw [List.zipWith_cons_cons, List.flatten_cons, List.length_append, ih]
    simp [itCells]; omega
theorem itsCells_some {l : List It} {ds : List Value} (h : ds.length = l.length) {p : Nat} {u : Value} (hu : (itsCells l ds)[p]? = some u) :
    ∃ (i j : Nat) (hi : i < l.length) (hd : i < ds.length), j < 6 ∧ p = i * 6 + j ∧ (itCells l[i] ds[i])[j]? = some u := by
  have hp : p < (itsCells l ds).length := (List.getElem?_eq_some_iff.1 hu).1
  rw [itsCells_len l ds h] at hp
  have hi : p / 6 < l.length := by omega
  have e : p = p / 6 * 6 + p % 6 := by omega
  refine ⟨p / 6, p % 6, hi, by omega, by omega, e, ?_⟩
  rw [← itsCells_at l ds (p / 6) (p % 6) hi (by omega) (by omega), ← e]; exact hu
theorem itsCells_append {l m : List It} {ds es : List Value} (h : ds.length = l.length) : itsCells (l ++ m) (ds ++ es) = itsCells l ds ++ itsCells m es := by
  unfold itsCells
  rw [List.zipWith_append h.symm, List.flatten_append]
/-- Items that may be appended. -/
def SrcI (w0 w : World) (X : Value) (m : List It) : Prop :=
  ∃ ds : List Value, ds.length = m.length ∧ (∀ i (hi : i < m.length) (hd : i < ds.length), strE.Row w0 m[i].after ds[i] ∧ itWf m[i]) ∧ Src Tryd.prog 6 43 X m.length (itsCells m ds) w
theorem srcI_row {w0 w : World} {l : List It} {X : Value} (h : itE.Row w0 l X) (hE : Ext w0 w) : SrcI w0 w X l := by
  obtain ⟨a, cap, rfl, h1, h2, h3, C, h4, h5⟩ := h
  have hl : ((List.range l.length).map (fun i => C i 2)).length = l.length := by simp
  have hd : ∀ i (_ : i < l.length) (hd : i < ((List.range l.length).map (fun i => C i 2)).length), ((List.range l.length).map (fun i => C i 2))[i] = C i 2 := by intro i hi hd; simp
  have hcc : ∀ i j u (hi : i < l.length) (hd : i < ((List.range l.length).map (fun i => C i 2)).length), j < 6 → (itCells l[i] ((List.range l.length).map (fun i => C i 2))[i])[j]? = some u → C i j = u ∧ u.oneCell' = true := by
    intro i j u hi hd' hj hc
    rw [hd i hi hd'] at hc
    obtain ⟨r0, r1, r2, r3, r4, r5, _⟩ := h5 i hi
    obtain ⟨a2, c2, e2, _⟩ := r2.slice
    match j, hj with
    | 0, _ => simp [itCells] at hc; rw [← hc]; exact ⟨r0, rfl⟩
    | 1, _ => simp [itCells] at hc; rw [← hc]; exact ⟨r1, rfl⟩
    | 2, _ => simp [itCells] at hc; rw [← hc]; exact ⟨rfl, by rw [e2]; rfl⟩
    | 3, _ => simp [itCells] at hc; rw [← hc]; exact ⟨r3, rfl⟩
    | 4, _ => simp [itCells] at hc; rw [← hc]; exact ⟨r4, rfl⟩
    | 5, _ => simp [itCells] at hc; rw [← hc]; exact ⟨r5, rfl⟩
  refine ⟨(List.range l.length).map (fun i => C i 2), hl, fun i hi hd' => ?_, ?_⟩
  · obtain ⟨r0, r1, r2, r3, r4, r5, r6⟩ := h5 i hi
    rw [hd i hi hd']; exact ⟨r2, r6⟩
  · have hone : ∀ u ∈ itsCells l ((List.range l.length).map (fun i => C i 2)), u.oneCell' = true := by
      intro u hu
      obtain ⟨p, hp⟩ := List.getElem?_of_mem hu
      obtain ⟨i, j, hi, hd', hj, -, hc⟩ := itsCells_some hl hp
      exact (hcc i j u hi hd' hj hc).2
    by_cases h0 : 0 < l.length
    · obtain ⟨b, off, rfl, hb, hc⟩ := h4 h0
      refine Src.ofSlice w Tryd.underlying43 _ _ _ _ (itsCells_len l _ hl) (fun p u hu => ?_) hone
      obtain ⟨i, j, hi, hd', hj, rfl, hcj⟩ := itsCells_some hl hu
      rw [Addr.add_lit]
      exact (hE.cell (p := ⟨b, _, none⟩) hb).trans ((hc i j hi hj).trans (by rw [(hcc i j u hi hd' hj hcj).1]))
    · have : l = [] := List.eq_nil_of_length_eq_zero (by omega)
      subst this
      cases a with
      | none => exact Src.ofNil w Tryd.underlying43 cap
      | some ad => exact Src.ofSlice w Tryd.underlying43 ad 0 cap [] rfl (fun p u hu => by simp at hu) (fun u hu => by cases hu)
theorem srcI_one {w0 w : World} {x : It} {d : Value} {b : Nat} {e : TypeId} {fr : Nat × Nat} (hb : w.heap[b]? = some (.cells (itCells x d).toArray e fr)) (hd : strE.Row w0 x.after d) (hw : itWf x) : SrcI w0 w (.slice (some ⟨b, 0, none⟩) 1 1) [x] := by
  obtain ⟨a2, c2, e2, _⟩ := hd.slice
  refine ⟨[d], rfl, fun i hi hd' => ?_, ?_⟩
  · have : i = 0 := by simp at hi; omega
    subst this
    exact ⟨hd, hw⟩
  · have e : itsCells [x] [d] = itCells x d := by simp [itsCells]
    rw [e]
    refine Src.ofSlice w Tryd.underlying43 _ _ _ _ rfl (fun p u hu => ?_) (fun u hu => by subst e2; simp [itCells] at hu; rcases hu with rfl | rfl | rfl | rfl | rfl | rfl <;> rfl)
    rw [Addr.add_lit]
    simp only [World.cell?, hb]
    simpa using hu
/-- Items in a row of one's own; their texts lie where they lay. -/
def ShF (w0 w : World) (v : Value) (l : List It) : Prop :=
  ∃ ds : List Value, ds.length = l.length ∧ w.ownsRow w0.heap.size 47 6 v l.length (itsCells l ds) ∧ ∀ i (hi : i < l.length) (hd : i < ds.length), strE.Row w0 l[i].after ds[i] ∧ itWf l[i]
theorem ShF.made {w0 w : World} (h : Ext w0 w) : ShF w0 (w.alloc (.cells #[] 47)) (.slice (some ⟨w.heap.size, 0, none⟩) 0 0) [] :=
  ⟨[], rfl, World.ownsRow_made w #[] 0 h.size (by simp) rfl, fun i hi => by simp at hi⟩
theorem ShF.ext {w0 w w' : World} {v : Value} {l : List It} (h : ShF w0 w v l) (hE : Ext w w') : ShF w0 w' v l := by
  obtain ⟨ds, h1, h2, h3⟩ := h
  exact ⟨ds, h1, hE.own h2, h3⟩
theorem ShF.lt {w0 w : World} {v : Value} {l : List It} (h : ShF w0 w v l) : ∀ b, v.ownBlock = some b → w0.heap.size ≤ b ∧ b < w.heap.size := by
  obtain ⟨ds, h1, h2, h3⟩ := h
  exact h2.lt
theorem ShF.row {w0 w : World} {v : Value} {l : List It} (h : ShF w0 w v l) (hE : Ext w0 w) : itE.Row w l v := by
  obtain ⟨ds, h1, h2, h3⟩ := h
  have hc := fun g => World.ownsRow.cells h2 (g := g)
  rcases h2.2 with ⟨rfl, h0⟩ | ⟨g, cap, cur, rfl, hb, hg, hl, hm, h5, h6⟩
  · have : l = [] := List.eq_nil_of_length_eq_zero h0
    subst this
    exact Elem.Row.void itE w none
  · refine Elem.Row.mk rfl hl hm (Array.getElem?_eq_some_iff.1 hg).1 (fun i hi => ?_)
    have hd : i < ds.length := by omega
    obtain ⟨a1, a2⟩ := h3 i hi hd
    refine ⟨fun j => (itCells l[i] ds[i]).getD j .nilFunc, ⟨rfl, rfl, a1.ext hE, rfl, rfl, rfl, a2⟩, fun j hj => ?_⟩
    have hj6 : j < 6 := hj
    have := hc g rfl (i * 6 + j) ((itCells l[i] ds[i]).getD j .nilFunc) (by
      rw [itsCells_at l ds i j hi hd hj6, List.getD_eq_getElem?_getD, List.getElem?_eq_getElem (by simp [itCells]; omega)]
      rfl)
    rw [Addr.add_lit] at this
    exact this
theorem elem_item6 : ElemOf Tryd.prog 43 47 (.agg #[.string { data := #[] }, .int .u8 0, .slice none 0 0, .string { data := #[] }, .int .i64 0, .int .i64 0]) 6 80 := elem_item
/-- append at an operation that comes up. -/
theorem oper_appF {w0 w : World} {o : Oper} {a : Act} {K : Act → World → Prop} {Q : Exit → Act → World → Prop} (s x : Operand) (hop : o.op = Op.call { callee := Callee.builtin Builtin.append, args := #[s, x], argTypes := #[43, 43] })
    {v : Value} {l : List It} (hs : a.eval s = v) (h : ShF w0 w v l) (hE : Ext w0 w) {X : Value} {m : List It} (hx : a.eval x = X) (hm : SrcI w0 w X m) (hlen : l.length + m.length ≤ 1000)
    (hK : ∀ v' w', ShF w0 w' v' (l ++ m) → Ext w0 w' → w.grownBy w' v.ownBlock → K (a.put o.dst v') w') : Oper.wp Tryd.prog o a w K Q := by
  obtain ⟨ds, h1, h2, h3⟩ := h
  obtain ⟨es, g1, g2, g3⟩ := hm
  have hb : (l.length + m.length) * 80 ≤ 1000 * 80 := Nat.mul_le_mul_right _ hlen
  obtain ⟨v', w', hrun, r1, r2, r3⟩ := run_append_src_at w elem_item6 43 o.type w0.heap.size v l.length (itsCells l ds) h2 X m.length (itsCells m es) g3 (by unfold maxLen; omega) (by omega) hE.size
  unfold Oper.wp
  simp [execOp, hop, resolve, invoke, builtin, hs, hx, hrun, Result.andThen]
  refine hK v' w' ⟨ds ++ es, by simp [h1, g1], by rw [itsCells_append h1, List.length_append]; exact r1, fun i hi hd => ?_⟩ (hE.grown r2 (fun k hk => (h2.lt k hk).1)) r2
  by_cases hil : i < l.length
  · have hid : i < ds.length := by omega
    rw [List.getElem_append_left hil, List.getElem_append_left hid]; exact h3 i hil hid
  · have hi' : i - l.length < m.length := by rw [List.length_append] at hi; omega
    have e1 : (l ++ m)[i] = m[i - l.length] := List.getElem_append_right (by omega)
    have e2 : (ds ++ es)[i] = es[i - l.length]'(by omega) := by rw [List.getElem_append_right (by omega)]; simp [h1]
    rw [e1, e2]; exact g2 _ hi' (by omega)
theorem sizeof_item : ∀ w, (sizeOf (Tryd.prog.elem 43)).run Tryd.prog w = .ok 6 w := fun _ => by kernel_rfl
theorem slice_it_from (a : Option Addr) (len cap k : Nat) (h1 : k ≤ len) (w : World) :
    (Instr.slice 43 (.slice a len cap) (some (.int .i64 (k : Int))) none none).run Tryd.prog w = .ok (.slice (if cap = k then a else a.map (·.add (k * 6))) (len - k) (cap - k)) w := by
  rw [run_slice_l (ht := by kernel_rfl) (h0 := by omega) (h1 := by omega), sizeof_item]
  simp [Result.andThen, sliced]
theorem slice_it_upto (a : Option Addr) (len cap k : Nat) (h1 : k ≤ cap) (w : World) :
    (Instr.slice 43 (.slice a len cap) none (some (.int .i64 (k : Int))) none).run Tryd.prog w = .ok (.slice a k cap) w := by
  rw [run_slice_h (ht := by kernel_rfl) (h0 := by omega) (h2 := by omega), sizeof_item]
  cases a <;> simp [Result.andThen, sliced, Addr.add]
theorem slice_it_one (a : Option Addr) (len cap k : Nat) (h1 : k + 1 ≤ cap) (w : World) :
    (Instr.slice 43 (.slice a len cap) (some (.int .i64 (k : Int))) (some (.int .i64 ((k : Int) + 1))) none).run Tryd.prog w = .ok (.slice (if cap = k then a else a.map (·.add (k * 6))) 1 (cap - k)) w := by
  rw [run_slice_lh (ht := by kernel_rfl) (h0 := by omega) (h1 := by omega) (h2 := by omega), sizeof_item]
  have e : ((k : Int) + 1).toNat = k + 1 := by omega
  simp [Result.andThen, sliced, e]
theorem row_it_one {w : World} {l : List It} {a : Option Addr} {n cap : Nat} (h : itE.Row w l (.slice a n cap)) {k : Nat} (hk : k < l.length) : itE.Row w [l[k]] (.slice (if cap = k then a else a.map (·.add (k * 6))) 1 (cap - k)) := by
  have h1 := (h.drop (k := k) (by omega)).take (k := 1) (by simp; omega)
  have e : (l.drop k).take 1 = [l[k]] := by rw [List.drop_eq_getElem_cons hk]; rfl
  rw [e] at h1
  exact h1
/-- Two operations may come up. -/
theorem ready_two {P : Program} {ops : Array Oper} {Q : Exit → Act → World → Prop} {md : Region.Mode} {S : World → Prop} (i j : Nat) {fuel : Nat} {listed : Array Bool} {a : Act} {w : World}
    (hi : ops[i]? = some (ops.getD i default)) (hj : ops[j]? = some (ops.getD j default)) (hr : Region.ready md ops listed = [i, j]) (hw : Region.wanted (ops.getD i default) (yielded ops a.tmps) = true) (hw' : Region.wanted (ops.getD j default) (yielded ops a.tmps) = true)
    (h : ∀ K' : Act → World → Prop, Shut (∀ a w, S w → (S w → wpAnyH P md ops Q S fuel (listed.setIfInBounds i true) a w) → K' a w) → Oper.wp P (ops.getD i default) a w K' Q)
    (h' : ∀ K' : Act → World → Prop, Shut (∀ a w, S w → (S w → wpAnyH P md ops Q S fuel (listed.setIfInBounds j true) a w) → K' a w) → Oper.wp P (ops.getD j default) a w K' Q) : wpAnyH P md ops Q S (fuel + 1) listed a w :=
  wpAnyH_ready hr (by simp) (AllReadyH.cons hi (fun K hK => by rw [if_pos hw]; exact h K hK) (AllReadyH.cons hj (fun K hK => by rw [if_pos hw']; exact h' K hK) AllReadyH.nil))

/-! ### plain -/
theorem fragB_one (x : It) : fragB [x] = itB x := by unfold fragB; simp
theorem fragB_eq (l : List It) : fragB l = (decide ((l.length : Int) ≤ 40) && l.all itB) := by
  unfold fragB
  rw [Bool.and_comm]
  congr 1
  rw [decide_eq_decide]; omega
theorem fragB_more (l : List It) (x : It) (k : Nat) : fragB (l.take k ++ [x] ++ l.drop k) = ((fragB l && itB x) && decide (((l.length + 1 : Nat) : Int) ≤ 40)) := by
  have e : l.all itB = ((l.take k).all itB && (l.drop k).all itB) := by rw [← List.all_append, List.take_append_drop]
  have hn : (l.take k ++ [x] ++ l.drop k).length = l.length + 1 := by simp; omega
  unfold fragB
  rw [hn, e, List.all_append, List.all_append]
  by_cases h : l.length + 1 ≤ 40
  · have h1 : decide (l.length ≤ 40) = true := decide_eq_true (by omega)
    have h2 : decide (l.length + 1 ≤ 40) = true := decide_eq_true h
    have h3 : decide (((l.length + 1 : Nat) : Int) ≤ 40) = true := decide_eq_true (by omega)
    rw [h1, h2, h3]
    simp only [List.all_cons, List.all_nil, Bool.and_true]
    cases (l.take k).all itB <;> cases (l.drop k).all itB <;> cases itB x <;> rfl
  · have h2 : decide (l.length + 1 ≤ 40) = false := decide_eq_false h
    have h3 : decide (((l.length + 1 : Nat) : Int) ≤ 40) = false := decide_eq_false (by omega)
    rw [h2, h3, Bool.and_false, Bool.and_false]
theorem itB_turned (x : It) : itB ⟨x.name, 0, x.after, [], 0, x.quota⟩ = itB ⟨x.name, 1, x.after, [97], 40, x.quota⟩ := by
  have h : nameB [97] = true := by decide +kernel
  unfold itB
  simp [h]

/-- Items of which the first j have their texts in memory of their own, each in another block, all below 'top'. -/
def HalfF (w0 w : World) (v : Value) (l : List It) (j top : Nat) : Prop :=
  ∃ ds : List Value, ds.length = l.length ∧ w.ownsRow w0.heap.size 47 6 v l.length (itsCells l ds) ∧
    (∀ i (hi : i < l.length) (hd : i < ds.length), itWf l[i] ∧ (j ≤ i → strE.Row w0 l[i].after ds[i]) ∧ (i < j → OwnS 9 w0.heap.size w ds[i] l[i].after ∧ ∀ b, ds[i].ownBlock = some b → v.ownBlock ≠ some b ∧ b < top)) ∧
    ∀ i k (hi : i < ds.length) (hk : k < ds.length), i < k → k < j → ∀ b, ds[i].ownBlock = some b → ds[k].ownBlock ≠ some b
theorem HalfF.start {w0 w : World} {v : Value} {l : List It} {top : Nat} (h : ShF w0 w v l) : HalfF w0 w v l 0 top := by
  obtain ⟨ds, h1, h2, h3⟩ := h
  exact ⟨ds, h1, h2, fun i hi hd => ⟨(h3 i hi hd).2, fun _ => (h3 i hi hd).1, fun h => by omega⟩, fun i k hi hk h h' => by omega⟩
/-- A copy. -/
def CopyF (base : Nat) (w : World) (v : Value) (l : List It) : Prop :=
  ∃ ds : List Value, ds.length = l.length ∧ w.ownsRow base 47 6 v l.length (itsCells l ds) ∧
    (∀ i (hi : i < l.length) (hd : i < ds.length), itWf l[i] ∧ OwnS 9 base w ds[i] l[i].after ∧ ∀ b, ds[i].ownBlock = some b → v.ownBlock ≠ some b) ∧
    ∀ i k (hi : i < ds.length) (hk : k < ds.length), i ≠ k → ∀ b, ds[i].ownBlock = some b → ds[k].ownBlock ≠ some b
theorem CopyF.own {base : Nat} {w : World} {v : Value} {l : List It} (h : CopyF base w v l) : OwnFF base w v l := by
  obtain ⟨ds, h1, h2, h3, h4⟩ := h
  exact ⟨ds, h1, h2, fun i hi hd => ⟨(h3 i hi hd).2.1, (h3 i hi hd).1, (h3 i hi hd).2.2⟩⟩
theorem CopyF.ext {base : Nat} {w w' : World} {v : Value} {l : List It} (h : CopyF base w v l) (hE : Ext w w') : CopyF base w' v l := by
  obtain ⟨ds, h1, h2, h3, h4⟩ := h
  exact ⟨ds, h1, hE.own h2, fun i hi hd => ⟨(h3 i hi hd).1, (h3 i hi hd).2.1.ext hE, (h3 i hi hd).2.2⟩, h4⟩
theorem HalfF.full {w0 w : World} {v : Value} {l : List It} {top : Nat} (h : HalfF w0 w v l l.length top) : CopyF w0.heap.size w v l := by
  obtain ⟨ds, h1, h2, h3, h4⟩ := h
  refine ⟨ds, h1, h2, fun i hi hd => ⟨(h3 i hi hd).1, ((h3 i hi hd).2.2 hi).1, fun b hb => (((h3 i hi hd).2.2 hi).2 b hb).1⟩, fun i k hi hk hne b hb => ?_⟩
  by_cases hik : i < k
  · exact h4 i k hi hk hik (by omega) b hb
  · exact fun e => h4 k i hk hi (by omega) (by omega) b e hb
theorem itsCells_set : ∀ (l : List It) (ds : List Value) (j : Nat) (d : Value), ds.length = l.length → j < l.length → itsCells l (ds.set j d) = (itsCells l ds).set (j * 6 + 2) d
  | [], _, _, _, _, h => by simp at h
  | _ :: _, [], _, _, h, _ => by simp at h
  | x :: l, e :: ds, 0, d, _, _ => by
    unfold itsCells
    rw [List.set_cons_zero, List.zipWith_cons_cons, List.zipWith_cons_cons, List.flatten_cons, List.flatten_cons]
    simp [itCells]
  | x :: l, e :: ds, j + 1, d, h, hj => by
    have ih := itsCells_set l ds j d (by simpa using h) (by simpa using hj)
    unfold itsCells at ih ⊢
    rw [List.set_cons_succ, List.zipWith_cons_cons, List.zipWith_cons_cons, List.flatten_cons, List.flatten_cons, ih]
    have e : (j + 1) * 6 + 2 = (itCells x e).length + (j * 6 + 2) := by simp [itCells]; omega
    rw [e, List.set_append_right _ _ (by omega)]
    congr 2
    omega

/-- append at a wanted operation of a list. -/
theorem wpList_appF {w0 w : World} {ops : Array Oper} {rest : List Oper} {o : Oper} {a : Act} {Q : Exit → Act → World → Prop} (hg : Region.wanted o (yielded ops a.tmps) = true) (s x : Operand) (hop : o.op = Op.call { callee := Callee.builtin Builtin.append, args := #[s, x], argTypes := #[43, 43] })
    {v : Value} {l : List It} (hs : a.eval s = v) (h : ShF w0 w v l) (hE : Ext w0 w) {X : Value} {m : List It} (hx : a.eval x = X) (hm : SrcI w0 w X m) (hlen : l.length + m.length ≤ 1000)
    (hK : ∀ v' w', ShF w0 w' v' (l ++ m) → Ext w0 w' → w.grownBy w' v.ownBlock → wpList Tryd.prog ops Q rest (a.put o.dst v') w') : wpList Tryd.prog ops Q (o :: rest) a w := by
  obtain ⟨ds, h1, h2, h3⟩ := h
  obtain ⟨es, g1, g2, g3⟩ := hm
  have hb : (l.length + m.length) * 80 ≤ 1000 * 80 := Nat.mul_le_mul_right _ hlen
  obtain ⟨v', w', hrun, r1, r2, r3⟩ := run_append_src_at w elem_item6 43 o.type w0.heap.size v l.length (itsCells l ds) h2 X m.length (itsCells m es) g3 (by unfold maxLen; omega) (by omega) hE.size
  unfold wpList
  rw [if_pos hg]
  left
  unfold Oper.wp
  simp [execOp, hop, resolve, invoke, builtin, hs, hx, hrun, Result.andThen]
  refine hK v' w' ⟨ds ++ es, by simp [h1, g1], by rw [itsCells_append h1, List.length_append]; exact r1, fun i hi hd => ?_⟩ (hE.grown r2 (fun k hk => (h2.lt k hk).1)) r2
  by_cases hil : i < l.length
  · have hid : i < ds.length := by omega
    rw [List.getElem_append_left hil, List.getElem_append_left hid]; exact h3 i hil hid
  · have hi' : i - l.length < m.length := by rw [List.length_append] at hi; omega
    have e1 : (l ++ m)[i] = m[i - l.length] := List.getElem_append_right (by omega)
    have e2 : (ds ++ es)[i] = es[i - l.length]'(by omega) := by rw [List.getElem_append_right (by omega)]; simp [h1]
    rw [e1, e2]; exact g2 _ hi' (by omega)

set_option maxRecDepth 100000 in
set_option maxHeartbeats 1000000 in
theorem cloneI_any (l : List It) (w : World) (v : Value) (hv : itE.Row w l v) (hl : l.length ≤ 900) :
    Calls Tryd.prog 97 #[v] w fun e w' => ∃ v', e = .returned v' ∧ ShF w w' v' l ∧ Ext w w' := by
  obtain ⟨a, c, rfl, hc, -⟩ := hv.slice
  have HR := Lib.hid hv
  clear hv
  have qnil : ∀ (w : World) (a : Option Addr) (n c n' c' : Nat), (binOp .eql 43 (.slice a n c) (.slice none n' c')).run Tryd.prog w = .ok (.bool a.isNone) w := fun w a n c n' c' => Lib.run_eql_slice_nil w _ _ a n c n' c' Tryd.underlying43
  cases a with
  | none =>
    have hl0 : l = [] := by
      cases hx : l with
      | nil => rfl
      | cons y r =>
        obtain ⟨_, b, off, h, _⟩ := HR.out.at (by rw [hx]; simp)
        cases h
    subst hl0
    go_enter Tryd.func97, Tryd.ntmps97
    go_wp2
    go_ret
    exact ⟨_, rfl, ⟨[], rfl, World.ownsRow_nil _ _ _ _, fun i hi => by simp at hi⟩, Ext.refl w⟩
  | some ad =>
    have HS := Lib.hid (ShF.made (Ext.refl w))
    have hx := (Ext.refl w).alloc (.cells #[] 47)
    have HX := Lib.hid hx
    clear hx
    go_enter Tryd.func97, Tryd.ntmps97
    go_wp2_with (at_builtin; refine wpList_appF rfl _ _ rfl rfl HS.out HX.out rfl (srcI_row HR.out HX.out) (by simp only [List.length_nil]; omega) ?_)
    intro v' w' h1 h2 h3
    have HP : Hid (ShF w w' v' l ∧ Ext w w') := Lib.hid ⟨h1, h2⟩
    clear h1 h2 h3
    go_wp2
    go_ret
    exact ⟨_, rfl, HP.out⟩

set_option maxHeartbeats 1000000 in
/-- slices.Clone of texts. -/
theorem cloneS_any (s : List (List UInt8)) (w : World) (v : Value) (hv : strE.Row w s v) (hl : s.length ≤ 900) :
    Calls Tryd.prog 98 #[v] w fun e w' => ∃ v', e = .returned v' ∧ OwnS 9 w.heap.size w' v' s ∧ Ext w w' := by
  obtain ⟨a, c, rfl, hc, -⟩ := hv.slice
  cases a with
  | none =>
    have hl0 : s = [] := by
      cases hx : s with
      | nil => rfl
      | cons y r =>
        obtain ⟨_, b, off, h, _⟩ := hv.at (by rw [hx]; simp)
        cases h
    subst hl0
    refine (Tryd.slices_Clone_string_nil _ _ w).mono ?_
    rintro e w' ⟨rfl, rfl⟩
    exact ⟨_, rfl, OwnS.nil _ _ _, Ext.refl _⟩
  | some ad =>
    by_cases h0 : s.length = 0
    · have hs0 : s = [] := List.eq_nil_of_length_eq_zero h0
      subst hs0
      refine (Tryd.slices_Clone_string_zero ad c w).mono ?_
      rintro e w' ⟨v', rfl, h1, -, h2⟩
      exact ⟨v', rfl, ⟨h1, fun s h => by cases h⟩, h2⟩
    · obtain ⟨-, b, off, hab, hb, hat⟩ := hv.at (by omega)
      injection hab with hab
      subst hab
      have hall : ∀ t ∈ s, t.length ≤ 9223372036854775807 := by
        intro t ht
        obtain ⟨i, hi, rfl⟩ := List.getElem_of_mem ht
        obtain ⟨cc, hR, _⟩ := hat i hi
        exact hR.2
      refine (Tryd.slices_Clone_string b off s.length c (s.map str) w (by simp) (by omega) (fun j hj => ?_)).mono ?_
      · have hjs : j < s.length := by simpa using hj
        obtain ⟨cc, hR, hcell⟩ := hat j hjs
        have := hcell 0 (by decide) w (Ext.refl w)
        rw [hR.1] at this
        rw [show off + j = off + (j * strE.sz + 0) by show off + j = off + (j * 1 + 0); omega, this]
        simp [List.getD, hjs]
      · rintro e w' ⟨v', rfl, h1, -, h2⟩
        refine ⟨v', rfl, ⟨?_, hall⟩, h2⟩
        have e : ((s.map str).take s.length).map Value.string = s.map strV := by
          rw [List.take_of_length_le (by simp), List.map_map]
          rfl
        rw [← e]
        exact h1

theorem HalfF.ext {w0 w w' : World} {v : Value} {l : List It} {j top : Nat} (h : HalfF w0 w v l j top) (hE : Ext w w') : HalfF w0 w' v l j top := by
  obtain ⟨ds, h1, h2, h3, h4⟩ := h
  exact ⟨ds, h1, hE.own h2, fun i hi hd => ⟨(h3 i hi hd).1, (h3 i hi hd).2.1, fun h => ⟨((h3 i hi hd).2.2 h).1.ext hE, ((h3 i hi hd).2.2 h).2⟩⟩, h4⟩
theorem HalfF.at {w0 w : World} {g cap : Nat} {l : List It} {j top : Nat} (h : HalfF w0 w (.slice (some ⟨g, 0, none⟩) l.length cap) l j top) (hj : j < l.length) :
    ∃ d, w.cell? ⟨g, j * 6 + 2, none⟩ = some d ∧ w.frozen? ⟨g, j * 6 + 2, none⟩ = false ∧ strE.Row w0 l[j].after d ∧ g < w.heap.size ∧ w0.heap.size ≤ g := by
  obtain ⟨ds, h1, h2, h3, _⟩ := h
  have hd : j < ds.length := by omega
  refine ⟨ds[j], ?_, h2.frozenAt _, (h3 j hj hd).2.1 (Nat.le_refl _), (h2.lt g rfl).2, (h2.lt g rfl).1⟩
  rw [h2.cellAt _ (by omega), itsCells_at l ds j 2 hj hd (by omega)]
  simp [itCells]
theorem HalfF.step {w0 w : World} {g cap : Nat} {l : List It} {j : Nat} {d : Value} {b : Nat} (h : HalfF w0 w (.slice (some ⟨g, 0, none⟩) l.length cap) l j b) (hj : j < l.length) (hd : OwnS 9 b w d l[j].after) (hb : w0.heap.size ≤ b) (hg : g < b) (hbw : b ≤ w.heap.size) :
    HalfF w0 (w.setCell ⟨g, j * 6 + 2, none⟩ d) (.slice (some ⟨g, 0, none⟩) l.length cap) l (j + 1) (w.setCell ⟨g, j * 6 + 2, none⟩ d).heap.size ∧ w.grownBy (w.setCell ⟨g, j * 6 + 2, none⟩ d) (some g) := by
  obtain ⟨ds, h1, h2, h3, h4⟩ := h
  have st := h2.stored (j * 6 + 2) d
  have hsz := st.2.size
  refine ⟨⟨ds.set j d, by simp [h1], by rw [itsCells_set l ds j d h1 hj]; exact st.1, fun i hi hid => ?_, fun i k hi hk hik hkj b' hb' => ?_⟩, st.2⟩
  · have hid' : i < ds.length := by omega
    by_cases e : i = j
    · subst e
      have ed : (ds.set i d)[i] = d := by simp
      rw [ed]
      exact ⟨(h3 i hi hid').1, fun h => by omega, fun _ => ⟨(hd.mono hb).kept st.2 (fun k hk e => by injection e with e; have := (hd.block k hk).1; omega), fun k hk => ⟨fun e => by have := Option.some.inj (show some g = some k from e); have := (hd.block k hk).1; omega, by have := (hd.block k hk).2; omega⟩⟩⟩
    · have ed : (ds.set j d)[i] = ds[i] := List.getElem_set_ne (fun h => e h.symm) _
      rw [ed]
      obtain ⟨a1, a2, a3⟩ := h3 i hi hid'
      exact ⟨a1, fun h => a2 (by omega), fun h => ⟨(a3 (by omega)).1.kept st.2 (fun k hk e => ((a3 (by omega)).2 k hk).1 (by rw [← e]; rfl)), fun k hk => ⟨((a3 (by omega)).2 k hk).1, by have := ((a3 (by omega)).2 k hk).2; omega⟩⟩⟩
  · have hi' : i < ds.length := by simpa using hi
    have hk' : k < ds.length := by simpa using hk
    have ei : (ds.set j d)[i] = ds[i] := List.getElem_set_ne (fun h => by omega) _
    rw [ei] at hb'
    by_cases e : k = j
    · subst e
      have ed : (ds.set k d)[k] = d := by simp
      rw [ed]
      intro e2
      have := ((h3 i (by omega) hi').2.2 hik).2 b' hb'
      have := (hd.block b' e2).1
      omega
    · have ek : (ds.set j d)[k] = ds[k] := List.getElem_set_ne (fun h => e h.symm) _
      rw [ek]
      exact h4 i k hi' hk' hik (by omega) b' hb'

set_option maxRecDepth 100000 in
set_option maxHeartbeats 2000000 in
/-- A copy is in memory of its own. -/
theorem fcopy_any (l : List It) (w : World) (v : Value) (hv : itE.Row w l v) (hl : l.length ≤ 900) (hs : ∀ x ∈ l, x.after.length ≤ 900) :
    Calls Tryd.prog 46 #[v] w fun e w' => ∃ v', e = .returned v' ∧ CopyF w.heap.size w' v' l ∧ Ext w w' := by
  have HV := Lib.hid hv
  have HSm := Lib.hid hs
  clear hv hs
  go_enter Tryd.func46, Tryd.ntmps46
  go_wp2_with fail
  refine (cloneI_any l w v HV.out hl).mono ?_
  rintro e w1 ⟨v1, rfl, hS, hE⟩
  obtain ⟨a, c, rfl, -⟩ := (hS.row hE).slice
  have HH : Hid (HalfF w w1 (.slice a l.length c) l 0 w1.heap.size) := Lib.hid (HalfF.start hS)
  have HE := Lib.hid hE
  clear hS hE
  go_wp2_with fail
  go_loopw [9] (fun i wr => ∃ j : Nat, j ≤ l.length ∧ i = .int .i64 j ∧ Hid (HalfF w wr (.slice a l.length c) l j wr.heap.size) ∧ Hid (Ext w wr)) (fun i _ => l.length - (intOf i).toNat)
  case atStart => exact ⟨0, by omega, rfl, HH, HE⟩
  case round =>
    clear HH HE
    obtain ⟨j, hj, rfl, HH, HE⟩ := hrel
    by_cases hlt : j < l.length
    case neg =>
      have hje : j = l.length := by omega
      have HP : Hid (CopyF w.heap.size wr (.slice a l.length c) l) := Lib.hid (by have := HH.out; rw [hje] at this; exact this.full)
      clear HH hje
      go_wp2
      go_ret
      exact ⟨_, rfl, HP.out, HE.out⟩
    obtain ⟨g, rfl⟩ : ∃ g, a = some ⟨g, 0, none⟩ := by
      obtain ⟨ds, h1, h2, h3, _⟩ := HH.out
      rcases h2.2 with ⟨h, h0⟩ | ⟨g, cap, cur, h, _⟩
      · omega
      · injection h with h; exact ⟨g, h⟩
    obtain ⟨d, hc, hf, hr, hg1, hg2⟩ := HH.out.at hlt
    have HR := Lib.hid (hr.ext HE.out)
    have hal := HSm.out l[j] (List.getElem_mem hlt)
    have hj0 : (0 : Int) ≤ (j : Int) := by omega
    have hj1 : (j : Int) < (l.length : Int) := by omega
    clear hr
    go_wp2_with fail
    refine (cloneS_any _ wr d HR.out hal).mono ?_
    rintro e w2 ⟨d', rfl, hO, hE2⟩
    obtain ⟨ad', cd', rfl, -⟩ := hO.row.slice
    have HO := Lib.hid hO
    have HE2 := Lib.hid (HE.out.trans hE2)
    have HH2 := Lib.hid (HH.out.ext hE2)
    have HSZ := Lib.hid hE2.size
    obtain ⟨d2, hc2, hf2, -, -, -⟩ := HH2.out.at hlt
    clear hO hE2 hc hf
    go_wp2_with fail
    go_roundw
    case rel =>
      obtain ⟨s1, s2⟩ := HH2.out.step hlt HO.out HE.out.size hg1 HSZ.out
      exact ⟨j + 1, by omega, by go_num, Lib.hid s1, Lib.hid (HE2.out.grown s2 (fun k hk => by injection hk with hk; omega))⟩
    case measure => simp [intOf]; omega

theorem row_parts {base : Nat} {w : World} {v : Value} {l : List It} {ds : List Value} (h1 : ds.length = l.length) (h2 : w.ownsRow base 47 6 v l.length (itsCells l ds))
    (h3 : ∀ i (hi : i < l.length) (hd : i < ds.length), strE.Row w l[i].after ds[i] ∧ itWf l[i]) : itE.Row w l v := by
  have hc := fun g => World.ownsRow.cells h2 (g := g)
  rcases h2.2 with ⟨rfl, h0⟩ | ⟨g, cap, cur, rfl, hb, hg, hl, hm, h5, h6⟩
  · have : l = [] := List.eq_nil_of_length_eq_zero h0
    subst this
    exact Elem.Row.void itE w none
  · refine Elem.Row.mk rfl hl hm (Array.getElem?_eq_some_iff.1 hg).1 (fun i hi => ?_)
    have hd : i < ds.length := by omega
    obtain ⟨a1, a2⟩ := h3 i hi hd
    refine ⟨fun j => (itCells l[i] ds[i]).getD j .nilFunc, ⟨rfl, rfl, a1, rfl, rfl, rfl, a2⟩, fun j hj => ?_⟩
    have hj6 : j < 6 := hj
    have := hc g rfl (i * 6 + j) ((itCells l[i] ds[i]).getD j .nilFunc) (by
      rw [itsCells_at l ds i j hi hd hj6, List.getD_eq_getElem?_getD, List.getElem?_eq_getElem (by simp [itCells]; omega)]
      rfl)
    rw [Addr.add_lit] at this
    exact this
theorem itsCells_put : ∀ (l : List It) (ds : List Value) (i f : Nat) (u : Value) (x' : It) (d' : Value) (_ : ds.length = l.length) (hi : i < l.length) (hd : i < ds.length) (_ : f < 6) (_ : itCells x' d' = (itCells l[i] ds[i]).set f u),
    itsCells (l.set i x') (ds.set i d') = (itsCells l ds).set (i * 6 + f) u
  | [], _, _, _, _, _, _, _, hi, _, _, _ => by simp at hi
  | _ :: _, [], _, _, _, _, _, _, _, hd, _, _ => by simp at hd
  | x :: l, e :: ds, 0, f, u, x', d', _, _, _, hf, hx => by
    unfold itsCells
    simp only [List.getElem_cons_zero] at hx
    rw [List.set_cons_zero, List.set_cons_zero, List.zipWith_cons_cons, List.zipWith_cons_cons, List.flatten_cons, List.flatten_cons, hx, Nat.zero_mul, Nat.zero_add, List.set_append_left _ _ (by simp [itCells]; omega)]
  | x :: l, e :: ds, i + 1, f, u, x', d', h, hi, hd, hf, hx => by
    have ih := itsCells_put l ds i f u x' d' (by simpa using h) (by simpa using hi) (by simpa using hd) hf (by simpa using hx)
    unfold itsCells at ih ⊢
    rw [List.set_cons_succ, List.set_cons_succ, List.zipWith_cons_cons, List.zipWith_cons_cons, List.flatten_cons, List.flatten_cons, ih]
    have e : (i + 1) * 6 + f = (itCells x e).length + (i * 6 + f) := by simp [itCells]; omega
    rw [e, List.set_append_right _ _ (by omega)]
    congr 2
    omega
theorem CopyF.put {base : Nat} {w : World} {g cap : Nat} {l : List It} {i : Nat} (h : CopyF base w (.slice (some ⟨g, 0, none⟩) l.length cap) l) (hi : i < l.length) (f : Nat) (hf : f < 6) (u : Value) (x' : It) (hx : ∀ d, itCells x' d = (itCells l[i] d).set f u) (ha : x'.after = l[i].after) (hw : itWf x') :
    itE.Row (w.setCell ⟨g, i * 6 + f, none⟩ u) (l.set i x') (.slice (some ⟨g, 0, none⟩) l.length cap) ∧ w.grownBy (w.setCell ⟨g, i * 6 + f, none⟩ u) (some g) := by
  obtain ⟨ds, h1, h2, h3, h4⟩ := h
  have st := h2.stored (i * 6 + f) u
  have hid : i < ds.length := by omega
  refine ⟨row_parts (ds := ds) (by simp [h1]) (by
    have e := itsCells_put l ds i f u x' ds[i] h1 hi hid hf (hx _)
    rw [List.set_getElem_self] at e
    rw [List.length_set, e]; exact st.1) (fun k hk hkd => ?_), st.2⟩
  have hk' : k < l.length := by simpa using hk
  obtain ⟨a1, a2, a3⟩ := h3 k hk' hkd
  have hrow := (a2.kept st.2 (fun b hb e => a3 b hb (by rw [← e]; rfl))).row
  by_cases e : i = k
  · subst e
    have ex : (l.set i x')[i] = x' := by simp
    rw [ex, ha]; exact ⟨hrow, hw⟩
  · have ex : (l.set i x')[k] = l[k] := List.getElem_set_ne e _
    rw [ex]; exact ⟨hrow, a1⟩
/-- What lies at an item, and what becomes of the copy when its texts turn. -/
theorem CopyF.at {base : Nat} {w : World} {g cap : Nat} {l : List It} {i : Nat} (h : CopyF base w (.slice (some ⟨g, 0, none⟩) l.length cap) l) (hi : i < l.length) :
    ∃ d, (∀ j u, (itCells l[i] d)[j]? = some u → w.cell? ⟨g, i * 6 + j, none⟩ = some u) ∧ (∀ j, w.frozen? ⟨g, j, none⟩ = false) ∧ base ≤ g ∧ g < w.heap.size ∧ itWf l[i] ∧ OwnS 9 base w d l[i].after ∧ (∀ b, d.ownBlock = some b → b ≠ g) ∧
      (∀ w' d' x', w.grownBy w' d.ownBlock → OwnS 9 base w' d' x'.after → (∀ b, d'.ownBlock = some b → b ≠ g) → itCells x' d' = (itCells l[i] d).set 2 d' → itWf x' →
        w'.cell? ⟨g, i * 6 + 2, none⟩ = some d ∧ w'.frozen? ⟨g, i * 6 + 2, none⟩ = false ∧ itE.Row (w'.setCell ⟨g, i * 6 + 2, none⟩ d') (l.set i x') (.slice (some ⟨g, 0, none⟩) l.length cap) ∧ w'.grownBy (w'.setCell ⟨g, i * 6 + 2, none⟩ d') (some g)) ∧
      (∀ w' x', w.grownBy w' d.ownBlock → OwnS 9 base w' d x'.after → itCells x' d = itCells l[i] d → itWf x' → itE.Row w' (l.set i x') (.slice (some ⟨g, 0, none⟩) l.length cap)) := by
  obtain ⟨ds, h1, h2, h3, h4⟩ := h
  have hid : i < ds.length := by omega
  obtain ⟨a1, a2, a3⟩ := h3 i hi hid
  have hcell : ∀ (w' : World) (_ : w'.ownsRow base 47 6 (.slice (some ⟨g, 0, none⟩) l.length cap) l.length (itsCells l ds)) j u, (itCells l[i] ds[i])[j]? = some u → w'.cell? ⟨g, i * 6 + j, none⟩ = some u := by
    intro w' h2' j u hu
    have hj : j < 6 := by have := (List.getElem?_eq_some_iff.1 hu).1; simpa [itCells] using this
    rw [h2'.cellAt _ (by omega), itsCells_at l ds i j hi hid hj]; exact hu
  have hkept : ∀ w', w.grownBy w' ds[i].ownBlock → w'.ownsRow base 47 6 (.slice (some ⟨g, 0, none⟩) l.length cap) l.length (itsCells l ds) := fun w' hg => h2.kept hg (.inr (fun e => a3 g e.symm rfl))
  refine ⟨ds[i], hcell w h2, fun j => h2.frozenAt j, (h2.lt g rfl).1, (h2.lt g rfl).2, a1, a2, fun b hb e => a3 b hb (by rw [e]; rfl), fun w' d' x' hg ho hb hx hw => ?_, fun w' x' hg ho hx hw => ?_⟩
  · have h2' := hkept w' hg
    have st := h2'.stored (i * 6 + 2) d'
    refine ⟨hcell w' h2' 2 _ (by simp [itCells]), h2'.frozenAt _, row_parts (ds := ds.set i d') (by simp [h1]) (by
      rw [List.length_set, itsCells_put l ds i 2 d' x' d' h1 hi hid (by omega) hx]; exact st.1) (fun k hk hkd => ?_), st.2⟩
    have hk' : k < l.length := by simpa using hk
    have hkd' : k < ds.length := by simpa using hkd
    by_cases e : i = k
    · subst e
      have ex : (l.set i x')[i] = x' := by simp
      have ed : (ds.set i d')[i] = d' := by simp
      rw [ex, ed]
      exact ⟨(ho.kept st.2 (fun b hb' e => by injection e with e; exact hb b hb' e.symm)).row, hw⟩
    · have ex : (l.set i x')[k] = l[k] := List.getElem_set_ne e _
      have ed : (ds.set i d')[k] = ds[k] := List.getElem_set_ne e _
      rw [ex, ed]
      obtain ⟨b1, b2, b3⟩ := h3 k hk' hkd'
      exact ⟨((b2.kept hg (fun b hb' e2 => h4 i k hid hkd' e b e2 hb')).kept st.2 (fun b hb' e2 => b3 b hb' (by rw [← e2]; rfl))).row, b1⟩
  · have h2' := hkept w' hg
    refine row_parts (ds := ds) (by simp [h1]) (by
      have e := itsCells_put l ds i 2 ds[i] x' ds[i] h1 hi hid (by omega) (by rw [hx]; simp [itCells])
      rw [List.set_getElem_self] at e
      have e2 : (itsCells l ds).set (i * 6 + 2) ds[i] = itsCells l ds := by
        refine List.ext_getElem? (fun p => ?_)
        rw [List.getElem?_set]
        split
        · rename_i hp
          subst hp
          have := itsCells_at l ds i 2 hi hid (by omega)
          rw [this]
          have hlt : i * 6 + 2 < (itsCells l ds).length := by rw [itsCells_len l ds h1]; omega
          rw [if_pos hlt]; simp [itCells]
        · rfl
      rw [List.length_set, e, e2]; exact h2') (fun k hk hkd => ?_)
    have hk' : k < l.length := by simpa using hk
    by_cases e : i = k
    · subst e
      have ex : (l.set i x')[i] = x' := by simp
      rw [ex]; exact ⟨ho.row, hw⟩
    · have ex : (l.set i x')[k] = l[k] := List.getElem_set_ne e _
      rw [ex]
      obtain ⟨b1, b2, b3⟩ := h3 k hk' hkd
      exact ⟨(b2.kept hg (fun b hb' e2 => h4 i k hid hkd e b e2 hb')).row, b1⟩
theorem set_ne {l : List It} {i : Nat} (hi : i < l.length) {x' : It} (h : x' ≠ l[i]) : l.set i x' ≠ l := by
  intro e
  apply h
  have : (l.set i x')[i]'(by simpa using hi) = x' := by simp
  rw [← this]
  congr 1

theorem CopyF.form {base : Nat} {w : World} {v : Value} {l : List It} (h : CopyF base w v l) (h0 : 0 < l.length) : ∃ g cap, v = .slice (some ⟨g, 0, none⟩) l.length cap := by
  obtain ⟨ds, h1, h2, _⟩ := h
  rcases h2.2 with ⟨_, h'⟩ | ⟨g, cap, cur, hv, _⟩
  · omega
  · exact ⟨g, cap, hv⟩
theorem CopyF.low {base : Nat} {w : World} {g cap : Nat} {l : List It} (h : CopyF base w (.slice (some ⟨g, 0, none⟩) l.length cap) l) : base ≤ g ∧ g < w.heap.size := by
  obtain ⟨ds, h1, h2, _⟩ := h
  exact h2.lt g rfl
theorem str_z (s : List UInt8) : str s ++ { data := #[122] } = str (s ++ [122]) := by
  unfold str
  apply ByteArray.ext
  simp
theorem i64_wrapped (n : Int) : isI64 (wrap64 n) := by
  have e : wrap64 n = IntKind.i64.wrap n := (IntWalk.i64_left _).symm
  rw [e, IntKind.wrap_i64]; unfold isI64; omega
theorem wrap_ne {n : Int} (h : isI64 n) : wrap64 (n + 1) ≠ n := by
  have e : wrap64 (n + 1) = IntKind.i64.wrap (n + 1) := (IntWalk.i64_left _).symm
  unfold isI64 at h
  rw [e, IntKind.wrap_i64]; omega

set_option maxRecDepth 100000 in
set_option maxHeartbeats 8000000 in
theorem fragCopy_any (w : World) (l : List It) (v : Value) (hv : itE.Row w l v) (at' wh : UInt8) :
    Calls Tryd.prog 14 #[v, .int .u8 (at'.toNat : Int), .int .u8 (wh.toNat : Int)] w fun e w' => e = .returned (.bool true) ∧ Ext w w' := by
  have HV := Lib.hid hv
  obtain ⟨al, cl, rfl, hcl, -⟩ := hv.slice
  clear hv
  go_enter Tryd.func14, Tryd.ntmps14
  go_wp2_with fail
  refine (few09_any l w _ HV.out).mono ?_
  rintro e w1 ⟨rfl, hE1⟩
  have HE1 := Lib.hid hE1
  clear hE1
  cases hf : fewF l with
  | false =>
    clear hf
    go_wp2_with fail
    refine (awake09 _).mono ?_
    rintro e wz ⟨rfl, hEz⟩
    have HEz := Lib.hid (HE1.out.trans hEz)
    clear hEz
    go_wp2
    go_ret
    exact ⟨rfl, HEz.out⟩
  | true =>
  obtain ⟨hlight, hl60⟩ := fewF_iff.1 hf
  have HLI := Lib.hid hlight
  clear hf hlight
  by_cases hl0 : l.length = 0
  case pos =>
    have hz : ((l.length : Int) == 0) = true := by rw [hl0]; rfl
    go_wp2_with fail
    refine (awake09 _).mono ?_
    rintro e wz ⟨rfl, hEz⟩
    have HEz := Lib.hid (HE1.out.trans hEz)
    clear hEz
    go_wp2
    go_ret
    exact ⟨rfl, HEz.out⟩
  have hz : ((l.length : Int) == 0) = false := beq_eq_false_iff_ne.2 (by omega)
  have HEQ := Lib.hid (eqF_iff.2 (rfl : l = l))
  go_wp2_with fail
  refine (fcopy_any l w1 _ (HV.out.ext HE1.out) (by omega) (fun x hx => by have := (lightI_iff.1 (HLI.out x hx)).1; omega)).mono ?_
  rintro e w2 ⟨vc, rfl, hC, hE2⟩
  obtain ⟨g, cc, rfl⟩ := hC.form (by omega)
  obtain ⟨hg1, hg2⟩ := hC.low
  have HC2 := Lib.hid hC
  have HE2 := Lib.hid (HE1.out.trans hE2)
  clear hC hE2
  go_wp2_with fail
  refine (fcopy_any l w2 _ (HV.out.ext HE2.out) (by omega) (fun x hx => by have := (lightI_iff.1 (HLI.out x hx)).1; omega)).mono ?_
  rintro e w3 ⟨vd, rfl, hD, hE3⟩
  obtain ⟨ae, ce, rfl, -⟩ := hD.own.row.slice
  have HD3 := Lib.hid hD
  have HW3 := Lib.hid hE3
  have HE3 := Lib.hid (HE2.out.trans hE3)
  clear hD hE3
  go_wp2_with fail
  refine (fSame_any l l w3 _ _ (HC2.out.ext HW3.out).own.row (HV.out.ext HE3.out)).mono ?_
  rw [HEQ.out]
  rintro e w4 ⟨rfl, hE4⟩
  have HW4 := Lib.hid hE4
  clear hE4
  go_wp2_with fail
  refine (fSame_any l l w4 _ _ (HV.out.ext (HE3.out.trans HW4.out)) (HD3.out.ext HW4.out).own.row).mono ?_
  rw [HEQ.out]
  rintro e w5 ⟨rfl, hE5⟩
  have HE5 := Lib.hid (HE3.out.trans (HW4.out.trans hE5))
  have HC5 := Lib.hid (HC2.out.ext (HW3.out.trans (HW4.out.trans hE5)))
  have HD5 := Lib.hid (HD3.out.ext (HW4.out.trans hE5))
  obtain ⟨G, hG⟩ : ∃ G : Nat, G = at'.toNat % l.length := ⟨_, rfl⟩
  have hGl : G < l.length := by rw [hG]; exact Nat.mod_lt _ (by omega)
  obtain ⟨d0, -, -, -, -, -, hO2, -⟩ := HC2.out.at hGl
  have hx0 : Ext w2 w5 := HW3.out.trans (HW4.out.trans hE5)
  clear hE5 HW3 HW4 HD3 HE3 hO2
  obtain ⟨d, hcell, hfz, hb1, hb2, hwf, hO, hdg, hP, hQ⟩ := HC5.out.at hGl
  obtain ⟨d2, hcell2, -, -, -, -, hO2, -⟩ := HC2.out.at hGl
  have hdd : d2 = d := by
    have q1 := hcell 2 d (by simp [itCells])
    have q2 := hcell2 2 d2 (by simp [itCells])
    have q3 := hx0.cell (p := ⟨g, G * 6 + 2, none⟩) hg2
    rw [q1, q2] at q3
    exact (Option.some.inj q3).symm
  subst hdd
  have hdw : ∀ b, d2.ownBlock = some b → b < w2.heap.size := fun b hb => (hO2.block b hb).2
  clear hcell2 hO2 hx0
  have hat100 : ∀ s, s ∈ l[G].after → s.length ≤ 100 := (lightI_iff.1 (HLI.out _ (List.getElem_mem hGl))).2.2.2
  have ha40 : l[G].after.length ≤ 40 := (lightI_iff.1 (HLI.out _ (List.getElem_mem hGl))).1
  have hn100 : l[G].name.length ≤ 100 := (lightI_iff.1 (HLI.out _ (List.getElem_mem hGl))).2.1
  have ho100 : l[G].over.length ≤ 100 := (lightI_iff.1 (HLI.out _ (List.getElem_mem hGl))).2.2.1
  obtain ⟨x, hx⟩ : ∃ x, x = l[G] := ⟨_, rfl⟩
  rw [← hx] at hcell hwf hO hP hat100 ha40 hn100 ho100
  have hQ : _ := hQ
  rw [← hx] at hQ
  have HX := Lib.hid hx
  obtain ⟨ad, cd, rfl, -⟩ := hO.row.slice
  obtain ⟨hw1, hw2, hw3, hw4⟩ := hwf
  have c0 : w5.cell? ⟨g, G * 6, none⟩ = some (.string (str x.name)) := hcell 0 _ rfl
  have c1 : w5.cell? ⟨g, G * 6 + 1, none⟩ = some (.int .u8 (x.kind.toNat : Int)) := hcell 1 _ rfl
  have c2 : w5.cell? ⟨g, G * 6 + 2, none⟩ = some (.slice ad x.after.length cd) := hcell 2 _ rfl
  have c3 : w5.cell? ⟨g, G * 6 + 3, none⟩ = some (.string (str x.over)) := hcell 3 _ rfl
  have c4 : w5.cell? ⟨g, G * 6 + 4, none⟩ = some (.int .i64 x.width) := hcell 4 _ rfl
  have c5 : w5.cell? ⟨g, G * 6 + 5, none⟩ = some (.int .i64 x.quota) := hcell 5 _ rfl
  have f0 := hfz (G * 6)
  have f1 := hfz (G * 6 + 1)
  have f2 := hfz (G * 6 + 2)
  have f3 := hfz (G * 6 + 3)
  have f4 := hfz (G * 6 + 4)
  have f5 := hfz (G * 6 + 5)
  have hnz := str_size x.name
  have hoz := str_size x.over
  have hzn := str_z x.name
  have hzo := str_z x.over
  have hatl := at'.toNat_lt
  have hwhl := wh.toNat_lt
  generalize at'.toNat = atn at *
  generalize wh.toNat = whn at *
  have hgg : (atn : Int) % (l.length : Int) = (G : Int) := by rw [hG]; simp
  have hG0 : (0 : Int) ≤ (G : Int) := by omega
  have hG1 : (G : Int) < (l.length : Int) := by omega
  have hcv : IntKind.i64.wrap (atn : Int) = (atn : Int) := IntWalk.i64_in _ (by omega)
  have hrm : IntKind.i64.wrap ((atn : Int).tmod (l.length : Int)) = (G : Int) := by
    rw [Int.tmod_eq_emod_of_nonneg (by omega), hgg]; exact IntWalk.i64_in _ (by omega)
  have hnl : ¬ ((l.length : Int) = 0) := by omega
  obtain ⟨K, hK⟩ : ∃ K : Nat, K = whn % 7 := ⟨_, rfl⟩
  have hkk : (whn : Int) % 7 = (K : Int) := by rw [hK]; simp
  have hK7 : K < 7 := by omega
  clear hx hG hK hfz hcell
  by_cases hK0 : K = 0
  case pos =>
    subst hK0
    have hk7 : (whn : Int) % 7 = 0 := hkk
    have hkw : IntKind.u8.wrap ((whn : Int).tmod 7) = 0 := by rw [Int.tmod_eq_emod_of_nonneg (by omega), hk7]; rfl
    clear hkk hK7
    obtain ⟨hR6, hg6⟩ := HC5.out.put hGl 0 (by omega) (.string (str (x.name ++ [122]))) ⟨x.name ++ [122], x.kind, x.after, x.over, x.width, x.quota⟩ (fun d => by rw [← HX.out]; rfl) (by rw [← HX.out]) ⟨by simp only [List.length_append, List.length_singleton]; omega, hw2, hw3, hw4⟩
    try simp only [Nat.add_zero] at hR6 hg6
    have hne : ⟨x.name ++ [122], x.kind, x.after, x.over, x.width, x.quota⟩ ≠ l[G] := by rw [← HX.out]; intro e; have e := congrArg It.name e; have := congrArg List.length e; simp at this
    go_wp2_with fail
    clear c0 c1 c2 c3 c4 c5 f0 f1 f2 f3 f4 f5
    generalize w5.setCell ⟨g, G * 6, none⟩ (.string (str (x.name ++ [122]))) = w6 at *
    have HR6 := Lib.hid hR6
    have HE6 := Lib.hid (HE5.out.grown hg6 (fun k hk => by have hk := Option.some.inj hk; have := HE1.out.size; omega))
    have HD6 := Lib.hid (HD5.out.own.kept hg6 (fun b hb => by have hb := Option.some.inj hb; omega)).row
    have HF1 := Lib.hid (eqF_ne (set_ne hGl hne))
    have HF2 := Lib.hid (eqF_ne (fun e => set_ne hGl hne e.symm))
    clear hR6 hg6 hne
    go_wp2_with fail
    refine (fSame_any _ l _ _ _ HR6.out HD6.out).mono ?_
    rw [HF1.out]
    rintro e w7 ⟨rfl, hE7⟩
    have HR7 := Lib.hid (HR6.out.ext hE7)
    have HD7 := Lib.hid (HD6.out.ext hE7)
    have HE7 := Lib.hid (HE6.out.trans hE7)
    clear hE7
    go_wp2_with fail
    refine (fSame_any l _ _ _ _ HD7.out HR7.out).mono ?_
    rw [HF2.out]
    rintro e w8 ⟨rfl, hE8⟩
    have HD8 := Lib.hid (HD7.out.ext hE8)
    have HE8 := Lib.hid (HE7.out.trans hE8)
    clear hE8
    go_wp2_with fail
    refine (fSame_any l l _ _ _ (HV.out.ext HE8.out) HD8.out).mono ?_
    rw [HEQ.out]
    rintro e w9 ⟨rfl, hE9⟩
    have HE9 := Lib.hid (HE8.out.trans hE9)
    clear hE9
    go_wp2_with fail
    refine (awake09 _).mono ?_
    rintro e wz ⟨rfl, hEz⟩
    have HEz := Lib.hid (HE9.out.trans hEz)
    clear hEz
    go_wp2
    go_ret
    exact ⟨rfl, HEz.out⟩
  by_cases hK1 : K = 1
  case pos =>
    subst hK1
    have hk7 : (whn : Int) % 7 = 1 := hkk
    have hkw : IntKind.u8.wrap ((whn : Int).tmod 7) = 1 := by rw [Int.tmod_eq_emod_of_nonneg (by omega), hk7]; rfl
    clear hkk hK7
    obtain ⟨KN, hKN⟩ : ∃ KN, KN = x.kind + 1 := ⟨_, rfl⟩
    have HKN := Lib.hid hKN
    have hku : ((x.kind.toNat : Int) + 1) % 256 = (KN.toNat : Int) := by rw [hKN, UInt8.toNat_add]; have h1 : (1 : UInt8).toNat = 1 := rfl; rw [h1]; omega
    clear hKN
    obtain ⟨hR6, hg6⟩ := HC5.out.put hGl 1 (by omega) (.int .u8 (KN.toNat : Int)) ⟨x.name, KN, x.after, x.over, x.width, x.quota⟩ (fun d => by rw [← HX.out]; rfl) (by rw [← HX.out]) ⟨hw1, hw2, hw3, hw4⟩
    try simp only [Nat.add_zero] at hR6 hg6
    have hne : ⟨x.name, KN, x.after, x.over, x.width, x.quota⟩ ≠ l[G] := by rw [← HX.out]; intro e; have e := congrArg It.kind e; have e := congrArg UInt8.toNat e; have e2 := congrArg UInt8.toNat HKN.out; rw [UInt8.toNat_add] at e2; have := x.kind.toNat_lt; have h1 : (1 : UInt8).toNat = 1 := rfl; dsimp only at e; omega
    go_wp2_with fail
    clear c0 c1 c2 c3 c4 c5 f0 f1 f2 f3 f4 f5
    generalize w5.setCell ⟨g, G * 6 + 1, none⟩ (.int .u8 (KN.toNat : Int)) = w6 at *
    have HR6 := Lib.hid hR6
    have HE6 := Lib.hid (HE5.out.grown hg6 (fun k hk => by have hk := Option.some.inj hk; have := HE1.out.size; omega))
    have HD6 := Lib.hid (HD5.out.own.kept hg6 (fun b hb => by have hb := Option.some.inj hb; omega)).row
    have HF1 := Lib.hid (eqF_ne (set_ne hGl hne))
    have HF2 := Lib.hid (eqF_ne (fun e => set_ne hGl hne e.symm))
    clear hR6 hg6 hne
    go_wp2_with fail
    refine (fSame_any _ l _ _ _ HR6.out HD6.out).mono ?_
    rw [HF1.out]
    rintro e w7 ⟨rfl, hE7⟩
    have HR7 := Lib.hid (HR6.out.ext hE7)
    have HD7 := Lib.hid (HD6.out.ext hE7)
    have HE7 := Lib.hid (HE6.out.trans hE7)
    clear hE7
    go_wp2_with fail
    refine (fSame_any l _ _ _ _ HD7.out HR7.out).mono ?_
    rw [HF2.out]
    rintro e w8 ⟨rfl, hE8⟩
    have HD8 := Lib.hid (HD7.out.ext hE8)
    have HE8 := Lib.hid (HE7.out.trans hE8)
    clear hE8
    go_wp2_with fail
    refine (fSame_any l l _ _ _ (HV.out.ext HE8.out) HD8.out).mono ?_
    rw [HEQ.out]
    rintro e w9 ⟨rfl, hE9⟩
    have HE9 := Lib.hid (HE8.out.trans hE9)
    clear hE9
    go_wp2_with fail
    refine (awake09 _).mono ?_
    rintro e wz ⟨rfl, hEz⟩
    have HEz := Lib.hid (HE9.out.trans hEz)
    clear hEz
    go_wp2
    go_ret
    exact ⟨rfl, HEz.out⟩
  by_cases hK2 : K = 2
  case pos =>
    subst hK2
    have hk7 : (whn : Int) % 7 = 2 := hkk
    have hkw : IntKind.u8.wrap ((whn : Int).tmod 7) = 2 := by rw [Int.tmod_eq_emod_of_nonneg (by omega), hk7]; rfl
    clear hkk hK7
    have HA0 := Lib.hid (hO.ext ((Ext.refl w5).alloc (.cells #[.string { data := #[97] }] 9)))
    have HNb := Lib.hid (heap_alloc_new w5 (.cells #[.string { data := #[97] }] 9))
    have HWs : Hid (w5.heap.size < (w5.alloc (.cells #[.string { data := #[97] }] 9)).heap.size) := Lib.hid (by simp)
    have HP := Lib.hid hP
    have HAW := Lib.hid (grown_ext ((Ext.refl w5).alloc (.cells #[.string { data := #[97] }] 9)) (Value.slice ad x.after.length cd).ownBlock)
    have HAl := Lib.hid hO.2
    have hE1s := HE1.out.size
    clear hP
    go_wp2_with (at_builtin; refine wpList_appOne elem_string rfl _ _ rfl rfl HA0.out.1 rfl HNb.out rfl (by simp [Value.oneCell']) (by omega) (by omega) (by have := HWs.out; omega) ?_)
    intro v6 w6 ho hgr hat
    have ho6 : OwnS 9 w1.heap.size w6 v6 (x.after ++ [[97]]) := OwnS.snoc ho HAl.out (by simp)
    obtain ⟨a6, c6, e6, -⟩ := ho6.row.slice
    rw [List.length_append, List.length_singleton] at e6
    have hb6 : ∀ b, v6.ownBlock = some b → b ≠ g := by
      intro b hb e
      rcases hat with h | h
      · exact hdg b (by rw [← h]; exact hb) e
      · rw [h] at hb; have hb := Option.some.inj hb; have := HWs.out; omega
    obtain ⟨q1, q2, q3, q4⟩ := HP.out w6 v6 ⟨x.name, x.kind, x.after ++ [[97]], x.over, x.width, x.quota⟩ (grown_trans HAW.out hgr) ho6 hb6 rfl ⟨hw1, hw2, hw3, hw4⟩
    have hgr5 := grown_trans HAW.out hgr
    subst e6
    have HR6 := Lib.hid q3
    have HE6 := Lib.hid ((HE5.out.grown hgr5 (fun k hk => by have := (hO.block k hk).1; omega)).grown q4 (fun k hk => by have hk := Option.some.inj hk; omega))
    have HD6 := Lib.hid ((HD5.out.own.kept hgr5 (fun b hb => by have := hdw b hb; omega)).kept q4 (fun b hb => by have hb := Option.some.inj hb; omega)).row
    have hne : (⟨x.name, x.kind, x.after ++ [[97]], x.over, x.width, x.quota⟩ : It) ≠ l[G] := by rw [← HX.out]; intro e; have e := congrArg It.after e; have := congrArg List.length e; simp at this
    have HF1 := Lib.hid (eqF_ne (set_ne hGl hne))
    have HF2 := Lib.hid (eqF_ne (fun e => set_ne hGl hne e.symm))
    clear ho hgr hat ho6 hb6 q3 q4 hgr5 hne HP HAW HAl HNb HWs HA0 c0 c1 c2 c3 c4 c5 f0 f1 f2 f3 f4 f5
    go_wp2_with fail
    refine (fSame_any _ l _ _ _ HR6.out HD6.out).mono ?_
    rw [HF1.out]
    rintro e w7 ⟨rfl, hE7⟩
    have HR7 := Lib.hid (HR6.out.ext hE7)
    have HD7 := Lib.hid (HD6.out.ext hE7)
    have HE7 := Lib.hid (HE6.out.trans hE7)
    clear hE7
    go_wp2_with fail
    refine (fSame_any l _ _ _ _ HD7.out HR7.out).mono ?_
    rw [HF2.out]
    rintro e w8 ⟨rfl, hE8⟩
    have HD8 := Lib.hid (HD7.out.ext hE8)
    have HE8 := Lib.hid (HE7.out.trans hE8)
    clear hE8
    go_wp2_with fail
    refine (fSame_any l l _ _ _ (HV.out.ext HE8.out) HD8.out).mono ?_
    rw [HEQ.out]
    rintro e w9 ⟨rfl, hE9⟩
    have HE9 := Lib.hid (HE8.out.trans hE9)
    clear hE9
    go_wp2_with fail
    refine (awake09 _).mono ?_
    rintro e wz ⟨rfl, hEz⟩
    have HEz := Lib.hid (HE9.out.trans hEz)
    clear hEz
    go_wp2
    go_ret
    exact ⟨rfl, HEz.out⟩
  by_cases hK3 : K = 3
  case pos =>
    subst hK3
    have hk7 : (whn : Int) % 7 = 3 := hkk
    have hkw : IntKind.u8.wrap ((whn : Int).tmod 7) = 3 := by rw [Int.tmod_eq_emod_of_nonneg (by omega), hk7]; rfl
    clear hkk hK7
    obtain ⟨hR6, hg6⟩ := HC5.out.put hGl 3 (by omega) (.string (str (x.over ++ [122]))) ⟨x.name, x.kind, x.after, x.over ++ [122], x.width, x.quota⟩ (fun d => by rw [← HX.out]; rfl) (by rw [← HX.out]) ⟨hw1, by simp only [List.length_append, List.length_singleton]; omega, hw3, hw4⟩
    try simp only [Nat.add_zero] at hR6 hg6
    have hne : ⟨x.name, x.kind, x.after, x.over ++ [122], x.width, x.quota⟩ ≠ l[G] := by rw [← HX.out]; intro e; have e := congrArg It.over e; have := congrArg List.length e; simp at this
    go_wp2_with fail
    clear c0 c1 c2 c3 c4 c5 f0 f1 f2 f3 f4 f5
    generalize w5.setCell ⟨g, G * 6 + 3, none⟩ (.string (str (x.over ++ [122]))) = w6 at *
    have HR6 := Lib.hid hR6
    have HE6 := Lib.hid (HE5.out.grown hg6 (fun k hk => by have hk := Option.some.inj hk; have := HE1.out.size; omega))
    have HD6 := Lib.hid (HD5.out.own.kept hg6 (fun b hb => by have hb := Option.some.inj hb; omega)).row
    have HF1 := Lib.hid (eqF_ne (set_ne hGl hne))
    have HF2 := Lib.hid (eqF_ne (fun e => set_ne hGl hne e.symm))
    clear hR6 hg6 hne
    go_wp2_with fail
    refine (fSame_any _ l _ _ _ HR6.out HD6.out).mono ?_
    rw [HF1.out]
    rintro e w7 ⟨rfl, hE7⟩
    have HR7 := Lib.hid (HR6.out.ext hE7)
    have HD7 := Lib.hid (HD6.out.ext hE7)
    have HE7 := Lib.hid (HE6.out.trans hE7)
    clear hE7
    go_wp2_with fail
    refine (fSame_any l _ _ _ _ HD7.out HR7.out).mono ?_
    rw [HF2.out]
    rintro e w8 ⟨rfl, hE8⟩
    have HD8 := Lib.hid (HD7.out.ext hE8)
    have HE8 := Lib.hid (HE7.out.trans hE8)
    clear hE8
    go_wp2_with fail
    refine (fSame_any l l _ _ _ (HV.out.ext HE8.out) HD8.out).mono ?_
    rw [HEQ.out]
    rintro e w9 ⟨rfl, hE9⟩
    have HE9 := Lib.hid (HE8.out.trans hE9)
    clear hE9
    go_wp2_with fail
    refine (awake09 _).mono ?_
    rintro e wz ⟨rfl, hEz⟩
    have HEz := Lib.hid (HE9.out.trans hEz)
    clear hEz
    go_wp2
    go_ret
    exact ⟨rfl, HEz.out⟩
  by_cases hK4 : K = 4
  case pos =>
    subst hK4
    have hk7 : (whn : Int) % 7 = 4 := hkk
    have hkw : IntKind.u8.wrap ((whn : Int).tmod 7) = 4 := by rw [Int.tmod_eq_emod_of_nonneg (by omega), hk7]; rfl
    clear hkk hK7
    obtain ⟨hR6, hg6⟩ := HC5.out.put hGl 4 (by omega) (.int .i64 (wrap64 (x.width + 1))) ⟨x.name, x.kind, x.after, x.over, wrap64 (x.width + 1), x.quota⟩ (fun d => by rw [← HX.out]; rfl) (by rw [← HX.out]) ⟨hw1, hw2, i64_wrapped _, hw4⟩
    try simp only [Nat.add_zero] at hR6 hg6
    have hne : ⟨x.name, x.kind, x.after, x.over, wrap64 (x.width + 1), x.quota⟩ ≠ l[G] := by rw [← HX.out]; intro e; have e := congrArg It.width e; exact wrap_ne hw3 e
    go_wp2_with fail
    clear c0 c1 c2 c3 c4 c5 f0 f1 f2 f3 f4 f5
    generalize w5.setCell ⟨g, G * 6 + 4, none⟩ (.int .i64 (wrap64 (x.width + 1))) = w6 at *
    have HR6 := Lib.hid hR6
    have HE6 := Lib.hid (HE5.out.grown hg6 (fun k hk => by have hk := Option.some.inj hk; have := HE1.out.size; omega))
    have HD6 := Lib.hid (HD5.out.own.kept hg6 (fun b hb => by have hb := Option.some.inj hb; omega)).row
    have HF1 := Lib.hid (eqF_ne (set_ne hGl hne))
    have HF2 := Lib.hid (eqF_ne (fun e => set_ne hGl hne e.symm))
    clear hR6 hg6 hne
    go_wp2_with fail
    refine (fSame_any _ l _ _ _ HR6.out HD6.out).mono ?_
    rw [HF1.out]
    rintro e w7 ⟨rfl, hE7⟩
    have HR7 := Lib.hid (HR6.out.ext hE7)
    have HD7 := Lib.hid (HD6.out.ext hE7)
    have HE7 := Lib.hid (HE6.out.trans hE7)
    clear hE7
    go_wp2_with fail
    refine (fSame_any l _ _ _ _ HD7.out HR7.out).mono ?_
    rw [HF2.out]
    rintro e w8 ⟨rfl, hE8⟩
    have HD8 := Lib.hid (HD7.out.ext hE8)
    have HE8 := Lib.hid (HE7.out.trans hE8)
    clear hE8
    go_wp2_with fail
    refine (fSame_any l l _ _ _ (HV.out.ext HE8.out) HD8.out).mono ?_
    rw [HEQ.out]
    rintro e w9 ⟨rfl, hE9⟩
    have HE9 := Lib.hid (HE8.out.trans hE9)
    clear hE9
    go_wp2_with fail
    refine (awake09 _).mono ?_
    rintro e wz ⟨rfl, hEz⟩
    have HEz := Lib.hid (HE9.out.trans hEz)
    clear hEz
    go_wp2
    go_ret
    exact ⟨rfl, HEz.out⟩
  by_cases hK5 : K = 5
  case pos =>
    subst hK5
    have hk7 : (whn : Int) % 7 = 5 := hkk
    have hkw : IntKind.u8.wrap ((whn : Int).tmod 7) = 5 := by rw [Int.tmod_eq_emod_of_nonneg (by omega), hk7]; rfl
    clear hkk hK7
    obtain ⟨hR6, hg6⟩ := HC5.out.put hGl 5 (by omega) (.int .i64 (wrap64 (x.quota + 1))) ⟨x.name, x.kind, x.after, x.over, x.width, wrap64 (x.quota + 1)⟩ (fun d => by rw [← HX.out]; rfl) (by rw [← HX.out]) ⟨hw1, hw2, hw3, i64_wrapped _⟩
    try simp only [Nat.add_zero] at hR6 hg6
    have hne : ⟨x.name, x.kind, x.after, x.over, x.width, wrap64 (x.quota + 1)⟩ ≠ l[G] := by rw [← HX.out]; intro e; have e := congrArg It.quota e; exact wrap_ne hw4 e
    go_wp2_with fail
    clear c0 c1 c2 c3 c4 c5 f0 f1 f2 f3 f4 f5
    generalize w5.setCell ⟨g, G * 6 + 5, none⟩ (.int .i64 (wrap64 (x.quota + 1))) = w6 at *
    have HR6 := Lib.hid hR6
    have HE6 := Lib.hid (HE5.out.grown hg6 (fun k hk => by have hk := Option.some.inj hk; have := HE1.out.size; omega))
    have HD6 := Lib.hid (HD5.out.own.kept hg6 (fun b hb => by have hb := Option.some.inj hb; omega)).row
    have HF1 := Lib.hid (eqF_ne (set_ne hGl hne))
    have HF2 := Lib.hid (eqF_ne (fun e => set_ne hGl hne e.symm))
    clear hR6 hg6 hne
    go_wp2_with fail
    refine (fSame_any _ l _ _ _ HR6.out HD6.out).mono ?_
    rw [HF1.out]
    rintro e w7 ⟨rfl, hE7⟩
    have HR7 := Lib.hid (HR6.out.ext hE7)
    have HD7 := Lib.hid (HD6.out.ext hE7)
    have HE7 := Lib.hid (HE6.out.trans hE7)
    clear hE7
    go_wp2_with fail
    refine (fSame_any l _ _ _ _ HD7.out HR7.out).mono ?_
    rw [HF2.out]
    rintro e w8 ⟨rfl, hE8⟩
    have HD8 := Lib.hid (HD7.out.ext hE8)
    have HE8 := Lib.hid (HE7.out.trans hE8)
    clear hE8
    go_wp2_with fail
    refine (fSame_any l l _ _ _ (HV.out.ext HE8.out) HD8.out).mono ?_
    rw [HEQ.out]
    rintro e w9 ⟨rfl, hE9⟩
    have HE9 := Lib.hid (HE8.out.trans hE9)
    clear hE9
    go_wp2_with fail
    refine (awake09 _).mono ?_
    rintro e wz ⟨rfl, hEz⟩
    have HEz := Lib.hid (HE9.out.trans hEz)
    clear hEz
    go_wp2
    go_ret
    exact ⟨rfl, HEz.out⟩
  by_cases hK6 : K = 6
  case pos =>
    subst hK6
    have hk7 : (whn : Int) % 7 = 6 := hkk
    have hkw : IntKind.u8.wrap ((whn : Int).tmod 7) = 6 := by rw [Int.tmod_eq_emod_of_nonneg (by omega), hk7]; rfl
    clear hkk hK7
    by_cases h0 : x.after.length = 0
    case pos =>
      have h0' : ((x.after.length : Int) == 0) = true := by rw [h0]; rfl
      go_wp2_with fail
      refine (awake09 _).mono ?_
      rintro e wz ⟨rfl, hEz⟩
      have HEz := Lib.hid (HE5.out.trans hEz)
      clear hEz
      go_wp2
      go_ret
      exact ⟨rfl, HEz.out⟩
    have h0' : ((x.after.length : Int) == 0) = false := beq_eq_false_iff_ne.2 (by omega)
    obtain ⟨g2, rfl⟩ : ∃ g2, ad = some ⟨g2, 0, none⟩ := by
      rcases hO.1.2 with ⟨h, h'⟩ | ⟨g2, cap, cur, h, _⟩
      · omega
      · injection h with h; exact ⟨g2, h⟩
    have hpos : 0 < x.after.length := by omega
    have k0 := hO.1.cellAt 0 (by omega)
    have kf := hO.1.frozenAt 0
    rw [List.getElem?_map, List.getElem?_eq_getElem hpos] at k0
    simp only [Option.map_some, strV] at k0
    have hal0 := hO.2 _ (List.getElem_mem hpos)
    have ha100 := hat100 _ (List.getElem_mem hpos)
    obtain ⟨y, hy⟩ : ∃ y, y = x.after[0] := ⟨_, rfl⟩
    rw [← hy] at k0 ha100
    have HY := Lib.hid hy
    have hcat := str_z y
    have hysz := str_size y
    have st := hO.1.stored 0 (.string (str (y ++ [122])))
    have HR6 := Lib.hid (hQ (w5.setCell ⟨g2, 0, none⟩ (.string (str (y ++ [122])))) ⟨x.name, x.kind, x.after.set 0 (y ++ [122]), x.over, x.width, x.quota⟩ st.2 ⟨by rw [List.length_set, List.map_set]; exact st.1, fun t ht => by
      rcases List.mem_or_eq_of_mem_set ht with h | rfl
      · exact hO.2 t h
      · simp only [List.length_append, List.length_singleton]; omega⟩ (by simp [itCells]) ⟨hw1, hw2, hw3, hw4⟩)
    have hg6 := st.2
    have hgb := hO.block g2 rfl
    have HE6 := Lib.hid (HE5.out.grown hg6 (fun k hk => by have hk := Option.some.inj hk; have := HE1.out.size; omega))
    have HD6 := Lib.hid (HD5.out.own.kept hg6 (fun b hb => by have hb := Option.some.inj hb; have := hdw g2 rfl; omega)).row
    have hne : (⟨x.name, x.kind, x.after.set 0 (y ++ [122]), x.over, x.width, x.quota⟩ : It) ≠ l[G] := by
      rw [← HX.out]; intro e
      have e : x.after.set 0 (y ++ [122]) = x.after := congrArg It.after e
      have h1 : (x.after.set 0 (y ++ [122]))[0]? = some (y ++ [122]) := by simp [hpos]
      rw [e, List.getElem?_eq_getElem hpos, ← HY.out] at h1
      have := congrArg List.length (Option.some.inj h1)
      simp at this
    have HF1 := Lib.hid (eqF_ne (set_ne hGl hne))
    have HF2 := Lib.hid (eqF_ne (fun e => set_ne hGl hne e.symm))
    clear hy st hne hg6 hal0
    go_wp2_with fail
    clear c0 c1 c2 c3 c4 c5 f0 f1 f2 f3 f4 f5 k0 kf
    generalize w5.setCell ⟨g2, 0, none⟩ (.string (str (y ++ [122]))) = w6 at *
    refine (fSame_any _ l _ _ _ HR6.out HD6.out).mono ?_
    rw [HF1.out]
    rintro e w7 ⟨rfl, hE7⟩
    have HR7 := Lib.hid (HR6.out.ext hE7)
    have HD7 := Lib.hid (HD6.out.ext hE7)
    have HE7 := Lib.hid (HE6.out.trans hE7)
    clear hE7
    go_wp2_with fail
    refine (fSame_any l _ _ _ _ HD7.out HR7.out).mono ?_
    rw [HF2.out]
    rintro e w8 ⟨rfl, hE8⟩
    have HD8 := Lib.hid (HD7.out.ext hE8)
    have HE8 := Lib.hid (HE7.out.trans hE8)
    clear hE8
    go_wp2_with fail
    refine (fSame_any l l _ _ _ (HV.out.ext HE8.out) HD8.out).mono ?_
    rw [HEQ.out]
    rintro e w9 ⟨rfl, hE9⟩
    have HE9 := Lib.hid (HE8.out.trans hE9)
    clear hE9
    go_wp2_with fail
    refine (awake09 _).mono ?_
    rintro e wz ⟨rfl, hEz⟩
    have HEz := Lib.hid (HE9.out.trans hEz)
    clear hEz
    go_wp2
    go_ret
    exact ⟨rfl, HEz.out⟩
  omega
end Go.Proofs.YtnbalamacpcanaaDoor
