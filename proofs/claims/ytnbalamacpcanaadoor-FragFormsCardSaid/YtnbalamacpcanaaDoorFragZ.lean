/- FragForms answers true at every input. -/
import Derived.Test.YtnbalamacpcanaaDoorFragV
import Derived.Test.YtnbalamacpcanaaDoorFragG
open Go.RowKit Go.Shelf
namespace Go.Proofs.YtnbalamacpcanaaDoor
open Go Go.Proofs Fm

theorem itsCells_len : ∀ (l : List It) (ds : List Value), ds.length = l.length → (itsCells l ds).length = l.length * 6
  | [], _, _ => by simp [itsCells]
  | _ :: _, [], h => by simp at h
  | x :: l, d :: ds, h => by
    have ih := itsCells_len l ds (by simpa using h)
    unfold itsCells at ih ⊢
    rw [List.zipWith_cons_cons, List.flatten_cons, List.length_append, ih]
    simp [itCells]; omega
theorem itsCells_some {l : List It} {ds : List Value} (h : ds.length = l.length) {p : Nat} {u : Value} (hu : (itsCells l ds)[p]? = some u) :
    ∃ (i j : Nat) (hi : i < l.length) (hd : i < ds.length), j < 6 ∧ p = i * 6 + j ∧ (itCells l[i] ds[i])[j]? = some u := by
  have hp : p < (itsCells l ds).length := (List.getElem?_eq_some_iff.1 hu).1
  rw [itsCells_len l ds h] at hp
  have hi : p / 6 < l.length := by omega
  have e : p = p / 6 * 6 + p % 6 := by omega
  refine ⟨p / 6, p % 6, hi, by omega, by omega, e, ?_⟩
  rw [← itsCells_at l ds (p / 6) (p % 6) hi (by omega) (by omega), ← e]; exact hu
theorem itsCells_append {l m : List It} {ds es : List Value} (h : ds.length = l.length) : itsCells (l ++ m) (ds ++ es) = itsCells l ds ++ itsCells m es := by
  unfold itsCells
  rw [List.zipWith_append h.symm, List.flatten_append]
/-- Items that may be appended. -/
def SrcI (w0 w : World) (X : Value) (m : List It) : Prop :=
  ∃ ds : List Value, ds.length = m.length ∧ (∀ i (hi : i < m.length) (hd : i < ds.length), strE.Row w0 m[i].after ds[i] ∧ itWf m[i]) ∧ Src Tryd.prog 6 43 X m.length (itsCells m ds) w
theorem srcI_row {w0 w : World} {l : List It} {X : Value} (h : itE.Row w0 l X) (hE : Ext w0 w) : SrcI w0 w X l := by
  obtain ⟨a, cap, rfl, h1, h2, h3, C, h4, h5⟩ := h
  have hl : ((List.range l.length).map (fun i => C i 2)).length = l.length := by simp
  have hd : ∀ i (_ : i < l.length) (hd : i < ((List.range l.length).map (fun i => C i 2)).length), ((List.range l.length).map (fun i => C i 2))[i] = C i 2 := by intro i hi hd; simp
  have hcc : ∀ i j u (hi : i < l.length) (hd : i < ((List.range l.length).map (fun i => C i 2)).length), j < 6 → (itCells l[i] ((List.range l.length).map (fun i => C i 2))[i])[j]? = some u → C i j = u ∧ u.oneCell' = true := by
    intro i j u hi hd' hj hc
    rw [hd i hi hd'] at hc
    obtain ⟨r0, r1, r2, r3, r4, r5, _⟩ := h5 i hi
    obtain ⟨a2, c2, e2, _⟩ := r2.slice
    match j, hj with
    | 0, _ => simp [itCells] at hc; rw [← hc]; exact ⟨r0, rfl⟩
    | 1, _ => simp [itCells] at hc; rw [← hc]; exact ⟨r1, rfl⟩
    | 2, _ => simp [itCells] at hc; rw [← hc]; exact ⟨rfl, by rw [e2]; rfl⟩
    | 3, _ => simp [itCells] at hc; rw [← hc]; exact ⟨r3, rfl⟩
    | 4, _ => simp [itCells] at hc; rw [← hc]; exact ⟨r4, rfl⟩
    | 5, _ => simp [itCells] at hc; rw [← hc]; exact ⟨r5, rfl⟩
  refine ⟨(List.range l.length).map (fun i => C i 2), hl, fun i hi hd' => ?_, ?_⟩
  · obtain ⟨r0, r1, r2, r3, r4, r5, r6⟩ := h5 i hi
    rw [hd i hi hd']; exact ⟨r2, r6⟩
  · have hone : ∀ u ∈ itsCells l ((List.range l.length).map (fun i => C i 2)), u.oneCell' = true := by
      intro u hu
      obtain ⟨p, hp⟩ := List.getElem?_of_mem hu
      obtain ⟨i, j, hi, hd', hj, -, hc⟩ := itsCells_some hl hp
      exact (hcc i j u hi hd' hj hc).2
    by_cases h0 : 0 < l.length
    · obtain ⟨b, off, rfl, hb, hc⟩ := h4 h0
      refine Src.ofSlice w Tryd.underlying43 _ _ _ _ (itsCells_len l _ hl) (fun p u hu => ?_) hone
      obtain ⟨i, j, hi, hd', hj, rfl, hcj⟩ := itsCells_some hl hu
      rw [Addr.add_lit]
      exact (hE.cell (p := ⟨b, _, none⟩) hb).trans ((hc i j hi hj).trans (by rw [(hcc i j u hi hd' hj hcj).1]))
    · have : l = [] := List.eq_nil_of_length_eq_zero (by omega)
      subst this
      cases a with
      | none => exact Src.ofNil w Tryd.underlying43 cap
      | some ad => exact Src.ofSlice w Tryd.underlying43 ad 0 cap [] rfl (fun p u hu => by simp at hu) (fun u hu => by cases hu)
theorem srcI_one {w0 w : World} {x : It} {d : Value} {b : Nat} {e : TypeId} {fr : Nat × Nat} (hb : w.heap[b]? = some (.cells (itCells x d).toArray e fr)) (hd : strE.Row w0 x.after d) (hw : itWf x) : SrcI w0 w (.slice (some ⟨b, 0, none⟩) 1 1) [x] := by
  obtain ⟨a2, c2, e2, _⟩ := hd.slice
  refine ⟨[d], rfl, fun i hi hd' => ?_, ?_⟩
  · have : i = 0 := by simp at hi; omega
    subst this
    exact ⟨hd, hw⟩
  · have e : itsCells [x] [d] = itCells x d := by simp [itsCells]
    rw [e]
    refine Src.ofSlice w Tryd.underlying43 _ _ _ _ rfl (fun p u hu => ?_) (fun u hu => by subst e2; simp [itCells] at hu; rcases hu with rfl | rfl | rfl | rfl | rfl | rfl <;> rfl)
    rw [Addr.add_lit]
    simp only [World.cell?, hb]
    simpa using hu
/-- Items in a row of one's own; their texts lie where they lay. -/
def ShF (w0 w : World) (v : Value) (l : List It) : Prop :=
  ∃ ds : List Value, ds.length = l.length ∧ w.ownsRow w0.heap.size 47 6 v l.length (itsCells l ds) ∧ ∀ i (hi : i < l.length) (hd : i < ds.length), strE.Row w0 l[i].after ds[i] ∧ itWf l[i]
theorem ShF.made {w0 w : World} (h : Ext w0 w) : ShF w0 (w.alloc (.cells #[] 47)) (.slice (some ⟨w.heap.size, 0, none⟩) 0 0) [] :=
  ⟨[], rfl, World.ownsRow_made w #[] 0 h.size (by simp) rfl, fun i hi => by simp at hi⟩
theorem ShF.ext {w0 w w' : World} {v : Value} {l : List It} (h : ShF w0 w v l) (hE : Ext w w') : ShF w0 w' v l := by
  obtain ⟨ds, h1, h2, h3⟩ := h
  exact ⟨ds, h1, hE.own h2, h3⟩
theorem ShF.lt {w0 w : World} {v : Value} {l : List It} (h : ShF w0 w v l) : ∀ b, v.ownBlock = some b → w0.heap.size ≤ b ∧ b < w.heap.size := by
  obtain ⟨ds, h1, h2, h3⟩ := h
  exact h2.lt
theorem ShF.row {w0 w : World} {v : Value} {l : List It} (h : ShF w0 w v l) (hE : Ext w0 w) : itE.Row w l v := by
  obtain ⟨ds, h1, h2, h3⟩ := h
  have hc := fun g => World.ownsRow.cells h2 (g := g)
  rcases h2.2 with ⟨rfl, h0⟩ | ⟨g, cap, cur, rfl, hb, hg, hl, hm, h5, h6⟩
  · have : l = [] := List.eq_nil_of_length_eq_zero h0
    subst this
    exact Elem.Row.void itE w none
  · refine Elem.Row.mk rfl hl hm (Array.getElem?_eq_some_iff.1 hg).1 (fun i hi => ?_)
    have hd : i < ds.length := by omega
    obtain ⟨a1, a2⟩ := h3 i hi hd
    refine ⟨fun j => (itCells l[i] ds[i]).getD j .nilFunc, ⟨rfl, rfl, a1.ext hE, rfl, rfl, rfl, a2⟩, fun j hj => ?_⟩
    have hj6 : j < 6 := hj
    have := hc g rfl (i * 6 + j) ((itCells l[i] ds[i]).getD j .nilFunc) (by
      rw [itsCells_at l ds i j hi hd hj6, List.getD_eq_getElem?_getD, List.getElem?_eq_getElem (by simp [itCells]; omega)]
      rfl)
    rw [Addr.add_lit] at this
    exact this
theorem elem_item6 : ElemOf Tryd.prog 43 47 (.agg #[.string { data := #[] }, .int .u8 0, .slice none 0 0, .string { data := #[] }, .int .i64 0, .int .i64 0]) 6 80 := elem_item
/-- append at an operation that comes up. -/
theorem oper_appF {w0 w : World} {o : Oper} {a : Act} {K : Act → World → Prop} {Q : Exit → Act → World → Prop} (s x : Operand) (hop : o.op = Op.call { callee := Callee.builtin Builtin.append, args := #[s, x], argTypes := #[43, 43] })
    {v : Value} {l : List It} (hs : a.eval s = v) (h : ShF w0 w v l) (hE : Ext w0 w) {X : Value} {m : List It} (hx : a.eval x = X) (hm : SrcI w0 w X m) (hlen : l.length + m.length ≤ 1000)
    (hK : ∀ v' w', ShF w0 w' v' (l ++ m) → Ext w0 w' → w.grownBy w' v.ownBlock → K (a.put o.dst v') w') : Oper.wp Tryd.prog o a w K Q := by
  obtain ⟨ds, h1, h2, h3⟩ := h
  obtain ⟨es, g1, g2, g3⟩ := hm
  have hb : (l.length + m.length) * 80 ≤ 1000 * 80 := Nat.mul_le_mul_right _ hlen
  obtain ⟨v', w', hrun, r1, r2, r3⟩ := run_append_src_at w elem_item6 43 o.type w0.heap.size v l.length (itsCells l ds) h2 X m.length (itsCells m es) g3 (by unfold maxLen; omega) (by omega) hE.size
  unfold Oper.wp
  simp [execOp, hop, resolve, invoke, builtin, hs, hx, hrun, Result.andThen]
  refine hK v' w' ⟨ds ++ es, by simp [h1, g1], by rw [itsCells_append h1, List.length_append]; exact r1, fun i hi hd => ?_⟩ (hE.grown r2 (fun k hk => (h2.lt k hk).1)) r2
  by_cases hil : i < l.length
  · have hid : i < ds.length := by omega
    rw [List.getElem_append_left hil, List.getElem_append_left hid]; exact h3 i hil hid
  · have hi' : i - l.length < m.length := by rw [List.length_append] at hi; omega
    have e1 : (l ++ m)[i] = m[i - l.length] := List.getElem_append_right (by omega)
    have e2 : (ds ++ es)[i] = es[i - l.length]'(by omega) := by rw [List.getElem_append_right (by omega)]; simp [h1]
    rw [e1, e2]; exact g2 _ hi' (by omega)
theorem sizeof_item : ∀ w, (sizeOf (Tryd.prog.elem 43)).run Tryd.prog w = .ok 6 w := fun _ => by kernel_rfl
theorem slice_it_from (a : Option Addr) (len cap k : Nat) (h1 : k ≤ len) (w : World) :
    (Instr.slice 43 (.slice a len cap) (some (.int .i64 (k : Int))) none none).run Tryd.prog w = .ok (.slice (if cap = k then a else a.map (·.add (k * 6))) (len - k) (cap - k)) w := by
  rw [run_slice_l (ht := by kernel_rfl) (h0 := by omega) (h1 := by omega), sizeof_item]
  simp [Result.andThen, sliced]
theorem slice_it_upto (a : Option Addr) (len cap k : Nat) (h1 : k ≤ cap) (w : World) :
    (Instr.slice 43 (.slice a len cap) none (some (.int .i64 (k : Int))) none).run Tryd.prog w = .ok (.slice a k cap) w := by
  rw [run_slice_h (ht := by kernel_rfl) (h0 := by omega) (h2 := by omega), sizeof_item]
  cases a <;> simp [Result.andThen, sliced, Addr.add]
theorem slice_it_one (a : Option Addr) (len cap k : Nat) (h1 : k + 1 ≤ cap) (w : World) :
    (Instr.slice 43 (.slice a len cap) (some (.int .i64 (k : Int))) (some (.int .i64 ((k : Int) + 1))) none).run Tryd.prog w = .ok (.slice (if cap = k then a else a.map (·.add (k * 6))) 1 (cap - k)) w := by
  rw [run_slice_lh (ht := by kernel_rfl) (h0 := by omega) (h1 := by omega) (h2 := by omega), sizeof_item]
  have e : ((k : Int) + 1).toNat = k + 1 := by omega
  simp [Result.andThen, sliced, e]
theorem row_it_one {w : World} {l : List It} {a : Option Addr} {n cap : Nat} (h : itE.Row w l (.slice a n cap)) {k : Nat} (hk : k < l.length) : itE.Row w [l[k]] (.slice (if cap = k then a else a.map (·.add (k * 6))) 1 (cap - k)) := by
  have h1 := (h.drop (k := k) (by omega)).take (k := 1) (by simp; omega)
  have e : (l.drop k).take 1 = [l[k]] := by rw [List.drop_eq_getElem_cons hk]; rfl
  rw [e] at h1
  exact h1
/-- Two operations may come up. -/
theorem ready_two {P : Program} {ops : Array Oper} {Q : Exit → Act → World → Prop} {md : Region.Mode} {S : World → Prop} (i j : Nat) {fuel : Nat} {listed : Array Bool} {a : Act} {w : World}
    (hi : ops[i]? = some (ops.getD i default)) (hj : ops[j]? = some (ops.getD j default)) (hr : Region.ready md ops listed = [i, j]) (hw : Region.wanted (ops.getD i default) (yielded ops a.tmps) = true) (hw' : Region.wanted (ops.getD j default) (yielded ops a.tmps) = true)
    (h : ∀ K' : Act → World → Prop, Shut (∀ a w, S w → (S w → wpAnyH P md ops Q S fuel (listed.setIfInBounds i true) a w) → K' a w) → Oper.wp P (ops.getD i default) a w K' Q)
    (h' : ∀ K' : Act → World → Prop, Shut (∀ a w, S w → (S w → wpAnyH P md ops Q S fuel (listed.setIfInBounds j true) a w) → K' a w) → Oper.wp P (ops.getD j default) a w K' Q) : wpAnyH P md ops Q S (fuel + 1) listed a w :=
  wpAnyH_ready hr (by simp) (AllReadyH.cons hi (fun K hK => by rw [if_pos hw]; exact h K hK) (AllReadyH.cons hj (fun K hK => by rw [if_pos hw']; exact h' K hK) AllReadyH.nil))

/-! ### plain -/
theorem fragB_one (x : It) : fragB [x] = itB x := by unfold fragB; simp
theorem fragB_eq (l : List It) : fragB l = (decide ((l.length : Int) ≤ 40) && l.all itB) := by
  unfold fragB
  rw [Bool.and_comm]
  congr 1
  rw [decide_eq_decide]; omega
theorem fragB_more (l : List It) (x : It) (k : Nat) : fragB (l.take k ++ [x] ++ l.drop k) = ((fragB l && itB x) && decide (((l.length + 1 : Nat) : Int) ≤ 40)) := by
  have e : l.all itB = ((l.take k).all itB && (l.drop k).all itB) := by rw [← List.all_append, List.take_append_drop]
  have hn : (l.take k ++ [x] ++ l.drop k).length = l.length + 1 := by simp; omega
  unfold fragB
  rw [hn, e, List.all_append, List.all_append]
  by_cases h : l.length + 1 ≤ 40
  · have h1 : decide (l.length ≤ 40) = true := decide_eq_true (by omega)
    have h2 : decide (l.length + 1 ≤ 40) = true := decide_eq_true h
    have h3 : decide (((l.length + 1 : Nat) : Int) ≤ 40) = true := decide_eq_true (by omega)
    rw [h1, h2, h3]
    simp only [List.all_cons, List.all_nil, Bool.and_true]
    cases (l.take k).all itB <;> cases (l.drop k).all itB <;> cases itB x <;> rfl
  · have h2 : decide (l.length + 1 ≤ 40) = false := decide_eq_false h
    have h3 : decide (((l.length + 1 : Nat) : Int) ≤ 40) = false := decide_eq_false (by omega)
    rw [h2, h3, Bool.and_false, Bool.and_false]
theorem itB_turned (x : It) : itB ⟨x.name, 0, x.after, [], 0, x.quota⟩ = itB ⟨x.name, 1, x.after, [97], 40, x.quota⟩ := by
  have h : nameB [97] = true := by decide +kernel
  unfold itB
  simp [h]


set_option maxRecDepth 100000 in
set_option maxHeartbeats 8000000 in
theorem fragForms_any (w : World) (l : List It) (v : Value) (hv : itE.Row w l v) (x : It) (u : Value) (hu : ItV w x u) (at' : UInt8) :
    Calls Tryd.prog 12 #[v, u, .int .u8 (at'.toNat : Int)] w fun e w' => e = .returned (.bool true) ∧ Ext w w' := by
  have HV := Lib.hid hv
  obtain ⟨al, cl, rfl, hcl, -⟩ := hv.slice
  obtain ⟨ax, mx, cx, rfl, hxr, hxw⟩ := hu
  have HXr := Lib.hid hxr
  have HXw : Hid (itWf x) := Lib.hid hxw
  have hmx : mx = x.after.length := by obtain ⟨a', c', e', -⟩ := hxr.slice; injection e'
  have hlm := hv.length_le
  have HKK : Hid ((x.kind.toNat : Int) = x.kind.toNat) := Lib.hid rfl
  obtain ⟨K, hK⟩ : ∃ K : Int, K = (x.kind.toNat : Int) := ⟨_, rfl⟩
  rw [← hK]
  have HKx := Lib.hid hK
  have hE0 := (Ext.refl w).alloc (.cells #[.string (str x.name), .int .u8 K, .slice ax mx cx, .string (str x.over), .int .i64 x.width, .int .i64 x.quota] 47)
  have hB0 : BoxL (w.alloc (.cells #[.string (str x.name), .int .u8 K, .slice ax mx cx, .string (str x.over), .int .i64 x.width, .int .i64 x.quota] 47)) w.heap.size [.string (str x.name), .int .u8 K, .slice ax mx cx, .string (str x.over), .int .i64 x.width, .int .i64 x.quota] := BoxL.new w _ _
  clear hv hxr hxw hmx hK HKK
  go_enter Tryd.func12, Tryd.ntmps12
  go_wp2_with fail
  generalize w.alloc (.cells #[.string (str x.name), .int .u8 K, .slice ax mx cx, .string (str x.over), .int .i64 x.width, .int .i64 x.quota] 47) = W0 at *
  refine (few09_any l W0 _ (HV.out.ext hE0)).mono ?_
  rintro e w1 ⟨rfl, hE1⟩
  have HE1 := Lib.hid (hE0.trans hE1)
  have HB1 := Lib.hid (hB0.ext hE1)
  clear hE0 hE1 hB0
  cases hf : fewF l with
  | false =>
    clear hf
    go_wp2_with fail
    refine (awake09 _).mono ?_
    rintro e wz ⟨rfl, hEz⟩
    have HEz := Lib.hid (HE1.out.trans hEz)
    clear hEz
    go_wp2
    go_ret
    exact ⟨rfl, HEz.out⟩
  | true =>
  have hl60 : l.length ≤ 60 := (fewF_iff.1 hf).2
  clear hf
  obtain ⟨p0, p1, p2, p3, p4, p5⟩ := HB1.out.six
  have hb1 := heap_alloc_new w1 (.cells #[.string (str x.name), .int .u8 K, .slice ax mx cx, .string (str x.over), .int .i64 x.width, .int .i64 x.quota] 47)
  have hx1 := (Ext.refl w1).alloc (.cells #[.string (str x.name), .int .u8 K, .slice ax mx cx, .string (str x.over), .int .i64 x.width, .int .i64 x.quota] 47)
  have HR1 : Hid (itE.Row (w1.alloc (.cells #[.string (str x.name), .int .u8 K, .slice ax mx cx, .string (str x.over), .int .i64 x.width, .int .i64 x.quota] 47)) [x] (.slice (some ⟨w1.heap.size, 0, none⟩) 1 1)) := Lib.hid (by
    have h := hb1
    rw [HKx.out] at h
    have := row_one_it (x := x) _ h ((HXr.out.ext HE1.out).ext (by rw [← HKx.out]; exact hx1)) HXw.out
    rw [← HKx.out] at this
    exact this)
  clear hb1
  go_wp2_with fail
  generalize w1.alloc (.cells #[.string (str x.name), .int .u8 K, .slice ax mx cx, .string (str x.over), .int .i64 x.width, .int .i64 x.quota] 47) = W1 at *
  refine (few09_any [x] W1 _ HR1.out).mono ?_
  rintro e w2 ⟨rfl, hE2⟩
  have HE2 := Lib.hid (HE1.out.trans (hx1.trans hE2))
  have HB2 := Lib.hid (HB1.out.ext (hx1.trans hE2))
  clear hx1 hE2 HR1 HB1 HE1 p0 p1 p2 p3 p4 p5
  cases hf : fewF [x] with
  | false =>
    clear hf
    go_wp2_with fail
    refine (awake09 _).mono ?_
    rintro e wz ⟨rfl, hEz⟩
    have HEz := Lib.hid (HE2.out.trans hEz)
    clear hEz
    go_wp2
    go_ret
    exact ⟨rfl, HEz.out⟩
  | true =>
  clear hf
  obtain ⟨L, hL⟩ : ∃ L, L = decide ((l.length : Int) ≤ 40) := ⟨_, rfl⟩
  have HL := Lib.hid hL
  go_wp2_with fail
  rw [← hL]
  clear hL
  go_loopw [7, 29] (fun ev i wr => ∃ k : Nat, k ≤ l.length ∧ i = .int .i64 k ∧ ∃ eb : Bool, ev = .bool eb ∧ Hid (eb = (L && (l.take k).all itB)) ∧ Ext w2 wr) (fun _ i _ => l.length - (intOf i).toNat)
  case atStart => exact ⟨0, by omega, rfl, _, rfl, Lib.hid (by simp), Ext.refl _⟩
  case round =>
  obtain ⟨k, hk, rfl, eb, rfl, HB, hE⟩ := hrel
  by_cases hlk : k < l.length
  · cases eb with
    | false =>
      have HN : Hid (false = (L && (l.take (k + 1)).all itB)) := Lib.hid (by
        rw [List.take_add_one, List.all_append, ← Bool.and_assoc, ← HB.out]; rfl)
      go_wp2
      go_roundw
      case rel => exact ⟨k + 1, by omega, by go_num, false, rfl, HN, hE⟩
      case measure => simp [intOf]; omega
    | true =>
      have hsk := fun w' => slice_it_one al l.length cl k (by omega) w'
      have HRk := Lib.hid (row_it_one (HV.out.ext (HE2.out.trans hE)) hlk)
      have HN : Hid (itB l[k] = (L && (l.take (k + 1)).all itB)) := Lib.hid (by
        rw [List.take_add_one, List.getElem?_eq_getElem hlk, List.all_append, ← Bool.and_assoc, ← HB.out]
        simp)
      generalize l[k] = ik at *
      generalize (if cl = k then al else al.map (·.add (k * 6))) = adk at *
      generalize cl - k = ck at *
      go_wp2_with fail
      refine (fright_any [ik] wr _ HRk.out).mono ?_
      rw [fragB_one]
      rintro e w3 ⟨rfl, hE3⟩
      have hE4 := hE.trans hE3
      clear hE3 hsk HRk
      generalize itB ik = lb at *
      go_wp2
      go_roundw
      case rel => exact ⟨k + 1, by omega, by go_num, lb, rfl, HN, hE4⟩
      case measure => simp [intOf]; omega
  have hks : k = l.length := by omega
  have HEB : Hid (eb = fragB l) := Lib.hid (by rw [HB.out, HL.out, hks, List.take_length, fragB_eq])
  clear hks HB
  have HE3 := Lib.hid (HE2.out.trans hE)
  have HB3 := Lib.hid (HB2.out.ext hE)
  clear hE HE2 HB2
  go_wp2_with fail
  clear hlk
  refine (fright_any l wr _ (HV.out.ext HE3.out)).mono ?_
  rw [← HEB.out]
  rintro e w4 ⟨rfl, hE4⟩
  have HE4 := Lib.hid (HE3.out.trans hE4)
  have HB4 := Lib.hid (HB3.out.ext hE4)
  have HNq : (eb == eb) = true := by simp
  clear hE4 HE3 HB3
  obtain ⟨G, hG⟩ : ∃ G : Nat, G = at'.toNat % (l.length + 1) := ⟨_, rfl⟩
  have hGl : G ≤ l.length := by have := Nat.mod_lt at'.toNat (show 0 < l.length + 1 by omega); omega
  have hat := at'.toNat_lt
  generalize at'.toNat = atn at *
  have hcv : IntKind.i64.wrap (atn : Int) = (atn : Int) := IntWalk.i64_in _ (by omega)
  have hla : IntKind.i64.wrap ((l.length : Int) + 1) = (l.length : Int) + 1 := IntWalk.i64_in _ (by omega)
  have hrm : IntKind.i64.wrap ((atn : Int).tmod ((l.length : Int) + 1)) = (G : Int) := by
    have e : (atn : Int).tmod ((l.length : Int) + 1) = (G : Int) := by
      rw [Int.tmod_eq_emod_of_nonneg (by omega), hG]; simp
    rw [e]; exact IntWalk.i64_in _ (by omega)
  have hgg : (atn : Int) % ((l.length : Int) + 1) = (G : Int) := by rw [hG]; simp
  have hnz : ¬ ((l.length : Int) + 1 = 0) := by omega
  have hcx := HB4.out.six
  have HS : Hid (∀ w', Ext w4 w' → (w'.cell? ⟨w.heap.size, 0, none⟩ = some (.string (str x.name)) ∧ w'.cell? ⟨w.heap.size, 1, none⟩ = some (.int .u8 K) ∧ w'.cell? ⟨w.heap.size, 2, none⟩ = some (.slice ax mx cx) ∧ w'.cell? ⟨w.heap.size, 3, none⟩ = some (.string (str x.over)) ∧ w'.cell? ⟨w.heap.size, 4, none⟩ = some (.int .i64 x.width) ∧ w'.cell? ⟨w.heap.size, 5, none⟩ = some (.int .i64 x.quota))) := Lib.hid (fun w' h => (HB4.out.ext h).six)
  clear hG hcx
  cases eb with
  | false =>
    go_upto_region 12 with (fail)
    rw [hgg]
    have hup := fun w' => slice_it_upto al l.length cl G (by omega) w'
    have hfr := fun w' => slice_it_from al l.length cl G hGl w'
    have HDk := Lib.hid ((HV.out.ext HE4.out).drop (k := G) hGl)
    rw [show itE.sz = 6 from rfl] at HDk
    generalize (if cl = G then al else al.map (·.add (G * 6))) = ad at *
    generalize l.length - G = nd at *
    generalize cl - G = cd at *
    go_cut [10] from 52 to 63 (fun p w' => ∃ vm : Value, p = vm ∧ Hid (ShF w4 w' vm (l.take G ++ [x] ++ l.drop G) ∧ Ext w4 w'))
    case first =>
      have HXr := Lib.hid (HXr.out.ext HE4.out)
      have HTk := Lib.hid ((HV.out.ext HE4.out).take (k := G) hGl)
      have HC : Hid (Ext w4 w4.drew) := Lib.hid (Ext.refl w4).drew
      clear hcv hla hrm hnz
      refine wp_region_held_drew (S := fun w' => w'.cell? ⟨w.heap.size, 0, none⟩ = some (.string (str x.name)) ∧ w'.cell? ⟨w.heap.size, 1, none⟩ = some (.int .u8 K) ∧ w'.cell? ⟨w.heap.size, 2, none⟩ = some (.slice ax mx cx) ∧ w'.cell? ⟨w.heap.size, 3, none⟩ = some (.string (str x.over)) ∧ w'.cell? ⟨w.heap.size, 4, none⟩ = some (.int .i64 x.width) ∧ w'.cell? ⟨w.heap.size, 5, none⟩ = some (.int .i64 x.quota)) (by kernel_rfl) ?_ (fun hHeld => ?_)
      · (try dsimp only)
        exact HS.out _ HC.out
      generalize w4.drew = cw at *
      refine take_w 1 (some 53) (v := ?_) (by kernel_rfl) (by kernel_rfl) (by kernel_rfl) (by kernel_rfl) (by kernel_rfl) (fun _ _ _ h => h) (by rfl) ?_ (by assumption) ?_
      rotate_left
      · (intro w hSw; (try dsimp only at hSw); go_simp; try with_reducible rfl)
      try simp only [Act.put, List.setIfInBounds_toArray, List.set_cons_zero, List.set_cons_succ]
      refine take_w 2 (some 54) (v := ?_) (by kernel_rfl) (by kernel_rfl) (by kernel_rfl) (by kernel_rfl) (by kernel_rfl) (fun _ _ _ h => h) (by rfl) ?_ (by assumption) ?_
      rotate_left
      · (intro w hSw; (try dsimp only at hSw); go_simp; try with_reducible rfl)
      try simp only [Act.put, List.setIfInBounds_toArray, List.set_cons_zero, List.set_cons_succ]
      refine take_w 3 (some 55) (v := ?_) (by kernel_rfl) (by kernel_rfl) (by kernel_rfl) (by kernel_rfl) (by kernel_rfl) (fun _ _ _ h => h) (by rfl) ?_ (by assumption) ?_
      rotate_left
      · (intro w hSw; (try dsimp only at hSw); go_simp; try with_reducible rfl)
      try simp only [Act.put, List.setIfInBounds_toArray, List.set_cons_zero, List.set_cons_succ]
      refine take_w 5 (some 57) (v := ?_) (by kernel_rfl) (by kernel_rfl) (by kernel_rfl) (by kernel_rfl) (by kernel_rfl) (fun _ _ _ h => h) (by rfl) ?_ (by assumption) ?_
      rotate_left
      · (intro w hSw; (try dsimp only at hSw); go_simp; try with_reducible rfl)
      try simp only [Act.put, List.setIfInBounds_toArray, List.set_cons_zero, List.set_cons_succ]
      refine take_w 8 (some 60) (v := ?_) (by kernel_rfl) (by kernel_rfl) (by kernel_rfl) (by kernel_rfl) (by kernel_rfl) (fun _ _ _ h => h) (by rfl) ?_ (by assumption) ?_
      rotate_left
      · (intro w hSw; (try dsimp only at hSw); go_simp; try with_reducible rfl)
      try simp only [Act.put, List.setIfInBounds_toArray, List.set_cons_zero, List.set_cons_succ]
      refine take_w 9 (some 61) (v := ?_) (by kernel_rfl) (by kernel_rfl) (by kernel_rfl) (by kernel_rfl) (by kernel_rfl) (fun _ _ _ h => h) (by rfl) ?_ (by assumption) ?_
      rotate_left
      · (intro w hSw; (try dsimp only at hSw); go_simp; try with_reducible rfl)
      try simp only [Act.put, List.setIfInBounds_toArray, List.set_cons_zero, List.set_cons_succ]
      refine take_w 10 (some 62) (v := ?_) (by kernel_rfl) (by kernel_rfl) (by kernel_rfl) (by kernel_rfl) (by kernel_rfl) (fun _ _ _ h => h) (by rfl) ?_ (by assumption) ?_
      rotate_left
      · (intro w hSw; (try dsimp only at hSw); go_simp; try with_reducible rfl)
      try simp only [Act.put, List.setIfInBounds_toArray, List.set_cons_zero, List.set_cons_succ]
      refine ready_two 0 6 (by kernel_rfl) (by kernel_rfl) (by kernel_rfl) (by rfl) (by rfl) (fun Kc hKc => ?_) (fun Kc hKc => ?_)
      · skip
        go_simp
        have e0 := (Ext.refl cw).alloc (.cells #[] 47)
        have HSh := Lib.hid (ShF.made HC.out)
        have hz0 : cw.heap.size < (cw.alloc (.cells #[] 47)).heap.size := by simp
        have HC := Lib.hid (HC.out.trans e0)
        obtain ⟨v52, hv52⟩ : ∃ v52, v52 = Value.slice (some ⟨cw.heap.size, 0, none⟩) 0 0 := ⟨_, rfl⟩
        rw [← hv52] at HSh ⊢
        generalize cw.alloc (.cells #[] 47) = cw at *
        clear e0 hz0 hv52
        refine hKc.out _ _ ?_ (fun hHeld => ?_)
        · (try dsimp only)
          exact HS.out _ HC.out
        clear hKc Kc
        try simp only [Act.put, List.setIfInBounds_toArray, List.set_cons_zero, List.set_cons_succ]
        refine ready_two 4 6 (by kernel_rfl) (by kernel_rfl) (by kernel_rfl) (by rfl) (by rfl) (fun Kc hKc => ?_) (fun Kc hKc => ?_)
        · skip
          refine oper_appF (v := v52) _ _ rfl rfl HSh.out HC.out rfl (srcI_row HTk.out HC.out) (by simp only [List.length_nil, List.length_take]; omega) (fun v56 cz h1 h2 h3 => ?_)
          have HSh := Lib.hid h1
          have HC := Lib.hid h2
          clear h1 h2 h3
          rw [List.nil_append] at HSh
          obtain ⟨cw, rfl⟩ : ∃ cw : World, cw = cz := ⟨_, rfl⟩
          go_simp
          refine hKc.out _ _ ?_ (fun hHeld => ?_)
          · (try dsimp only)
            exact HS.out _ HC.out
          clear hKc Kc
          try simp only [Act.put, List.setIfInBounds_toArray, List.set_cons_zero, List.set_cons_succ]
          refine ready_one 6 (by kernel_rfl) (by kernel_rfl) (by rfl) (fun Kc hKc => ?_)
          go_simp
          have e0 := (Ext.refl cw).alloc (.cells #[.string (str x.name), .int .u8 K, .slice ax mx cx, .string (str x.over), .int .i64 x.width, .int .i64 x.quota] 47)
          have HNb : Hid ((cw.alloc (.cells #[.string (str x.name), .int .u8 K, .slice ax mx cx, .string (str x.over), .int .i64 x.width, .int .i64 x.quota] 47)).heap[cw.heap.size]? = some (.cells #[.string (str x.name), .int .u8 K, .slice ax mx cx, .string (str x.over), .int .i64 x.width, .int .i64 x.quota] 47)) := Lib.hid (heap_alloc_new cw (.cells #[.string (str x.name), .int .u8 K, .slice ax mx cx, .string (str x.over), .int .i64 x.width, .int .i64 x.quota] 47))
          have hz0 : (cw.alloc (.cells #[.string (str x.name), .int .u8 K, .slice ax mx cx, .string (str x.over), .int .i64 x.width, .int .i64 x.quota] 47)).heap.size = cw.heap.size + 1 := by simp
          have HSh := Lib.hid (HSh.out.ext e0)
          have HC := Lib.hid (HC.out.trans e0)
          have hBlt : cw.heap.size < (cw.alloc (.cells #[.string (str x.name), .int .u8 K, .slice ax mx cx, .string (str x.over), .int .i64 x.width, .int .i64 x.quota] 47)).heap.size := by omega
          generalize cw.alloc (.cells #[.string (str x.name), .int .u8 K, .slice ax mx cx, .string (str x.over), .int .i64 x.width, .int .i64 x.quota] 47) = cw2 at *
          generalize cw.heap.size = B at *
          clear e0 hz0
          obtain ⟨cw, rfl⟩ : ∃ cw : World, cw = cw2 := ⟨_, rfl⟩
          refine hKc.out _ _ ?_ (fun hHeld => ?_)
          · (try dsimp only)
            exact HS.out _ HC.out
          clear hKc Kc
          try simp only [Act.put, List.setIfInBounds_toArray, List.set_cons_zero, List.set_cons_succ]
          refine ready_one 7 (by kernel_rfl) (by kernel_rfl) (by rfl) (fun Kc hKc => ?_)
          refine oper_appF (v := v56) _ _ rfl rfl HSh.out HC.out rfl (srcI_one (by have h := HNb.out; rw [HKx.out] at h; exact h) HXr.out HXw.out) (by simp only [List.length_singleton, List.length_take]; omega) (fun v59 cz h1 h2 h3 => ?_)
          have HSh := Lib.hid h1
          have HC := Lib.hid h2
          clear h1 h2 h3 HNb
          obtain ⟨cw, rfl⟩ : ∃ cw : World, cw = cz := ⟨_, rfl⟩
          go_simp
          refine hKc.out _ _ ?_ (fun hHeld => ?_)
          · (try dsimp only)
            exact HS.out _ HC.out
          clear hKc Kc
          try simp only [Act.put, List.setIfInBounds_toArray, List.set_cons_zero, List.set_cons_succ]
          refine ready_one 11 (by kernel_rfl) (by kernel_rfl) (by rfl) (fun Kc hKc => ?_)
          refine oper_appF (v := v59) _ _ rfl rfl HSh.out HC.out rfl (srcI_row HDk.out HC.out) (by simp only [List.length_append, List.length_singleton, List.length_take, List.length_drop]; omega) (fun v63 cz h1 h2 h3 => ?_)
          have HSh := Lib.hid h1
          have HC := Lib.hid h2
          clear h1 h2 h3
          obtain ⟨cw, rfl⟩ : ∃ cw : World, cw = cz := ⟨_, rfl⟩
          go_simp
          refine hKc.out _ _ ?_ (fun hHeld => ?_)
          · (try dsimp only)
            exact HS.out _ HC.out
          clear hKc Kc
          try simp only [Act.put, List.setIfInBounds_toArray, List.set_cons_zero, List.set_cons_succ]
          refine take_w 12 (some 10) (v := ?_) (by kernel_rfl) (by kernel_rfl) (by kernel_rfl) (by kernel_rfl) (by kernel_rfl) (fun _ _ _ h => h) (by rfl) ?_ (by assumption) ?_
          rotate_left
          · (intro w hSw; (try dsimp only at hSw); go_simp; try with_reducible rfl)
          try simp only [Act.put, List.setIfInBounds_toArray, List.set_cons_zero, List.set_cons_succ]
          refine wpAnyH_done (by kernel_rfl) ?_ _
          go_wp2_with fail
          go_meet
          case rel => exact ⟨_, rfl, Lib.hid ⟨HSh.out, HC.out⟩⟩
        · skip
          go_simp
          have e0 := (Ext.refl cw).alloc (.cells #[.string (str x.name), .int .u8 K, .slice ax mx cx, .string (str x.over), .int .i64 x.width, .int .i64 x.quota] 47)
          have HNb : Hid ((cw.alloc (.cells #[.string (str x.name), .int .u8 K, .slice ax mx cx, .string (str x.over), .int .i64 x.width, .int .i64 x.quota] 47)).heap[cw.heap.size]? = some (.cells #[.string (str x.name), .int .u8 K, .slice ax mx cx, .string (str x.over), .int .i64 x.width, .int .i64 x.quota] 47)) := Lib.hid (heap_alloc_new cw (.cells #[.string (str x.name), .int .u8 K, .slice ax mx cx, .string (str x.over), .int .i64 x.width, .int .i64 x.quota] 47))
          have hz0 : (cw.alloc (.cells #[.string (str x.name), .int .u8 K, .slice ax mx cx, .string (str x.over), .int .i64 x.width, .int .i64 x.quota] 47)).heap.size = cw.heap.size + 1 := by simp
          have HNE : Hid (∀ b, v52.ownBlock = some b → b ≠ cw.heap.size) := Lib.hid (fun b hb => by have := (HSh.out.lt b hb).2; omega)
          have HSh := Lib.hid (HSh.out.ext e0)
          have HC := Lib.hid (HC.out.trans e0)
          have hBlt : cw.heap.size < (cw.alloc (.cells #[.string (str x.name), .int .u8 K, .slice ax mx cx, .string (str x.over), .int .i64 x.width, .int .i64 x.quota] 47)).heap.size := by omega
          generalize cw.alloc (.cells #[.string (str x.name), .int .u8 K, .slice ax mx cx, .string (str x.over), .int .i64 x.width, .int .i64 x.quota] 47) = cw2 at *
          generalize cw.heap.size = B at *
          clear e0 hz0
          obtain ⟨cw, rfl⟩ : ∃ cw : World, cw = cw2 := ⟨_, rfl⟩
          refine hKc.out _ _ ?_ (fun hHeld => ?_)
          · (try dsimp only)
            exact HS.out _ HC.out
          clear hKc Kc
          try simp only [Act.put, List.setIfInBounds_toArray, List.set_cons_zero, List.set_cons_succ]
          refine ready_one 4 (by kernel_rfl) (by kernel_rfl) (by rfl) (fun Kc hKc => ?_)
          refine oper_appF (v := v52) _ _ rfl rfl HSh.out HC.out rfl (srcI_row HTk.out HC.out) (by simp only [List.length_nil, List.length_take]; omega) (fun v56 cz h1 h2 h3 => ?_)
          have HNb := Lib.hid ((h3.block B hBlt (fun e => HNE.out B e.symm rfl)).trans HNb.out)
          have hBlt : B < cz.heap.size := by have := h3.size; omega
          clear HNE
          have HSh := Lib.hid h1
          have HC := Lib.hid h2
          clear h1 h2 h3
          rw [List.nil_append] at HSh
          obtain ⟨cw, rfl⟩ : ∃ cw : World, cw = cz := ⟨_, rfl⟩
          go_simp
          refine hKc.out _ _ ?_ (fun hHeld => ?_)
          · (try dsimp only)
            exact HS.out _ HC.out
          clear hKc Kc
          try simp only [Act.put, List.setIfInBounds_toArray, List.set_cons_zero, List.set_cons_succ]
          refine ready_one 7 (by kernel_rfl) (by kernel_rfl) (by rfl) (fun Kc hKc => ?_)
          refine oper_appF (v := v56) _ _ rfl rfl HSh.out HC.out rfl (srcI_one (by have h := HNb.out; rw [HKx.out] at h; exact h) HXr.out HXw.out) (by simp only [List.length_singleton, List.length_take]; omega) (fun v59 cz h1 h2 h3 => ?_)
          have HSh := Lib.hid h1
          have HC := Lib.hid h2
          clear h1 h2 h3 HNb
          obtain ⟨cw, rfl⟩ : ∃ cw : World, cw = cz := ⟨_, rfl⟩
          go_simp
          refine hKc.out _ _ ?_ (fun hHeld => ?_)
          · (try dsimp only)
            exact HS.out _ HC.out
          clear hKc Kc
          try simp only [Act.put, List.setIfInBounds_toArray, List.set_cons_zero, List.set_cons_succ]
          refine ready_one 11 (by kernel_rfl) (by kernel_rfl) (by rfl) (fun Kc hKc => ?_)
          refine oper_appF (v := v59) _ _ rfl rfl HSh.out HC.out rfl (srcI_row HDk.out HC.out) (by simp only [List.length_append, List.length_singleton, List.length_take, List.length_drop]; omega) (fun v63 cz h1 h2 h3 => ?_)
          have HSh := Lib.hid h1
          have HC := Lib.hid h2
          clear h1 h2 h3
          obtain ⟨cw, rfl⟩ : ∃ cw : World, cw = cz := ⟨_, rfl⟩
          go_simp
          refine hKc.out _ _ ?_ (fun hHeld => ?_)
          · (try dsimp only)
            exact HS.out _ HC.out
          clear hKc Kc
          try simp only [Act.put, List.setIfInBounds_toArray, List.set_cons_zero, List.set_cons_succ]
          refine take_w 12 (some 10) (v := ?_) (by kernel_rfl) (by kernel_rfl) (by kernel_rfl) (by kernel_rfl) (by kernel_rfl) (fun _ _ _ h => h) (by rfl) ?_ (by assumption) ?_
          rotate_left
          · (intro w hSw; (try dsimp only at hSw); go_simp; try with_reducible rfl)
          try simp only [Act.put, List.setIfInBounds_toArray, List.set_cons_zero, List.set_cons_succ]
          refine wpAnyH_done (by kernel_rfl) ?_ _
          go_wp2_with fail
          go_meet
          case rel => exact ⟨_, rfl, Lib.hid ⟨HSh.out, HC.out⟩⟩
      · skip
        go_simp
        have e0 := (Ext.refl cw).alloc (.cells #[.string (str x.name), .int .u8 K, .slice ax mx cx, .string (str x.over), .int .i64 x.width, .int .i64 x.quota] 47)
        have HNb : Hid ((cw.alloc (.cells #[.string (str x.name), .int .u8 K, .slice ax mx cx, .string (str x.over), .int .i64 x.width, .int .i64 x.quota] 47)).heap[cw.heap.size]? = some (.cells #[.string (str x.name), .int .u8 K, .slice ax mx cx, .string (str x.over), .int .i64 x.width, .int .i64 x.quota] 47)) := Lib.hid (heap_alloc_new cw (.cells #[.string (str x.name), .int .u8 K, .slice ax mx cx, .string (str x.over), .int .i64 x.width, .int .i64 x.quota] 47))
        have hz0 : (cw.alloc (.cells #[.string (str x.name), .int .u8 K, .slice ax mx cx, .string (str x.over), .int .i64 x.width, .int .i64 x.quota] 47)).heap.size = cw.heap.size + 1 := by simp
        have HC := Lib.hid (HC.out.trans e0)
        have hBlt : cw.heap.size < (cw.alloc (.cells #[.string (str x.name), .int .u8 K, .slice ax mx cx, .string (str x.over), .int .i64 x.width, .int .i64 x.quota] 47)).heap.size := by omega
        generalize cw.alloc (.cells #[.string (str x.name), .int .u8 K, .slice ax mx cx, .string (str x.over), .int .i64 x.width, .int .i64 x.quota] 47) = cw2 at *
        generalize cw.heap.size = B at *
        clear e0 hz0
        obtain ⟨cw, rfl⟩ : ∃ cw : World, cw = cw2 := ⟨_, rfl⟩
        refine hKc.out _ _ ?_ (fun hHeld => ?_)
        · (try dsimp only)
          exact HS.out _ HC.out
        clear hKc Kc
        try simp only [Act.put, List.setIfInBounds_toArray, List.set_cons_zero, List.set_cons_succ]
        refine ready_one 0 (by kernel_rfl) (by kernel_rfl) (by rfl) (fun Kc hKc => ?_)
        go_simp
        have e0 := (Ext.refl cw).alloc (.cells #[] 47)
        have HSh := Lib.hid (ShF.made HC.out)
        have hz0 : cw.heap.size < (cw.alloc (.cells #[] 47)).heap.size := by simp
        have HNb := Lib.hid ((e0.block _ hBlt).trans HNb.out)
        have HNE : Hid (∀ b, (Value.slice (some ⟨cw.heap.size, 0, none⟩) 0 0).ownBlock = some b → b ≠ B) := Lib.hid (fun b hb => by have hb := Option.some.inj (show some cw.heap.size = some b from hb); omega)
        have hBlt : B < (cw.alloc (.cells #[] 47)).heap.size := by omega
        have HC := Lib.hid (HC.out.trans e0)
        obtain ⟨v52, hv52⟩ : ∃ v52, v52 = Value.slice (some ⟨cw.heap.size, 0, none⟩) 0 0 := ⟨_, rfl⟩
        rw [← hv52] at HSh ⊢
        rw [← hv52] at HNE
        generalize cw.alloc (.cells #[] 47) = cw at *
        clear e0 hz0 hv52
        refine hKc.out _ _ ?_ (fun hHeld => ?_)
        · (try dsimp only)
          exact HS.out _ HC.out
        clear hKc Kc
        try simp only [Act.put, List.setIfInBounds_toArray, List.set_cons_zero, List.set_cons_succ]
        refine ready_one 4 (by kernel_rfl) (by kernel_rfl) (by rfl) (fun Kc hKc => ?_)
        refine oper_appF (v := v52) _ _ rfl rfl HSh.out HC.out rfl (srcI_row HTk.out HC.out) (by simp only [List.length_nil, List.length_take]; omega) (fun v56 cz h1 h2 h3 => ?_)
        have HNb := Lib.hid ((h3.block B hBlt (fun e => HNE.out B e.symm rfl)).trans HNb.out)
        have hBlt : B < cz.heap.size := by have := h3.size; omega
        clear HNE
        have HSh := Lib.hid h1
        have HC := Lib.hid h2
        clear h1 h2 h3
        rw [List.nil_append] at HSh
        obtain ⟨cw, rfl⟩ : ∃ cw : World, cw = cz := ⟨_, rfl⟩
        go_simp
        refine hKc.out _ _ ?_ (fun hHeld => ?_)
        · (try dsimp only)
          exact HS.out _ HC.out
        clear hKc Kc
        try simp only [Act.put, List.setIfInBounds_toArray, List.set_cons_zero, List.set_cons_succ]
        refine ready_one 7 (by kernel_rfl) (by kernel_rfl) (by rfl) (fun Kc hKc => ?_)
        refine oper_appF (v := v56) _ _ rfl rfl HSh.out HC.out rfl (srcI_one (by have h := HNb.out; rw [HKx.out] at h; exact h) HXr.out HXw.out) (by simp only [List.length_singleton, List.length_take]; omega) (fun v59 cz h1 h2 h3 => ?_)
        have HSh := Lib.hid h1
        have HC := Lib.hid h2
        clear h1 h2 h3 HNb
        obtain ⟨cw, rfl⟩ : ∃ cw : World, cw = cz := ⟨_, rfl⟩
        go_simp
        refine hKc.out _ _ ?_ (fun hHeld => ?_)
        · (try dsimp only)
          exact HS.out _ HC.out
        clear hKc Kc
        try simp only [Act.put, List.setIfInBounds_toArray, List.set_cons_zero, List.set_cons_succ]
        refine ready_one 11 (by kernel_rfl) (by kernel_rfl) (by rfl) (fun Kc hKc => ?_)
        refine oper_appF (v := v59) _ _ rfl rfl HSh.out HC.out rfl (srcI_row HDk.out HC.out) (by simp only [List.length_append, List.length_singleton, List.length_take, List.length_drop]; omega) (fun v63 cz h1 h2 h3 => ?_)
        have HSh := Lib.hid h1
        have HC := Lib.hid h2
        clear h1 h2 h3
        obtain ⟨cw, rfl⟩ : ∃ cw : World, cw = cz := ⟨_, rfl⟩
        go_simp
        refine hKc.out _ _ ?_ (fun hHeld => ?_)
        · (try dsimp only)
          exact HS.out _ HC.out
        clear hKc Kc
        try simp only [Act.put, List.setIfInBounds_toArray, List.set_cons_zero, List.set_cons_succ]
        refine take_w 12 (some 10) (v := ?_) (by kernel_rfl) (by kernel_rfl) (by kernel_rfl) (by kernel_rfl) (by kernel_rfl) (fun _ _ _ h => h) (by rfl) ?_ (by assumption) ?_
        rotate_left
        · (intro w hSw; (try dsimp only at hSw); go_simp; try with_reducible rfl)
        try simp only [Act.put, List.setIfInBounds_toArray, List.set_cons_zero, List.set_cons_succ]
        refine wpAnyH_done (by kernel_rfl) ?_ _
        go_wp2_with fail
        go_meet
        case rel => exact ⟨_, rfl, Lib.hid ⟨HSh.out, HC.out⟩⟩
    case rest =>
    clear hup hfr HS hcv hla hrm hnz
    obtain ⟨vm, rfl, HCut⟩ := hcut
    obtain ⟨w5, rfl⟩ : ∃ w5 : World, w5 = wc := ⟨_, rfl⟩
    have HMw := Lib.hid (HCut.out.1.row HCut.out.2)
    obtain ⟨am, cm, rfl, hcm, -⟩ := HMw.out.slice
    have hml : (l.take G ++ [x] ++ l.drop G).length = l.length + 1 := by simp; omega
    rw [hml] at HMw hcm ⊢
    have HMq0 : Hid (fragB (l.take G ++ [x] ++ l.drop G) = ((false && itB x) && decide (((l.length + 1 : Nat) : Int) ≤ 40))) := Lib.hid (by rw [fragB_more, ← HEB.out])
    have HE5 := Lib.hid (HE4.out.trans HCut.out.2)
    have HB5 := Lib.hid (HB4.out.ext HCut.out.2)
    obtain ⟨M, hM⟩ : ∃ M, M = (l.take G ++ [x] ++ l.drop G) := ⟨_, rfl⟩
    rw [← hM] at HMw HMq0
    clear hml hM HCut HE4 HB4
    obtain ⟨p0, p1, p2, p3, p4, p5⟩ := HB5.out.six
    go_upto_region 13 with (fail)
    go_cut [11] from 64 to 74 (fun p w' => p = .bool (fragB M) ∧ Hid (Ext w5 w'))
    case first =>
      go_wp2_with fail
      go_meet
      case rel => exact ⟨by rw [HMq0.out]; rfl, Lib.hid (Ext.refl _)⟩
    case rest =>
    obtain ⟨rfl, HC6⟩ := hcut
    clear p0 p1 p2 p3 p4 p5
    have HE6 := Lib.hid (HE5.out.trans HC6.out)
    have HB6 := HB5.out.ext HC6.out
    have HMw6 := HMw.out.ext HC6.out
    obtain ⟨p0, p1, p2, p3, p4, p5⟩ := HB6.six
    have hbl := HB6.lt
    generalize hq : fragB M = qm at *
    have HMq := Lib.hid hq
    have hB1 : BoxL ((wc.alloc (.cells #[.string (str x.name), .int .u8 0, .slice ax mx cx, .string { data := #[] }, .int .i64 0, .int .i64 x.quota] 47)).alloc (.cells #[.string (str x.name), .int .u8 1, .slice ax mx cx, .string { data := #[97] }, .int .i64 40, .int .i64 x.quota] 47)) wc.heap.size [.string (str x.name), .int .u8 0, .slice ax mx cx, .string { data := #[] }, .int .i64 0, .int .i64 x.quota] := (BoxL.new wc _ _).ext ((Ext.refl _).alloc _)
    have hB2 : BoxL ((wc.alloc (.cells #[.string (str x.name), .int .u8 0, .slice ax mx cx, .string { data := #[] }, .int .i64 0, .int .i64 x.quota] 47)).alloc (.cells #[.string (str x.name), .int .u8 1, .slice ax mx cx, .string { data := #[97] }, .int .i64 40, .int .i64 x.quota] 47)) (wc.heap.size + 1) [.string (str x.name), .int .u8 1, .slice ax mx cx, .string { data := #[97] }, .int .i64 40, .int .i64 x.quota] := by
      have := BoxL.new (wc.alloc (.cells #[.string (str x.name), .int .u8 0, .slice ax mx cx, .string { data := #[] }, .int .i64 0, .int .i64 x.quota] 47)) [.string (str x.name), .int .u8 1, .slice ax mx cx, .string { data := #[97] }, .int .i64 40, .int .i64 x.quota] 47
      rwa [show (wc.alloc (.cells #[.string (str x.name), .int .u8 0, .slice ax mx cx, .string { data := #[] }, .int .i64 0, .int .i64 x.quota] 47)).heap.size = wc.heap.size + 1 by simp] at this
    have hx7 : Ext wc ((wc.alloc (.cells #[.string (str x.name), .int .u8 0, .slice ax mx cx, .string { data := #[] }, .int .i64 0, .int .i64 x.quota] 47)).alloc (.cells #[.string (str x.name), .int .u8 1, .slice ax mx cx, .string { data := #[97] }, .int .i64 40, .int .i64 x.quota] 47)) := ((Ext.refl _).alloc _).alloc _
    clear hq HB6 HC6 HB5 HMw HMq0
    go_upto_region 16 with (fail)
    clear p0 p1 p2 p3 p4 p5
    generalize (wc.alloc (.cells #[.string (str x.name), .int .u8 0, .slice ax mx cx, .string { data := #[] }, .int .i64 0, .int .i64 x.quota] 47)).alloc (.cells #[.string (str x.name), .int .u8 1, .slice ax mx cx, .string { data := #[97] }, .int .i64 40, .int .i64 x.quota] 47) = w7 at *
    generalize wc.heap.size + 1 = B2 at *
    generalize wc.heap.size = B1 at *
    have HS : Hid (∀ w', Ext w7 w' → (w'.cell? ⟨B1, 0, none⟩ = some (.string (str x.name)) ∧ w'.cell? ⟨B1, 1, none⟩ = some (.int .u8 0) ∧ w'.cell? ⟨B1, 2, none⟩ = some (.slice ax mx cx) ∧ w'.cell? ⟨B1, 3, none⟩ = some (.string { data := #[] }) ∧ w'.cell? ⟨B1, 4, none⟩ = some (.int .i64 0) ∧ w'.cell? ⟨B1, 5, none⟩ = some (.int .i64 x.quota) ∧ w'.cell? ⟨B2, 0, none⟩ = some (.string (str x.name)) ∧ w'.cell? ⟨B2, 1, none⟩ = some (.int .u8 1) ∧ w'.cell? ⟨B2, 2, none⟩ = some (.slice ax mx cx) ∧ w'.cell? ⟨B2, 3, none⟩ = some (.string { data := #[97] }) ∧ w'.cell? ⟨B2, 4, none⟩ = some (.int .i64 40) ∧ w'.cell? ⟨B2, 5, none⟩ = some (.int .i64 x.quota))) := Lib.hid (fun w' h => by
      obtain ⟨a0, a1, a2, a3, a4, a5⟩ := (hB1.ext h).six
      obtain ⟨b0, b1, b2, b3, b4, b5⟩ := (hB2.ext h).six
      exact ⟨a0, a1, a2, a3, a4, a5, b0, b1, b2, b3, b4, b5⟩)
    have HC : Hid (Ext w7 w7.drew) := Lib.hid (Ext.refl w7).drew
    have HMr := Lib.hid ((HMw6.ext hx7).ext HC.out)
    have HEt := Lib.hid (HE6.out.trans hx7)
    have HXa := Lib.hid (HXr.out.ext HEt.out)
    obtain ⟨hw1, hw2, hw3, hw4⟩ := HXw.out
    have HTw : Hid (itWf ⟨x.name, 0, x.after, [], 0, x.quota⟩) := Lib.hid ⟨hw1, by simp, by unfold isI64; simp, hw4⟩
    have HUw : Hid (itWf ⟨x.name, 1, x.after, [97], 40, x.quota⟩) := Lib.hid ⟨hw1, by simp, by unfold isI64; simp, hw4⟩
    have hTq := fragB_one ⟨x.name, 0, x.after, [], 0, x.quota⟩
    have hUq := fragB_one ⟨x.name, 1, x.after, [97], 40, x.quota⟩
    rw [← itB_turned x] at hUq
    generalize itB ⟨x.name, 0, x.after, [], 0, x.quota⟩ = qt at *
    have HTq := Lib.hid hTq
    have HUq := Lib.hid hUq
    clear hw1 hw2 hw3 hw4 hTq hUq hB1 hB2 hx7 HMw6 HE6 HE5
    refine wp_region_held_drew (S := fun w' => w'.cell? ⟨B1, 0, none⟩ = some (.string (str x.name)) ∧ w'.cell? ⟨B1, 1, none⟩ = some (.int .u8 0) ∧ w'.cell? ⟨B1, 2, none⟩ = some (.slice ax mx cx) ∧ w'.cell? ⟨B1, 3, none⟩ = some (.string { data := #[] }) ∧ w'.cell? ⟨B1, 4, none⟩ = some (.int .i64 0) ∧ w'.cell? ⟨B1, 5, none⟩ = some (.int .i64 x.quota) ∧ w'.cell? ⟨B2, 0, none⟩ = some (.string (str x.name)) ∧ w'.cell? ⟨B2, 1, none⟩ = some (.int .u8 1) ∧ w'.cell? ⟨B2, 2, none⟩ = some (.slice ax mx cx) ∧ w'.cell? ⟨B2, 3, none⟩ = some (.string { data := #[97] }) ∧ w'.cell? ⟨B2, 4, none⟩ = some (.int .i64 40) ∧ w'.cell? ⟨B2, 5, none⟩ = some (.int .i64 x.quota)) (by kernel_rfl) ?_ (fun hHeld => ?_)
    · (try dsimp only)
      exact HS.out _ HC.out
    generalize w7.drew = cw at *
    refine take_w 0 (some 89) (v := ?_) (by kernel_rfl) (by kernel_rfl) (by kernel_rfl) (by kernel_rfl) (by kernel_rfl) (fun _ _ _ h => h) (by rfl) ?_ (by assumption) ?_
    rotate_left
    · (intro w hSw; (try dsimp only at hSw); go_simp; try with_reducible rfl)
    try simp only [Act.put, List.setIfInBounds_toArray, List.set_cons_zero, List.set_cons_succ]
    refine take_w 2 (some 91) (v := ?_) (by kernel_rfl) (by kernel_rfl) (by kernel_rfl) (by kernel_rfl) (by kernel_rfl) (fun _ _ _ h => h) (by rfl) ?_ (by assumption) ?_
    rotate_left
    · (intro w hSw; (try dsimp only at hSw); go_simp; try with_reducible rfl)
    try simp only [Act.put, List.setIfInBounds_toArray, List.set_cons_zero, List.set_cons_succ]
    refine ready_one 1 (by kernel_rfl) (by kernel_rfl) (by rfl) (fun Kc hKc => ?_)
    go_simp
    refine (fright_any _ cw _ HMr.out).mono ?_
    rw [HMq.out]
    rintro e cz ⟨rfl, hE⟩
    have HC := Lib.hid (HC.out.trans hE)
    clear hE
    obtain ⟨cw, rfl⟩ : ∃ cw : World, cw = cz := ⟨_, rfl⟩
    try go_wp2_with fail
    refine hKc.out _ _ ?_ (fun hHeld => ?_)
    · (try dsimp only)
      exact HS.out _ HC.out
    clear hKc Kc
    try simp only [Act.put, List.setIfInBounds_toArray, List.set_cons_zero, List.set_cons_succ]
    refine take_w 3 (some 92) (v := ?_) (by kernel_rfl) (by kernel_rfl) (by kernel_rfl) (by kernel_rfl) (by kernel_rfl) (fun _ _ _ h => h) (by rfl) ?_ (by assumption) ?_
    rotate_left
    · (intro w hSw; (try dsimp only at hSw); go_simp; try with_reducible rfl)
    try simp only [Act.put, List.setIfInBounds_toArray, List.set_cons_zero, List.set_cons_succ]
    refine take_w 4 (some 93) (v := ?_) (by kernel_rfl) (by kernel_rfl) (by kernel_rfl) (by kernel_rfl) (by kernel_rfl) (fun _ _ _ h => h) (by rfl) ?_ (by assumption) ?_
    rotate_left
    · (intro w hSw; (try dsimp only at hSw); go_simp; try with_reducible rfl)
    try simp only [Act.put, List.setIfInBounds_toArray, List.set_cons_zero, List.set_cons_succ]
    refine take_w 5 (some 94) (v := ?_) (by kernel_rfl) (by kernel_rfl) (by kernel_rfl) (by kernel_rfl) (by kernel_rfl) (fun _ _ _ h => h) (by rfl) ?_ (by assumption) ?_
    rotate_left
    · (intro w hSw; (try dsimp only at hSw); go_simp; try with_reducible rfl)
    try simp only [Act.put, List.setIfInBounds_toArray, List.set_cons_zero, List.set_cons_succ]
    refine take_w 8 (some 97) (v := ?_) (by kernel_rfl) (by kernel_rfl) (by kernel_rfl) (by kernel_rfl) (by kernel_rfl) (fun _ _ _ h => h) (by rfl) ?_ (by assumption) ?_
    rotate_left
    · (intro w hSw; (try dsimp only at hSw); go_simp; try with_reducible rfl)
    try simp only [Act.put, List.setIfInBounds_toArray, List.set_cons_zero, List.set_cons_succ]
    refine ready_two 6 9 (by kernel_rfl) (by kernel_rfl) (by kernel_rfl) (by rfl) (by rfl) (fun Kc hKc => ?_) (fun Kc hKc => ?_)
    · skip
      go_simp
      have e0 := (Ext.refl cw).alloc (.cells #[.string (str x.name), .int .u8 0, .slice ax mx cx, .string { data := #[] }, .int .i64 0, .int .i64 x.quota] 47)
      have HTr : Hid (itE.Row (cw.alloc (.cells #[.string (str x.name), .int .u8 0, .slice ax mx cx, .string { data := #[] }, .int .i64 0, .int .i64 x.quota] 47)) [⟨x.name, 0, x.after, [], 0, x.quota⟩] (.slice (some ⟨cw.heap.size, 0, none⟩) 1 1)) := Lib.hid (row_one_it (x := ⟨x.name, 0, x.after, [], 0, x.quota⟩) _ (heap_alloc_new cw (.cells #[.string (str x.name), .int .u8 0, .slice ax mx cx, .string { data := #[] }, .int .i64 0, .int .i64 x.quota] 47)) (HXa.out.ext (HC.out.trans e0)) HTw.out)
      have HC := Lib.hid (HC.out.trans e0)
      generalize cw.alloc (.cells #[.string (str x.name), .int .u8 0, .slice ax mx cx, .string { data := #[] }, .int .i64 0, .int .i64 x.quota] 47) = cw2 at *
      clear e0
      generalize cw.heap.size = D1 at *
      obtain ⟨cw, rfl⟩ : ∃ cw : World, cw = cw2 := ⟨_, rfl⟩
      refine hKc.out _ _ ?_ (fun hHeld => ?_)
      · (try dsimp only)
        exact HS.out _ HC.out
      clear hKc Kc
      try simp only [Act.put, List.setIfInBounds_toArray, List.set_cons_zero, List.set_cons_succ]
      refine ready_two 7 9 (by kernel_rfl) (by kernel_rfl) (by kernel_rfl) (by rfl) (by rfl) (fun Kc hKc => ?_) (fun Kc hKc => ?_)
      · skip
        go_simp
        refine (fright_any _ cw _ HTr.out).mono ?_
        rw [HTq.out]
        rintro e cz ⟨rfl, hE⟩
        have HC := Lib.hid (HC.out.trans hE)
        clear hE HTr
        obtain ⟨cw, rfl⟩ : ∃ cw : World, cw = cz := ⟨_, rfl⟩
        try go_wp2_with fail
        refine hKc.out _ _ ?_ (fun hHeld => ?_)
        · (try dsimp only)
          exact HS.out _ HC.out
        clear hKc Kc
        try simp only [Act.put, List.setIfInBounds_toArray, List.set_cons_zero, List.set_cons_succ]
        refine ready_one 9 (by kernel_rfl) (by kernel_rfl) (by rfl) (fun Kc hKc => ?_)
        go_simp
        have e0 := (Ext.refl cw).alloc (.cells #[.string (str x.name), .int .u8 1, .slice ax mx cx, .string { data := #[97] }, .int .i64 40, .int .i64 x.quota] 47)
        have HUr : Hid (itE.Row (cw.alloc (.cells #[.string (str x.name), .int .u8 1, .slice ax mx cx, .string { data := #[97] }, .int .i64 40, .int .i64 x.quota] 47)) [⟨x.name, 1, x.after, [97], 40, x.quota⟩] (.slice (some ⟨cw.heap.size, 0, none⟩) 1 1)) := Lib.hid (row_one_it (x := ⟨x.name, 1, x.after, [97], 40, x.quota⟩) _ (heap_alloc_new cw (.cells #[.string (str x.name), .int .u8 1, .slice ax mx cx, .string { data := #[97] }, .int .i64 40, .int .i64 x.quota] 47)) (HXa.out.ext (HC.out.trans e0)) HUw.out)
        have HC := Lib.hid (HC.out.trans e0)
        generalize cw.alloc (.cells #[.string (str x.name), .int .u8 1, .slice ax mx cx, .string { data := #[97] }, .int .i64 40, .int .i64 x.quota] 47) = cw2 at *
        clear e0
        generalize cw.heap.size = D2 at *
        obtain ⟨cw, rfl⟩ : ∃ cw : World, cw = cw2 := ⟨_, rfl⟩
        refine hKc.out _ _ ?_ (fun hHeld => ?_)
        · (try dsimp only)
          exact HS.out _ HC.out
        clear hKc Kc
        try simp only [Act.put, List.setIfInBounds_toArray, List.set_cons_zero, List.set_cons_succ]
        refine ready_one 10 (by kernel_rfl) (by kernel_rfl) (by rfl) (fun Kc hKc => ?_)
        go_simp
        refine (fright_any _ cw _ HUr.out).mono ?_
        rw [HUq.out]
        rintro e cz ⟨rfl, hE⟩
        have HC := Lib.hid (HC.out.trans hE)
        clear hE HUr
        obtain ⟨cw, rfl⟩ : ∃ cw : World, cw = cz := ⟨_, rfl⟩
        try go_wp2_with fail
        refine hKc.out _ _ ?_ (fun hHeld => ?_)
        · (try dsimp only)
          exact HS.out _ HC.out
        clear hKc Kc
        try simp only [Act.put, List.setIfInBounds_toArray, List.set_cons_zero, List.set_cons_succ]
        refine take_w 11 (some 100) (v := ?_) (by kernel_rfl) (by kernel_rfl) (by kernel_rfl) (by kernel_rfl) (by kernel_rfl) (fun _ _ _ h => h) (by rfl) ?_ (by assumption) ?_
        rotate_left
        · (intro w hSw; (try dsimp only at hSw); go_simp; try with_reducible rfl)
        try simp only [Act.put, List.setIfInBounds_toArray, List.set_cons_zero, List.set_cons_succ]
        refine take_w 12 (some 101) (v := ?_) (by kernel_rfl) (by kernel_rfl) (by kernel_rfl) (by kernel_rfl) (by kernel_rfl) (fun _ _ _ h => h) (by rfl) ?_ (by assumption) ?_
        rotate_left
        · (intro w hSw; (try dsimp only at hSw); go_simp; try with_reducible rfl)
        try simp only [Act.put, List.setIfInBounds_toArray, List.set_cons_zero, List.set_cons_succ]
        refine take_w 13 (some 102) (v := ?_) (by kernel_rfl) (by kernel_rfl) (by kernel_rfl) (by kernel_rfl) (by kernel_rfl) (fun _ _ _ h => h) (by rfl) ?_ (by assumption) ?_
        rotate_left
        · (intro w hSw; (try dsimp only at hSw); go_simp; try with_reducible rfl)
        try simp only [Act.put, List.setIfInBounds_toArray, List.set_cons_zero, List.set_cons_succ]
        refine ready_one 14 (by kernel_rfl) (by kernel_rfl) (by rfl) (fun Kc hKc => ?_)
        go_simp
        refine (awake09 _).mono ?_
        rintro e cz ⟨rfl, hE⟩
        have HC := Lib.hid (HC.out.trans hE)
        clear hE
        obtain ⟨cw, rfl⟩ : ∃ cw : World, cw = cz := ⟨_, rfl⟩
        try go_wp2_with fail
        refine hKc.out _ _ ?_ (fun hHeld => ?_)
        · (try dsimp only)
          exact HS.out _ HC.out
        clear hKc Kc
        try simp only [Act.put, List.setIfInBounds_toArray, List.set_cons_zero, List.set_cons_succ]
        refine take_w 15 (some 104) (v := ?_) (by kernel_rfl) (by kernel_rfl) (by kernel_rfl) (by kernel_rfl) (by kernel_rfl) (fun _ _ _ h => h) (by rfl) ?_ (by assumption) ?_
        rotate_left
        · (intro w hSw; (try dsimp only at hSw); go_simp; try with_reducible rfl)
        try simp only [Act.put, List.setIfInBounds_toArray, List.set_cons_zero, List.set_cons_succ]
        refine take_w 16 (some 6) (v := ?_) (by kernel_rfl) (by kernel_rfl) (by kernel_rfl) (by kernel_rfl) (by kernel_rfl) (fun _ _ _ h => h) (by rfl) ?_ (by assumption) ?_
        rotate_left
        · (intro w hSw; (try dsimp only at hSw); go_simp; try with_reducible rfl)
        try simp only [Act.put, List.setIfInBounds_toArray, List.set_cons_zero, List.set_cons_succ]
        refine wpAnyH_done (by kernel_rfl) ?_ _
        go_wp2
        go_ret
        exact ⟨rfl, HEt.out.trans HC.out⟩
      · skip
        go_simp
        have e0 := (Ext.refl cw).alloc (.cells #[.string (str x.name), .int .u8 1, .slice ax mx cx, .string { data := #[97] }, .int .i64 40, .int .i64 x.quota] 47)
        have HUr : Hid (itE.Row (cw.alloc (.cells #[.string (str x.name), .int .u8 1, .slice ax mx cx, .string { data := #[97] }, .int .i64 40, .int .i64 x.quota] 47)) [⟨x.name, 1, x.after, [97], 40, x.quota⟩] (.slice (some ⟨cw.heap.size, 0, none⟩) 1 1)) := Lib.hid (row_one_it (x := ⟨x.name, 1, x.after, [97], 40, x.quota⟩) _ (heap_alloc_new cw (.cells #[.string (str x.name), .int .u8 1, .slice ax mx cx, .string { data := #[97] }, .int .i64 40, .int .i64 x.quota] 47)) (HXa.out.ext (HC.out.trans e0)) HUw.out)
        have HTr := Lib.hid (HTr.out.ext e0)
        have HC := Lib.hid (HC.out.trans e0)
        generalize cw.alloc (.cells #[.string (str x.name), .int .u8 1, .slice ax mx cx, .string { data := #[97] }, .int .i64 40, .int .i64 x.quota] 47) = cw2 at *
        clear e0
        generalize cw.heap.size = D2 at *
        obtain ⟨cw, rfl⟩ : ∃ cw : World, cw = cw2 := ⟨_, rfl⟩
        refine hKc.out _ _ ?_ (fun hHeld => ?_)
        · (try dsimp only)
          exact HS.out _ HC.out
        clear hKc Kc
        try simp only [Act.put, List.setIfInBounds_toArray, List.set_cons_zero, List.set_cons_succ]
        refine ready_one 7 (by kernel_rfl) (by kernel_rfl) (by rfl) (fun Kc hKc => ?_)
        go_simp
        refine (fright_any _ cw _ HTr.out).mono ?_
        rw [HTq.out]
        rintro e cz ⟨rfl, hE⟩
        have HUr := Lib.hid (HUr.out.ext hE)
        have HC := Lib.hid (HC.out.trans hE)
        clear hE HTr
        obtain ⟨cw, rfl⟩ : ∃ cw : World, cw = cz := ⟨_, rfl⟩
        try go_wp2_with fail
        refine hKc.out _ _ ?_ (fun hHeld => ?_)
        · (try dsimp only)
          exact HS.out _ HC.out
        clear hKc Kc
        try simp only [Act.put, List.setIfInBounds_toArray, List.set_cons_zero, List.set_cons_succ]
        refine ready_one 10 (by kernel_rfl) (by kernel_rfl) (by rfl) (fun Kc hKc => ?_)
        go_simp
        refine (fright_any _ cw _ HUr.out).mono ?_
        rw [HUq.out]
        rintro e cz ⟨rfl, hE⟩
        have HC := Lib.hid (HC.out.trans hE)
        clear hE HUr
        obtain ⟨cw, rfl⟩ : ∃ cw : World, cw = cz := ⟨_, rfl⟩
        try go_wp2_with fail
        refine hKc.out _ _ ?_ (fun hHeld => ?_)
        · (try dsimp only)
          exact HS.out _ HC.out
        clear hKc Kc
        try simp only [Act.put, List.setIfInBounds_toArray, List.set_cons_zero, List.set_cons_succ]
        refine take_w 11 (some 100) (v := ?_) (by kernel_rfl) (by kernel_rfl) (by kernel_rfl) (by kernel_rfl) (by kernel_rfl) (fun _ _ _ h => h) (by rfl) ?_ (by assumption) ?_
        rotate_left
        · (intro w hSw; (try dsimp only at hSw); go_simp; try with_reducible rfl)
        try simp only [Act.put, List.setIfInBounds_toArray, List.set_cons_zero, List.set_cons_succ]
        refine take_w 12 (some 101) (v := ?_) (by kernel_rfl) (by kernel_rfl) (by kernel_rfl) (by kernel_rfl) (by kernel_rfl) (fun _ _ _ h => h) (by rfl) ?_ (by assumption) ?_
        rotate_left
        · (intro w hSw; (try dsimp only at hSw); go_simp; try with_reducible rfl)
        try simp only [Act.put, List.setIfInBounds_toArray, List.set_cons_zero, List.set_cons_succ]
        refine take_w 13 (some 102) (v := ?_) (by kernel_rfl) (by kernel_rfl) (by kernel_rfl) (by kernel_rfl) (by kernel_rfl) (fun _ _ _ h => h) (by rfl) ?_ (by assumption) ?_
        rotate_left
        · (intro w hSw; (try dsimp only at hSw); go_simp; try with_reducible rfl)
        try simp only [Act.put, List.setIfInBounds_toArray, List.set_cons_zero, List.set_cons_succ]
        refine ready_one 14 (by kernel_rfl) (by kernel_rfl) (by rfl) (fun Kc hKc => ?_)
        go_simp
        refine (awake09 _).mono ?_
        rintro e cz ⟨rfl, hE⟩
        have HC := Lib.hid (HC.out.trans hE)
        clear hE
        obtain ⟨cw, rfl⟩ : ∃ cw : World, cw = cz := ⟨_, rfl⟩
        try go_wp2_with fail
        refine hKc.out _ _ ?_ (fun hHeld => ?_)
        · (try dsimp only)
          exact HS.out _ HC.out
        clear hKc Kc
        try simp only [Act.put, List.setIfInBounds_toArray, List.set_cons_zero, List.set_cons_succ]
        refine take_w 15 (some 104) (v := ?_) (by kernel_rfl) (by kernel_rfl) (by kernel_rfl) (by kernel_rfl) (by kernel_rfl) (fun _ _ _ h => h) (by rfl) ?_ (by assumption) ?_
        rotate_left
        · (intro w hSw; (try dsimp only at hSw); go_simp; try with_reducible rfl)
        try simp only [Act.put, List.setIfInBounds_toArray, List.set_cons_zero, List.set_cons_succ]
        refine take_w 16 (some 6) (v := ?_) (by kernel_rfl) (by kernel_rfl) (by kernel_rfl) (by kernel_rfl) (by kernel_rfl) (fun _ _ _ h => h) (by rfl) ?_ (by assumption) ?_
        rotate_left
        · (intro w hSw; (try dsimp only at hSw); go_simp; try with_reducible rfl)
        try simp only [Act.put, List.setIfInBounds_toArray, List.set_cons_zero, List.set_cons_succ]
        refine wpAnyH_done (by kernel_rfl) ?_ _
        go_wp2
        go_ret
        exact ⟨rfl, HEt.out.trans HC.out⟩
    · skip
      go_simp
      have e0 := (Ext.refl cw).alloc (.cells #[.string (str x.name), .int .u8 1, .slice ax mx cx, .string { data := #[97] }, .int .i64 40, .int .i64 x.quota] 47)
      have HUr : Hid (itE.Row (cw.alloc (.cells #[.string (str x.name), .int .u8 1, .slice ax mx cx, .string { data := #[97] }, .int .i64 40, .int .i64 x.quota] 47)) [⟨x.name, 1, x.after, [97], 40, x.quota⟩] (.slice (some ⟨cw.heap.size, 0, none⟩) 1 1)) := Lib.hid (row_one_it (x := ⟨x.name, 1, x.after, [97], 40, x.quota⟩) _ (heap_alloc_new cw (.cells #[.string (str x.name), .int .u8 1, .slice ax mx cx, .string { data := #[97] }, .int .i64 40, .int .i64 x.quota] 47)) (HXa.out.ext (HC.out.trans e0)) HUw.out)
      have HC := Lib.hid (HC.out.trans e0)
      generalize cw.alloc (.cells #[.string (str x.name), .int .u8 1, .slice ax mx cx, .string { data := #[97] }, .int .i64 40, .int .i64 x.quota] 47) = cw2 at *
      clear e0
      generalize cw.heap.size = D2 at *
      obtain ⟨cw, rfl⟩ : ∃ cw : World, cw = cw2 := ⟨_, rfl⟩
      refine hKc.out _ _ ?_ (fun hHeld => ?_)
      · (try dsimp only)
        exact HS.out _ HC.out
      clear hKc Kc
      try simp only [Act.put, List.setIfInBounds_toArray, List.set_cons_zero, List.set_cons_succ]
      refine ready_one 6 (by kernel_rfl) (by kernel_rfl) (by rfl) (fun Kc hKc => ?_)
      go_simp
      have e0 := (Ext.refl cw).alloc (.cells #[.string (str x.name), .int .u8 0, .slice ax mx cx, .string { data := #[] }, .int .i64 0, .int .i64 x.quota] 47)
      have HTr : Hid (itE.Row (cw.alloc (.cells #[.string (str x.name), .int .u8 0, .slice ax mx cx, .string { data := #[] }, .int .i64 0, .int .i64 x.quota] 47)) [⟨x.name, 0, x.after, [], 0, x.quota⟩] (.slice (some ⟨cw.heap.size, 0, none⟩) 1 1)) := Lib.hid (row_one_it (x := ⟨x.name, 0, x.after, [], 0, x.quota⟩) _ (heap_alloc_new cw (.cells #[.string (str x.name), .int .u8 0, .slice ax mx cx, .string { data := #[] }, .int .i64 0, .int .i64 x.quota] 47)) (HXa.out.ext (HC.out.trans e0)) HTw.out)
      have HUr := Lib.hid (HUr.out.ext e0)
      have HC := Lib.hid (HC.out.trans e0)
      generalize cw.alloc (.cells #[.string (str x.name), .int .u8 0, .slice ax mx cx, .string { data := #[] }, .int .i64 0, .int .i64 x.quota] 47) = cw2 at *
      clear e0
      generalize cw.heap.size = D1 at *
      obtain ⟨cw, rfl⟩ : ∃ cw : World, cw = cw2 := ⟨_, rfl⟩
      refine hKc.out _ _ ?_ (fun hHeld => ?_)
      · (try dsimp only)
        exact HS.out _ HC.out
      clear hKc Kc
      try simp only [Act.put, List.setIfInBounds_toArray, List.set_cons_zero, List.set_cons_succ]
      refine ready_one 7 (by kernel_rfl) (by kernel_rfl) (by rfl) (fun Kc hKc => ?_)
      go_simp
      refine (fright_any _ cw _ HTr.out).mono ?_
      rw [HTq.out]
      rintro e cz ⟨rfl, hE⟩
      have HUr := Lib.hid (HUr.out.ext hE)
      have HC := Lib.hid (HC.out.trans hE)
      clear hE HTr
      obtain ⟨cw, rfl⟩ : ∃ cw : World, cw = cz := ⟨_, rfl⟩
      try go_wp2_with fail
      refine hKc.out _ _ ?_ (fun hHeld => ?_)
      · (try dsimp only)
        exact HS.out _ HC.out
      clear hKc Kc
      try simp only [Act.put, List.setIfInBounds_toArray, List.set_cons_zero, List.set_cons_succ]
      refine ready_one 10 (by kernel_rfl) (by kernel_rfl) (by rfl) (fun Kc hKc => ?_)
      go_simp
      refine (fright_any _ cw _ HUr.out).mono ?_
      rw [HUq.out]
      rintro e cz ⟨rfl, hE⟩
      have HC := Lib.hid (HC.out.trans hE)
      clear hE HUr
      obtain ⟨cw, rfl⟩ : ∃ cw : World, cw = cz := ⟨_, rfl⟩
      try go_wp2_with fail
      refine hKc.out _ _ ?_ (fun hHeld => ?_)
      · (try dsimp only)
        exact HS.out _ HC.out
      clear hKc Kc
      try simp only [Act.put, List.setIfInBounds_toArray, List.set_cons_zero, List.set_cons_succ]
      refine take_w 11 (some 100) (v := ?_) (by kernel_rfl) (by kernel_rfl) (by kernel_rfl) (by kernel_rfl) (by kernel_rfl) (fun _ _ _ h => h) (by rfl) ?_ (by assumption) ?_
      rotate_left
      · (intro w hSw; (try dsimp only at hSw); go_simp; try with_reducible rfl)
      try simp only [Act.put, List.setIfInBounds_toArray, List.set_cons_zero, List.set_cons_succ]
      refine take_w 12 (some 101) (v := ?_) (by kernel_rfl) (by kernel_rfl) (by kernel_rfl) (by kernel_rfl) (by kernel_rfl) (fun _ _ _ h => h) (by rfl) ?_ (by assumption) ?_
      rotate_left
      · (intro w hSw; (try dsimp only at hSw); go_simp; try with_reducible rfl)
      try simp only [Act.put, List.setIfInBounds_toArray, List.set_cons_zero, List.set_cons_succ]
      refine take_w 13 (some 102) (v := ?_) (by kernel_rfl) (by kernel_rfl) (by kernel_rfl) (by kernel_rfl) (by kernel_rfl) (fun _ _ _ h => h) (by rfl) ?_ (by assumption) ?_
      rotate_left
      · (intro w hSw; (try dsimp only at hSw); go_simp; try with_reducible rfl)
      try simp only [Act.put, List.setIfInBounds_toArray, List.set_cons_zero, List.set_cons_succ]
      refine ready_one 14 (by kernel_rfl) (by kernel_rfl) (by rfl) (fun Kc hKc => ?_)
      go_simp
      refine (awake09 _).mono ?_
      rintro e cz ⟨rfl, hE⟩
      have HC := Lib.hid (HC.out.trans hE)
      clear hE
      obtain ⟨cw, rfl⟩ : ∃ cw : World, cw = cz := ⟨_, rfl⟩
      try go_wp2_with fail
      refine hKc.out _ _ ?_ (fun hHeld => ?_)
      · (try dsimp only)
        exact HS.out _ HC.out
      clear hKc Kc
      try simp only [Act.put, List.setIfInBounds_toArray, List.set_cons_zero, List.set_cons_succ]
      refine take_w 15 (some 104) (v := ?_) (by kernel_rfl) (by kernel_rfl) (by kernel_rfl) (by kernel_rfl) (by kernel_rfl) (fun _ _ _ h => h) (by rfl) ?_ (by assumption) ?_
      rotate_left
      · (intro w hSw; (try dsimp only at hSw); go_simp; try with_reducible rfl)
      try simp only [Act.put, List.setIfInBounds_toArray, List.set_cons_zero, List.set_cons_succ]
      refine take_w 16 (some 6) (v := ?_) (by kernel_rfl) (by kernel_rfl) (by kernel_rfl) (by kernel_rfl) (by kernel_rfl) (fun _ _ _ h => h) (by rfl) ?_ (by assumption) ?_
      rotate_left
      · (intro w hSw; (try dsimp only at hSw); go_simp; try with_reducible rfl)
      try simp only [Act.put, List.setIfInBounds_toArray, List.set_cons_zero, List.set_cons_succ]
      refine wpAnyH_done (by kernel_rfl) ?_ _
      go_wp2
      go_ret
      exact ⟨rfl, HEt.out.trans HC.out⟩

  | true =>
    go_upto_region 12 with (fail)
    rw [hgg]
    have hup := fun w' => slice_it_upto al l.length cl G (by omega) w'
    have hfr := fun w' => slice_it_from al l.length cl G hGl w'
    have HDk := Lib.hid ((HV.out.ext HE4.out).drop (k := G) hGl)
    rw [show itE.sz = 6 from rfl] at HDk
    generalize (if cl = G then al else al.map (·.add (G * 6))) = ad at *
    generalize l.length - G = nd at *
    generalize cl - G = cd at *
    go_cut [10] from 52 to 63 (fun p w' => ∃ vm : Value, p = vm ∧ Hid (ShF w4 w' vm (l.take G ++ [x] ++ l.drop G) ∧ Ext w4 w'))
    case first =>
      have HXr := Lib.hid (HXr.out.ext HE4.out)
      have HTk := Lib.hid ((HV.out.ext HE4.out).take (k := G) hGl)
      have HC : Hid (Ext w4 w4.drew) := Lib.hid (Ext.refl w4).drew
      clear hcv hla hrm hnz
      refine wp_region_held_drew (S := fun w' => w'.cell? ⟨w.heap.size, 0, none⟩ = some (.string (str x.name)) ∧ w'.cell? ⟨w.heap.size, 1, none⟩ = some (.int .u8 K) ∧ w'.cell? ⟨w.heap.size, 2, none⟩ = some (.slice ax mx cx) ∧ w'.cell? ⟨w.heap.size, 3, none⟩ = some (.string (str x.over)) ∧ w'.cell? ⟨w.heap.size, 4, none⟩ = some (.int .i64 x.width) ∧ w'.cell? ⟨w.heap.size, 5, none⟩ = some (.int .i64 x.quota)) (by kernel_rfl) ?_ (fun hHeld => ?_)
      · (try dsimp only)
        exact HS.out _ HC.out
      generalize w4.drew = cw at *
      refine take_w 1 (some 53) (v := ?_) (by kernel_rfl) (by kernel_rfl) (by kernel_rfl) (by kernel_rfl) (by kernel_rfl) (fun _ _ _ h => h) (by rfl) ?_ (by assumption) ?_
      rotate_left
      · (intro w hSw; (try dsimp only at hSw); go_simp; try with_reducible rfl)
      try simp only [Act.put, List.setIfInBounds_toArray, List.set_cons_zero, List.set_cons_succ]
      refine take_w 2 (some 54) (v := ?_) (by kernel_rfl) (by kernel_rfl) (by kernel_rfl) (by kernel_rfl) (by kernel_rfl) (fun _ _ _ h => h) (by rfl) ?_ (by assumption) ?_
      rotate_left
      · (intro w hSw; (try dsimp only at hSw); go_simp; try with_reducible rfl)
      try simp only [Act.put, List.setIfInBounds_toArray, List.set_cons_zero, List.set_cons_succ]
      refine take_w 3 (some 55) (v := ?_) (by kernel_rfl) (by kernel_rfl) (by kernel_rfl) (by kernel_rfl) (by kernel_rfl) (fun _ _ _ h => h) (by rfl) ?_ (by assumption) ?_
      rotate_left
      · (intro w hSw; (try dsimp only at hSw); go_simp; try with_reducible rfl)
      try simp only [Act.put, List.setIfInBounds_toArray, List.set_cons_zero, List.set_cons_succ]
      refine take_w 5 (some 57) (v := ?_) (by kernel_rfl) (by kernel_rfl) (by kernel_rfl) (by kernel_rfl) (by kernel_rfl) (fun _ _ _ h => h) (by rfl) ?_ (by assumption) ?_
      rotate_left
      · (intro w hSw; (try dsimp only at hSw); go_simp; try with_reducible rfl)
      try simp only [Act.put, List.setIfInBounds_toArray, List.set_cons_zero, List.set_cons_succ]
      refine take_w 8 (some 60) (v := ?_) (by kernel_rfl) (by kernel_rfl) (by kernel_rfl) (by kernel_rfl) (by kernel_rfl) (fun _ _ _ h => h) (by rfl) ?_ (by assumption) ?_
      rotate_left
      · (intro w hSw; (try dsimp only at hSw); go_simp; try with_reducible rfl)
      try simp only [Act.put, List.setIfInBounds_toArray, List.set_cons_zero, List.set_cons_succ]
      refine take_w 9 (some 61) (v := ?_) (by kernel_rfl) (by kernel_rfl) (by kernel_rfl) (by kernel_rfl) (by kernel_rfl) (fun _ _ _ h => h) (by rfl) ?_ (by assumption) ?_
      rotate_left
      · (intro w hSw; (try dsimp only at hSw); go_simp; try with_reducible rfl)
      try simp only [Act.put, List.setIfInBounds_toArray, List.set_cons_zero, List.set_cons_succ]
      refine take_w 10 (some 62) (v := ?_) (by kernel_rfl) (by kernel_rfl) (by kernel_rfl) (by kernel_rfl) (by kernel_rfl) (fun _ _ _ h => h) (by rfl) ?_ (by assumption) ?_
      rotate_left
      · (intro w hSw; (try dsimp only at hSw); go_simp; try with_reducible rfl)
      try simp only [Act.put, List.setIfInBounds_toArray, List.set_cons_zero, List.set_cons_succ]
      refine ready_two 0 6 (by kernel_rfl) (by kernel_rfl) (by kernel_rfl) (by rfl) (by rfl) (fun Kc hKc => ?_) (fun Kc hKc => ?_)
      · skip
        go_simp
        have e0 := (Ext.refl cw).alloc (.cells #[] 47)
        have HSh := Lib.hid (ShF.made HC.out)
        have hz0 : cw.heap.size < (cw.alloc (.cells #[] 47)).heap.size := by simp
        have HC := Lib.hid (HC.out.trans e0)
        obtain ⟨v52, hv52⟩ : ∃ v52, v52 = Value.slice (some ⟨cw.heap.size, 0, none⟩) 0 0 := ⟨_, rfl⟩
        rw [← hv52] at HSh ⊢
        generalize cw.alloc (.cells #[] 47) = cw at *
        clear e0 hz0 hv52
        refine hKc.out _ _ ?_ (fun hHeld => ?_)
        · (try dsimp only)
          exact HS.out _ HC.out
        clear hKc Kc
        try simp only [Act.put, List.setIfInBounds_toArray, List.set_cons_zero, List.set_cons_succ]
        refine ready_two 4 6 (by kernel_rfl) (by kernel_rfl) (by kernel_rfl) (by rfl) (by rfl) (fun Kc hKc => ?_) (fun Kc hKc => ?_)
        · skip
          refine oper_appF (v := v52) _ _ rfl rfl HSh.out HC.out rfl (srcI_row HTk.out HC.out) (by simp only [List.length_nil, List.length_take]; omega) (fun v56 cz h1 h2 h3 => ?_)
          have HSh := Lib.hid h1
          have HC := Lib.hid h2
          clear h1 h2 h3
          rw [List.nil_append] at HSh
          obtain ⟨cw, rfl⟩ : ∃ cw : World, cw = cz := ⟨_, rfl⟩
          go_simp
          refine hKc.out _ _ ?_ (fun hHeld => ?_)
          · (try dsimp only)
            exact HS.out _ HC.out
          clear hKc Kc
          try simp only [Act.put, List.setIfInBounds_toArray, List.set_cons_zero, List.set_cons_succ]
          refine ready_one 6 (by kernel_rfl) (by kernel_rfl) (by rfl) (fun Kc hKc => ?_)
          go_simp
          have e0 := (Ext.refl cw).alloc (.cells #[.string (str x.name), .int .u8 K, .slice ax mx cx, .string (str x.over), .int .i64 x.width, .int .i64 x.quota] 47)
          have HNb : Hid ((cw.alloc (.cells #[.string (str x.name), .int .u8 K, .slice ax mx cx, .string (str x.over), .int .i64 x.width, .int .i64 x.quota] 47)).heap[cw.heap.size]? = some (.cells #[.string (str x.name), .int .u8 K, .slice ax mx cx, .string (str x.over), .int .i64 x.width, .int .i64 x.quota] 47)) := Lib.hid (heap_alloc_new cw (.cells #[.string (str x.name), .int .u8 K, .slice ax mx cx, .string (str x.over), .int .i64 x.width, .int .i64 x.quota] 47))
          have hz0 : (cw.alloc (.cells #[.string (str x.name), .int .u8 K, .slice ax mx cx, .string (str x.over), .int .i64 x.width, .int .i64 x.quota] 47)).heap.size = cw.heap.size + 1 := by simp
          have HSh := Lib.hid (HSh.out.ext e0)
          have HC := Lib.hid (HC.out.trans e0)
          have hBlt : cw.heap.size < (cw.alloc (.cells #[.string (str x.name), .int .u8 K, .slice ax mx cx, .string (str x.over), .int .i64 x.width, .int .i64 x.quota] 47)).heap.size := by omega
          generalize cw.alloc (.cells #[.string (str x.name), .int .u8 K, .slice ax mx cx, .string (str x.over), .int .i64 x.width, .int .i64 x.quota] 47) = cw2 at *
          generalize cw.heap.size = B at *
          clear e0 hz0
          obtain ⟨cw, rfl⟩ : ∃ cw : World, cw = cw2 := ⟨_, rfl⟩
          refine hKc.out _ _ ?_ (fun hHeld => ?_)
          · (try dsimp only)
            exact HS.out _ HC.out
          clear hKc Kc
          try simp only [Act.put, List.setIfInBounds_toArray, List.set_cons_zero, List.set_cons_succ]
          refine ready_one 7 (by kernel_rfl) (by kernel_rfl) (by rfl) (fun Kc hKc => ?_)
          refine oper_appF (v := v56) _ _ rfl rfl HSh.out HC.out rfl (srcI_one (by have h := HNb.out; rw [HKx.out] at h; exact h) HXr.out HXw.out) (by simp only [List.length_singleton, List.length_take]; omega) (fun v59 cz h1 h2 h3 => ?_)
          have HSh := Lib.hid h1
          have HC := Lib.hid h2
          clear h1 h2 h3 HNb
          obtain ⟨cw, rfl⟩ : ∃ cw : World, cw = cz := ⟨_, rfl⟩
          go_simp
          refine hKc.out _ _ ?_ (fun hHeld => ?_)
          · (try dsimp only)
            exact HS.out _ HC.out
          clear hKc Kc
          try simp only [Act.put, List.setIfInBounds_toArray, List.set_cons_zero, List.set_cons_succ]
          refine ready_one 11 (by kernel_rfl) (by kernel_rfl) (by rfl) (fun Kc hKc => ?_)
          refine oper_appF (v := v59) _ _ rfl rfl HSh.out HC.out rfl (srcI_row HDk.out HC.out) (by simp only [List.length_append, List.length_singleton, List.length_take, List.length_drop]; omega) (fun v63 cz h1 h2 h3 => ?_)
          have HSh := Lib.hid h1
          have HC := Lib.hid h2
          clear h1 h2 h3
          obtain ⟨cw, rfl⟩ : ∃ cw : World, cw = cz := ⟨_, rfl⟩
          go_simp
          refine hKc.out _ _ ?_ (fun hHeld => ?_)
          · (try dsimp only)
            exact HS.out _ HC.out
          clear hKc Kc
          try simp only [Act.put, List.setIfInBounds_toArray, List.set_cons_zero, List.set_cons_succ]
          refine take_w 12 (some 10) (v := ?_) (by kernel_rfl) (by kernel_rfl) (by kernel_rfl) (by kernel_rfl) (by kernel_rfl) (fun _ _ _ h => h) (by rfl) ?_ (by assumption) ?_
          rotate_left
          · (intro w hSw; (try dsimp only at hSw); go_simp; try with_reducible rfl)
          try simp only [Act.put, List.setIfInBounds_toArray, List.set_cons_zero, List.set_cons_succ]
          refine wpAnyH_done (by kernel_rfl) ?_ _
          go_wp2_with fail
          go_meet
          case rel => exact ⟨_, rfl, Lib.hid ⟨HSh.out, HC.out⟩⟩
        · skip
          go_simp
          have e0 := (Ext.refl cw).alloc (.cells #[.string (str x.name), .int .u8 K, .slice ax mx cx, .string (str x.over), .int .i64 x.width, .int .i64 x.quota] 47)
          have HNb : Hid ((cw.alloc (.cells #[.string (str x.name), .int .u8 K, .slice ax mx cx, .string (str x.over), .int .i64 x.width, .int .i64 x.quota] 47)).heap[cw.heap.size]? = some (.cells #[.string (str x.name), .int .u8 K, .slice ax mx cx, .string (str x.over), .int .i64 x.width, .int .i64 x.quota] 47)) := Lib.hid (heap_alloc_new cw (.cells #[.string (str x.name), .int .u8 K, .slice ax mx cx, .string (str x.over), .int .i64 x.width, .int .i64 x.quota] 47))
          have hz0 : (cw.alloc (.cells #[.string (str x.name), .int .u8 K, .slice ax mx cx, .string (str x.over), .int .i64 x.width, .int .i64 x.quota] 47)).heap.size = cw.heap.size + 1 := by simp
          have HNE : Hid (∀ b, v52.ownBlock = some b → b ≠ cw.heap.size) := Lib.hid (fun b hb => by have := (HSh.out.lt b hb).2; omega)
          have HSh := Lib.hid (HSh.out.ext e0)
          have HC := Lib.hid (HC.out.trans e0)
          have hBlt : cw.heap.size < (cw.alloc (.cells #[.string (str x.name), .int .u8 K, .slice ax mx cx, .string (str x.over), .int .i64 x.width, .int .i64 x.quota] 47)).heap.size := by omega
          generalize cw.alloc (.cells #[.string (str x.name), .int .u8 K, .slice ax mx cx, .string (str x.over), .int .i64 x.width, .int .i64 x.quota] 47) = cw2 at *
          generalize cw.heap.size = B at *
          clear e0 hz0
          obtain ⟨cw, rfl⟩ : ∃ cw : World, cw = cw2 := ⟨_, rfl⟩
          refine hKc.out _ _ ?_ (fun hHeld => ?_)
          · (try dsimp only)
            exact HS.out _ HC.out
          clear hKc Kc
          try simp only [Act.put, List.setIfInBounds_toArray, List.set_cons_zero, List.set_cons_succ]
          refine ready_one 4 (by kernel_rfl) (by kernel_rfl) (by rfl) (fun Kc hKc => ?_)
          refine oper_appF (v := v52) _ _ rfl rfl HSh.out HC.out rfl (srcI_row HTk.out HC.out) (by simp only [List.length_nil, List.length_take]; omega) (fun v56 cz h1 h2 h3 => ?_)
          have HNb := Lib.hid ((h3.block B hBlt (fun e => HNE.out B e.symm rfl)).trans HNb.out)
          have hBlt : B < cz.heap.size := by have := h3.size; omega
          clear HNE
          have HSh := Lib.hid h1
          have HC := Lib.hid h2
          clear h1 h2 h3
          rw [List.nil_append] at HSh
          obtain ⟨cw, rfl⟩ : ∃ cw : World, cw = cz := ⟨_, rfl⟩
          go_simp
          refine hKc.out _ _ ?_ (fun hHeld => ?_)
          · (try dsimp only)
            exact HS.out _ HC.out
          clear hKc Kc
          try simp only [Act.put, List.setIfInBounds_toArray, List.set_cons_zero, List.set_cons_succ]
          refine ready_one 7 (by kernel_rfl) (by kernel_rfl) (by rfl) (fun Kc hKc => ?_)
          refine oper_appF (v := v56) _ _ rfl rfl HSh.out HC.out rfl (srcI_one (by have h := HNb.out; rw [HKx.out] at h; exact h) HXr.out HXw.out) (by simp only [List.length_singleton, List.length_take]; omega) (fun v59 cz h1 h2 h3 => ?_)
          have HSh := Lib.hid h1
          have HC := Lib.hid h2
          clear h1 h2 h3 HNb
          obtain ⟨cw, rfl⟩ : ∃ cw : World, cw = cz := ⟨_, rfl⟩
          go_simp
          refine hKc.out _ _ ?_ (fun hHeld => ?_)
          · (try dsimp only)
            exact HS.out _ HC.out
          clear hKc Kc
          try simp only [Act.put, List.setIfInBounds_toArray, List.set_cons_zero, List.set_cons_succ]
          refine ready_one 11 (by kernel_rfl) (by kernel_rfl) (by rfl) (fun Kc hKc => ?_)
          refine oper_appF (v := v59) _ _ rfl rfl HSh.out HC.out rfl (srcI_row HDk.out HC.out) (by simp only [List.length_append, List.length_singleton, List.length_take, List.length_drop]; omega) (fun v63 cz h1 h2 h3 => ?_)
          have HSh := Lib.hid h1
          have HC := Lib.hid h2
          clear h1 h2 h3
          obtain ⟨cw, rfl⟩ : ∃ cw : World, cw = cz := ⟨_, rfl⟩
          go_simp
          refine hKc.out _ _ ?_ (fun hHeld => ?_)
          · (try dsimp only)
            exact HS.out _ HC.out
          clear hKc Kc
          try simp only [Act.put, List.setIfInBounds_toArray, List.set_cons_zero, List.set_cons_succ]
          refine take_w 12 (some 10) (v := ?_) (by kernel_rfl) (by kernel_rfl) (by kernel_rfl) (by kernel_rfl) (by kernel_rfl) (fun _ _ _ h => h) (by rfl) ?_ (by assumption) ?_
          rotate_left
          · (intro w hSw; (try dsimp only at hSw); go_simp; try with_reducible rfl)
          try simp only [Act.put, List.setIfInBounds_toArray, List.set_cons_zero, List.set_cons_succ]
          refine wpAnyH_done (by kernel_rfl) ?_ _
          go_wp2_with fail
          go_meet
          case rel => exact ⟨_, rfl, Lib.hid ⟨HSh.out, HC.out⟩⟩
      · skip
        go_simp
        have e0 := (Ext.refl cw).alloc (.cells #[.string (str x.name), .int .u8 K, .slice ax mx cx, .string (str x.over), .int .i64 x.width, .int .i64 x.quota] 47)
        have HNb : Hid ((cw.alloc (.cells #[.string (str x.name), .int .u8 K, .slice ax mx cx, .string (str x.over), .int .i64 x.width, .int .i64 x.quota] 47)).heap[cw.heap.size]? = some (.cells #[.string (str x.name), .int .u8 K, .slice ax mx cx, .string (str x.over), .int .i64 x.width, .int .i64 x.quota] 47)) := Lib.hid (heap_alloc_new cw (.cells #[.string (str x.name), .int .u8 K, .slice ax mx cx, .string (str x.over), .int .i64 x.width, .int .i64 x.quota] 47))
        have hz0 : (cw.alloc (.cells #[.string (str x.name), .int .u8 K, .slice ax mx cx, .string (str x.over), .int .i64 x.width, .int .i64 x.quota] 47)).heap.size = cw.heap.size + 1 := by simp
        have HC := Lib.hid (HC.out.trans e0)
        have hBlt : cw.heap.size < (cw.alloc (.cells #[.string (str x.name), .int .u8 K, .slice ax mx cx, .string (str x.over), .int .i64 x.width, .int .i64 x.quota] 47)).heap.size := by omega
        generalize cw.alloc (.cells #[.string (str x.name), .int .u8 K, .slice ax mx cx, .string (str x.over), .int .i64 x.width, .int .i64 x.quota] 47) = cw2 at *
        generalize cw.heap.size = B at *
        clear e0 hz0
        obtain ⟨cw, rfl⟩ : ∃ cw : World, cw = cw2 := ⟨_, rfl⟩
        refine hKc.out _ _ ?_ (fun hHeld => ?_)
        · (try dsimp only)
          exact HS.out _ HC.out
        clear hKc Kc
        try simp only [Act.put, List.setIfInBounds_toArray, List.set_cons_zero, List.set_cons_succ]
        refine ready_one 0 (by kernel_rfl) (by kernel_rfl) (by rfl) (fun Kc hKc => ?_)
        go_simp
        have e0 := (Ext.refl cw).alloc (.cells #[] 47)
        have HSh := Lib.hid (ShF.made HC.out)
        have hz0 : cw.heap.size < (cw.alloc (.cells #[] 47)).heap.size := by simp
        have HNb := Lib.hid ((e0.block _ hBlt).trans HNb.out)
        have HNE : Hid (∀ b, (Value.slice (some ⟨cw.heap.size, 0, none⟩) 0 0).ownBlock = some b → b ≠ B) := Lib.hid (fun b hb => by have hb := Option.some.inj (show some cw.heap.size = some b from hb); omega)
        have hBlt : B < (cw.alloc (.cells #[] 47)).heap.size := by omega
        have HC := Lib.hid (HC.out.trans e0)
        obtain ⟨v52, hv52⟩ : ∃ v52, v52 = Value.slice (some ⟨cw.heap.size, 0, none⟩) 0 0 := ⟨_, rfl⟩
        rw [← hv52] at HSh ⊢
        rw [← hv52] at HNE
        generalize cw.alloc (.cells #[] 47) = cw at *
        clear e0 hz0 hv52
        refine hKc.out _ _ ?_ (fun hHeld => ?_)
        · (try dsimp only)
          exact HS.out _ HC.out
        clear hKc Kc
        try simp only [Act.put, List.setIfInBounds_toArray, List.set_cons_zero, List.set_cons_succ]
        refine ready_one 4 (by kernel_rfl) (by kernel_rfl) (by rfl) (fun Kc hKc => ?_)
        refine oper_appF (v := v52) _ _ rfl rfl HSh.out HC.out rfl (srcI_row HTk.out HC.out) (by simp only [List.length_nil, List.length_take]; omega) (fun v56 cz h1 h2 h3 => ?_)
        have HNb := Lib.hid ((h3.block B hBlt (fun e => HNE.out B e.symm rfl)).trans HNb.out)
        have hBlt : B < cz.heap.size := by have := h3.size; omega
        clear HNE
        have HSh := Lib.hid h1
        have HC := Lib.hid h2
        clear h1 h2 h3
        rw [List.nil_append] at HSh
        obtain ⟨cw, rfl⟩ : ∃ cw : World, cw = cz := ⟨_, rfl⟩
        go_simp
        refine hKc.out _ _ ?_ (fun hHeld => ?_)
        · (try dsimp only)
          exact HS.out _ HC.out
        clear hKc Kc
        try simp only [Act.put, List.setIfInBounds_toArray, List.set_cons_zero, List.set_cons_succ]
        refine ready_one 7 (by kernel_rfl) (by kernel_rfl) (by rfl) (fun Kc hKc => ?_)
        refine oper_appF (v := v56) _ _ rfl rfl HSh.out HC.out rfl (srcI_one (by have h := HNb.out; rw [HKx.out] at h; exact h) HXr.out HXw.out) (by simp only [List.length_singleton, List.length_take]; omega) (fun v59 cz h1 h2 h3 => ?_)
        have HSh := Lib.hid h1
        have HC := Lib.hid h2
        clear h1 h2 h3 HNb
        obtain ⟨cw, rfl⟩ : ∃ cw : World, cw = cz := ⟨_, rfl⟩
        go_simp
        refine hKc.out _ _ ?_ (fun hHeld => ?_)
        · (try dsimp only)
          exact HS.out _ HC.out
        clear hKc Kc
        try simp only [Act.put, List.setIfInBounds_toArray, List.set_cons_zero, List.set_cons_succ]
        refine ready_one 11 (by kernel_rfl) (by kernel_rfl) (by rfl) (fun Kc hKc => ?_)
        refine oper_appF (v := v59) _ _ rfl rfl HSh.out HC.out rfl (srcI_row HDk.out HC.out) (by simp only [List.length_append, List.length_singleton, List.length_take, List.length_drop]; omega) (fun v63 cz h1 h2 h3 => ?_)
        have HSh := Lib.hid h1
        have HC := Lib.hid h2
        clear h1 h2 h3
        obtain ⟨cw, rfl⟩ : ∃ cw : World, cw = cz := ⟨_, rfl⟩
        go_simp
        refine hKc.out _ _ ?_ (fun hHeld => ?_)
        · (try dsimp only)
          exact HS.out _ HC.out
        clear hKc Kc
        try simp only [Act.put, List.setIfInBounds_toArray, List.set_cons_zero, List.set_cons_succ]
        refine take_w 12 (some 10) (v := ?_) (by kernel_rfl) (by kernel_rfl) (by kernel_rfl) (by kernel_rfl) (by kernel_rfl) (fun _ _ _ h => h) (by rfl) ?_ (by assumption) ?_
        rotate_left
        · (intro w hSw; (try dsimp only at hSw); go_simp; try with_reducible rfl)
        try simp only [Act.put, List.setIfInBounds_toArray, List.set_cons_zero, List.set_cons_succ]
        refine wpAnyH_done (by kernel_rfl) ?_ _
        go_wp2_with fail
        go_meet
        case rel => exact ⟨_, rfl, Lib.hid ⟨HSh.out, HC.out⟩⟩
    case rest =>
    clear hup hfr HS hcv hla hrm hnz
    obtain ⟨vm, rfl, HCut⟩ := hcut
    obtain ⟨w5, rfl⟩ : ∃ w5 : World, w5 = wc := ⟨_, rfl⟩
    have HMw := Lib.hid (HCut.out.1.row HCut.out.2)
    obtain ⟨am, cm, rfl, hcm, -⟩ := HMw.out.slice
    have hml : (l.take G ++ [x] ++ l.drop G).length = l.length + 1 := by simp; omega
    rw [hml] at HMw hcm ⊢
    have HMq0 : Hid (fragB (l.take G ++ [x] ++ l.drop G) = ((true && itB x) && decide (((l.length + 1 : Nat) : Int) ≤ 40))) := Lib.hid (by rw [fragB_more, ← HEB.out])
    have HE5 := Lib.hid (HE4.out.trans HCut.out.2)
    have HB5 := Lib.hid (HB4.out.ext HCut.out.2)
    obtain ⟨M, hM⟩ : ∃ M, M = (l.take G ++ [x] ++ l.drop G) := ⟨_, rfl⟩
    rw [← hM] at HMw HMq0
    clear hml hM HCut HE4 HB4
    obtain ⟨p0, p1, p2, p3, p4, p5⟩ := HB5.out.six
    go_upto_region 13 with (fail)
    go_cut [11] from 64 to 74 (fun p w' => p = .bool (fragB M) ∧ Hid (Ext w5 w'))
    case first =>
      have hx1 := (Ext.refl w5).alloc (.cells #[.string (str x.name), .int .u8 K, .slice ax mx cx, .string (str x.over), .int .i64 x.width, .int .i64 x.quota] 47)
      have HR1 : Hid (itE.Row (w5.alloc (.cells #[.string (str x.name), .int .u8 K, .slice ax mx cx, .string (str x.over), .int .i64 x.width, .int .i64 x.quota] 47)) [x] (.slice (some ⟨w5.heap.size, 0, none⟩) 1 1)) := Lib.hid (by
        have h := heap_alloc_new w5 (.cells #[.string (str x.name), .int .u8 K, .slice ax mx cx, .string (str x.over), .int .i64 x.width, .int .i64 x.quota] 47)
        rw [HKx.out] at h
        have := row_one_it (x := x) _ h ((HXr.out.ext HE5.out).ext (by rw [← HKx.out]; exact hx1)) HXw.out
        rw [← HKx.out] at this
        exact this)
      go_wp2_with fail
      generalize w5.alloc (.cells #[.string (str x.name), .int .u8 K, .slice ax mx cx, .string (str x.over), .int .i64 x.width, .int .i64 x.quota] 47) = W1 at *
      refine (fright_any [x] W1 _ HR1.out).mono ?_
      rw [fragB_one]
      rintro e w6 ⟨rfl, hE6⟩
      have HC6 := Lib.hid (hx1.trans hE6)
      clear hx1 hE6 HR1 p0 p1 p2 p3 p4 p5
      cases hq : itB x with
      | false =>
        rw [hq] at HMq0
        clear hq
        go_wp2_with fail
        go_meet
        case rel => exact ⟨by rw [HMq0.out]; rfl, HC6⟩
      | true =>
        rw [hq] at HMq0
        clear hq
        by_cases h40 : ((l.length + 1 : Nat) : Int) ≤ 40
        · have h40' : (l.length : Int) + 1 ≤ 40 := by omega
          rw [decide_eq_true h40] at HMq0
          go_wp2_with fail
          go_meet
          case rel => exact ⟨by rw [HMq0.out]; rfl, HC6⟩
        · have h40' : ¬ (l.length : Int) + 1 ≤ 40 := by omega
          rw [decide_eq_false h40] at HMq0
          have hdf : decide ((l.length : Int) + 1 ≤ 40) = false := decide_eq_false h40'
          go_wp2_with fail
          go_meet
          case rel => exact ⟨by rw [HMq0.out]; first | rfl | (rw [hdf]; rfl), HC6⟩
    case rest =>
    obtain ⟨rfl, HC6⟩ := hcut
    clear p0 p1 p2 p3 p4 p5
    have HE6 := Lib.hid (HE5.out.trans HC6.out)
    have HB6 := HB5.out.ext HC6.out
    have HMw6 := HMw.out.ext HC6.out
    obtain ⟨p0, p1, p2, p3, p4, p5⟩ := HB6.six
    have hbl := HB6.lt
    generalize hq : fragB M = qm at *
    have HMq := Lib.hid hq
    have hB1 : BoxL ((wc.alloc (.cells #[.string (str x.name), .int .u8 0, .slice ax mx cx, .string { data := #[] }, .int .i64 0, .int .i64 x.quota] 47)).alloc (.cells #[.string (str x.name), .int .u8 1, .slice ax mx cx, .string { data := #[97] }, .int .i64 40, .int .i64 x.quota] 47)) wc.heap.size [.string (str x.name), .int .u8 0, .slice ax mx cx, .string { data := #[] }, .int .i64 0, .int .i64 x.quota] := (BoxL.new wc _ _).ext ((Ext.refl _).alloc _)
    have hB2 : BoxL ((wc.alloc (.cells #[.string (str x.name), .int .u8 0, .slice ax mx cx, .string { data := #[] }, .int .i64 0, .int .i64 x.quota] 47)).alloc (.cells #[.string (str x.name), .int .u8 1, .slice ax mx cx, .string { data := #[97] }, .int .i64 40, .int .i64 x.quota] 47)) (wc.heap.size + 1) [.string (str x.name), .int .u8 1, .slice ax mx cx, .string { data := #[97] }, .int .i64 40, .int .i64 x.quota] := by
      have := BoxL.new (wc.alloc (.cells #[.string (str x.name), .int .u8 0, .slice ax mx cx, .string { data := #[] }, .int .i64 0, .int .i64 x.quota] 47)) [.string (str x.name), .int .u8 1, .slice ax mx cx, .string { data := #[97] }, .int .i64 40, .int .i64 x.quota] 47
      rwa [show (wc.alloc (.cells #[.string (str x.name), .int .u8 0, .slice ax mx cx, .string { data := #[] }, .int .i64 0, .int .i64 x.quota] 47)).heap.size = wc.heap.size + 1 by simp] at this
    have hx7 : Ext wc ((wc.alloc (.cells #[.string (str x.name), .int .u8 0, .slice ax mx cx, .string { data := #[] }, .int .i64 0, .int .i64 x.quota] 47)).alloc (.cells #[.string (str x.name), .int .u8 1, .slice ax mx cx, .string { data := #[97] }, .int .i64 40, .int .i64 x.quota] 47)) := ((Ext.refl _).alloc _).alloc _
    clear hq HB6 HC6 HB5 HMw HMq0
    go_upto_region 16 with (fail)
    clear p0 p1 p2 p3 p4 p5
    generalize (wc.alloc (.cells #[.string (str x.name), .int .u8 0, .slice ax mx cx, .string { data := #[] }, .int .i64 0, .int .i64 x.quota] 47)).alloc (.cells #[.string (str x.name), .int .u8 1, .slice ax mx cx, .string { data := #[97] }, .int .i64 40, .int .i64 x.quota] 47) = w7 at *
    generalize wc.heap.size + 1 = B2 at *
    generalize wc.heap.size = B1 at *
    have HS : Hid (∀ w', Ext w7 w' → (w'.cell? ⟨B1, 0, none⟩ = some (.string (str x.name)) ∧ w'.cell? ⟨B1, 1, none⟩ = some (.int .u8 0) ∧ w'.cell? ⟨B1, 2, none⟩ = some (.slice ax mx cx) ∧ w'.cell? ⟨B1, 3, none⟩ = some (.string { data := #[] }) ∧ w'.cell? ⟨B1, 4, none⟩ = some (.int .i64 0) ∧ w'.cell? ⟨B1, 5, none⟩ = some (.int .i64 x.quota) ∧ w'.cell? ⟨B2, 0, none⟩ = some (.string (str x.name)) ∧ w'.cell? ⟨B2, 1, none⟩ = some (.int .u8 1) ∧ w'.cell? ⟨B2, 2, none⟩ = some (.slice ax mx cx) ∧ w'.cell? ⟨B2, 3, none⟩ = some (.string { data := #[97] }) ∧ w'.cell? ⟨B2, 4, none⟩ = some (.int .i64 40) ∧ w'.cell? ⟨B2, 5, none⟩ = some (.int .i64 x.quota))) := Lib.hid (fun w' h => by
      obtain ⟨a0, a1, a2, a3, a4, a5⟩ := (hB1.ext h).six
      obtain ⟨b0, b1, b2, b3, b4, b5⟩ := (hB2.ext h).six
      exact ⟨a0, a1, a2, a3, a4, a5, b0, b1, b2, b3, b4, b5⟩)
    have HC : Hid (Ext w7 w7.drew) := Lib.hid (Ext.refl w7).drew
    have HMr := Lib.hid ((HMw6.ext hx7).ext HC.out)
    have HEt := Lib.hid (HE6.out.trans hx7)
    have HXa := Lib.hid (HXr.out.ext HEt.out)
    obtain ⟨hw1, hw2, hw3, hw4⟩ := HXw.out
    have HTw : Hid (itWf ⟨x.name, 0, x.after, [], 0, x.quota⟩) := Lib.hid ⟨hw1, by simp, by unfold isI64; simp, hw4⟩
    have HUw : Hid (itWf ⟨x.name, 1, x.after, [97], 40, x.quota⟩) := Lib.hid ⟨hw1, by simp, by unfold isI64; simp, hw4⟩
    have hTq := fragB_one ⟨x.name, 0, x.after, [], 0, x.quota⟩
    have hUq := fragB_one ⟨x.name, 1, x.after, [97], 40, x.quota⟩
    rw [← itB_turned x] at hUq
    generalize itB ⟨x.name, 0, x.after, [], 0, x.quota⟩ = qt at *
    have HTq := Lib.hid hTq
    have HUq := Lib.hid hUq
    clear hw1 hw2 hw3 hw4 hTq hUq hB1 hB2 hx7 HMw6 HE6 HE5
    refine wp_region_held_drew (S := fun w' => w'.cell? ⟨B1, 0, none⟩ = some (.string (str x.name)) ∧ w'.cell? ⟨B1, 1, none⟩ = some (.int .u8 0) ∧ w'.cell? ⟨B1, 2, none⟩ = some (.slice ax mx cx) ∧ w'.cell? ⟨B1, 3, none⟩ = some (.string { data := #[] }) ∧ w'.cell? ⟨B1, 4, none⟩ = some (.int .i64 0) ∧ w'.cell? ⟨B1, 5, none⟩ = some (.int .i64 x.quota) ∧ w'.cell? ⟨B2, 0, none⟩ = some (.string (str x.name)) ∧ w'.cell? ⟨B2, 1, none⟩ = some (.int .u8 1) ∧ w'.cell? ⟨B2, 2, none⟩ = some (.slice ax mx cx) ∧ w'.cell? ⟨B2, 3, none⟩ = some (.string { data := #[97] }) ∧ w'.cell? ⟨B2, 4, none⟩ = some (.int .i64 40) ∧ w'.cell? ⟨B2, 5, none⟩ = some (.int .i64 x.quota)) (by kernel_rfl) ?_ (fun hHeld => ?_)
    · (try dsimp only)
      exact HS.out _ HC.out
    generalize w7.drew = cw at *
    refine take_w 0 (some 89) (v := ?_) (by kernel_rfl) (by kernel_rfl) (by kernel_rfl) (by kernel_rfl) (by kernel_rfl) (fun _ _ _ h => h) (by rfl) ?_ (by assumption) ?_
    rotate_left
    · (intro w hSw; (try dsimp only at hSw); go_simp; try with_reducible rfl)
    try simp only [Act.put, List.setIfInBounds_toArray, List.set_cons_zero, List.set_cons_succ]
    refine take_w 2 (some 91) (v := ?_) (by kernel_rfl) (by kernel_rfl) (by kernel_rfl) (by kernel_rfl) (by kernel_rfl) (fun _ _ _ h => h) (by rfl) ?_ (by assumption) ?_
    rotate_left
    · (intro w hSw; (try dsimp only at hSw); go_simp; try with_reducible rfl)
    try simp only [Act.put, List.setIfInBounds_toArray, List.set_cons_zero, List.set_cons_succ]
    refine ready_one 1 (by kernel_rfl) (by kernel_rfl) (by rfl) (fun Kc hKc => ?_)
    go_simp
    refine (fright_any _ cw _ HMr.out).mono ?_
    rw [HMq.out]
    rintro e cz ⟨rfl, hE⟩
    have HC := Lib.hid (HC.out.trans hE)
    clear hE
    obtain ⟨cw, rfl⟩ : ∃ cw : World, cw = cz := ⟨_, rfl⟩
    try go_wp2_with fail
    refine hKc.out _ _ ?_ (fun hHeld => ?_)
    · (try dsimp only)
      exact HS.out _ HC.out
    clear hKc Kc
    try simp only [Act.put, List.setIfInBounds_toArray, List.set_cons_zero, List.set_cons_succ]
    refine take_w 3 (some 92) (v := ?_) (by kernel_rfl) (by kernel_rfl) (by kernel_rfl) (by kernel_rfl) (by kernel_rfl) (fun _ _ _ h => h) (by rfl) ?_ (by assumption) ?_
    rotate_left
    · (intro w hSw; (try dsimp only at hSw); go_simp; try with_reducible rfl)
    try simp only [Act.put, List.setIfInBounds_toArray, List.set_cons_zero, List.set_cons_succ]
    refine take_w 4 (some 93) (v := ?_) (by kernel_rfl) (by kernel_rfl) (by kernel_rfl) (by kernel_rfl) (by kernel_rfl) (fun _ _ _ h => h) (by rfl) ?_ (by assumption) ?_
    rotate_left
    · (intro w hSw; (try dsimp only at hSw); go_simp; try with_reducible rfl)
    try simp only [Act.put, List.setIfInBounds_toArray, List.set_cons_zero, List.set_cons_succ]
    refine take_w 5 (some 94) (v := ?_) (by kernel_rfl) (by kernel_rfl) (by kernel_rfl) (by kernel_rfl) (by kernel_rfl) (fun _ _ _ h => h) (by rfl) ?_ (by assumption) ?_
    rotate_left
    · (intro w hSw; (try dsimp only at hSw); go_simp; try with_reducible rfl)
    try simp only [Act.put, List.setIfInBounds_toArray, List.set_cons_zero, List.set_cons_succ]
    refine take_w 8 (some 97) (v := ?_) (by kernel_rfl) (by kernel_rfl) (by kernel_rfl) (by kernel_rfl) (by kernel_rfl) (fun _ _ _ h => h) (by rfl) ?_ (by assumption) ?_
    rotate_left
    · (intro w hSw; (try dsimp only at hSw); go_simp; try with_reducible rfl)
    try simp only [Act.put, List.setIfInBounds_toArray, List.set_cons_zero, List.set_cons_succ]
    refine ready_two 6 9 (by kernel_rfl) (by kernel_rfl) (by kernel_rfl) (by rfl) (by rfl) (fun Kc hKc => ?_) (fun Kc hKc => ?_)
    · skip
      go_simp
      have e0 := (Ext.refl cw).alloc (.cells #[.string (str x.name), .int .u8 0, .slice ax mx cx, .string { data := #[] }, .int .i64 0, .int .i64 x.quota] 47)
      have HTr : Hid (itE.Row (cw.alloc (.cells #[.string (str x.name), .int .u8 0, .slice ax mx cx, .string { data := #[] }, .int .i64 0, .int .i64 x.quota] 47)) [⟨x.name, 0, x.after, [], 0, x.quota⟩] (.slice (some ⟨cw.heap.size, 0, none⟩) 1 1)) := Lib.hid (row_one_it (x := ⟨x.name, 0, x.after, [], 0, x.quota⟩) _ (heap_alloc_new cw (.cells #[.string (str x.name), .int .u8 0, .slice ax mx cx, .string { data := #[] }, .int .i64 0, .int .i64 x.quota] 47)) (HXa.out.ext (HC.out.trans e0)) HTw.out)
      have HC := Lib.hid (HC.out.trans e0)
      generalize cw.alloc (.cells #[.string (str x.name), .int .u8 0, .slice ax mx cx, .string { data := #[] }, .int .i64 0, .int .i64 x.quota] 47) = cw2 at *
      clear e0
      generalize cw.heap.size = D1 at *
      obtain ⟨cw, rfl⟩ : ∃ cw : World, cw = cw2 := ⟨_, rfl⟩
      refine hKc.out _ _ ?_ (fun hHeld => ?_)
      · (try dsimp only)
        exact HS.out _ HC.out
      clear hKc Kc
      try simp only [Act.put, List.setIfInBounds_toArray, List.set_cons_zero, List.set_cons_succ]
      refine ready_two 7 9 (by kernel_rfl) (by kernel_rfl) (by kernel_rfl) (by rfl) (by rfl) (fun Kc hKc => ?_) (fun Kc hKc => ?_)
      · skip
        go_simp
        refine (fright_any _ cw _ HTr.out).mono ?_
        rw [HTq.out]
        rintro e cz ⟨rfl, hE⟩
        have HC := Lib.hid (HC.out.trans hE)
        clear hE HTr
        obtain ⟨cw, rfl⟩ : ∃ cw : World, cw = cz := ⟨_, rfl⟩
        try go_wp2_with fail
        refine hKc.out _ _ ?_ (fun hHeld => ?_)
        · (try dsimp only)
          exact HS.out _ HC.out
        clear hKc Kc
        try simp only [Act.put, List.setIfInBounds_toArray, List.set_cons_zero, List.set_cons_succ]
        refine ready_one 9 (by kernel_rfl) (by kernel_rfl) (by rfl) (fun Kc hKc => ?_)
        go_simp
        have e0 := (Ext.refl cw).alloc (.cells #[.string (str x.name), .int .u8 1, .slice ax mx cx, .string { data := #[97] }, .int .i64 40, .int .i64 x.quota] 47)
        have HUr : Hid (itE.Row (cw.alloc (.cells #[.string (str x.name), .int .u8 1, .slice ax mx cx, .string { data := #[97] }, .int .i64 40, .int .i64 x.quota] 47)) [⟨x.name, 1, x.after, [97], 40, x.quota⟩] (.slice (some ⟨cw.heap.size, 0, none⟩) 1 1)) := Lib.hid (row_one_it (x := ⟨x.name, 1, x.after, [97], 40, x.quota⟩) _ (heap_alloc_new cw (.cells #[.string (str x.name), .int .u8 1, .slice ax mx cx, .string { data := #[97] }, .int .i64 40, .int .i64 x.quota] 47)) (HXa.out.ext (HC.out.trans e0)) HUw.out)
        have HC := Lib.hid (HC.out.trans e0)
        generalize cw.alloc (.cells #[.string (str x.name), .int .u8 1, .slice ax mx cx, .string { data := #[97] }, .int .i64 40, .int .i64 x.quota] 47) = cw2 at *
        clear e0
        generalize cw.heap.size = D2 at *
        obtain ⟨cw, rfl⟩ : ∃ cw : World, cw = cw2 := ⟨_, rfl⟩
        refine hKc.out _ _ ?_ (fun hHeld => ?_)
        · (try dsimp only)
          exact HS.out _ HC.out
        clear hKc Kc
        try simp only [Act.put, List.setIfInBounds_toArray, List.set_cons_zero, List.set_cons_succ]
        refine ready_one 10 (by kernel_rfl) (by kernel_rfl) (by rfl) (fun Kc hKc => ?_)
        go_simp
        refine (fright_any _ cw _ HUr.out).mono ?_
        rw [HUq.out]
        rintro e cz ⟨rfl, hE⟩
        have HC := Lib.hid (HC.out.trans hE)
        clear hE HUr
        obtain ⟨cw, rfl⟩ : ∃ cw : World, cw = cz := ⟨_, rfl⟩
        try go_wp2_with fail
        refine hKc.out _ _ ?_ (fun hHeld => ?_)
        · (try dsimp only)
          exact HS.out _ HC.out
        clear hKc Kc
        try simp only [Act.put, List.setIfInBounds_toArray, List.set_cons_zero, List.set_cons_succ]
        refine take_w 11 (some 100) (v := ?_) (by kernel_rfl) (by kernel_rfl) (by kernel_rfl) (by kernel_rfl) (by kernel_rfl) (fun _ _ _ h => h) (by rfl) ?_ (by assumption) ?_
        rotate_left
        · (intro w hSw; (try dsimp only at hSw); go_simp; try with_reducible rfl)
        try simp only [Act.put, List.setIfInBounds_toArray, List.set_cons_zero, List.set_cons_succ]
        refine take_w 12 (some 101) (v := ?_) (by kernel_rfl) (by kernel_rfl) (by kernel_rfl) (by kernel_rfl) (by kernel_rfl) (fun _ _ _ h => h) (by rfl) ?_ (by assumption) ?_
        rotate_left
        · (intro w hSw; (try dsimp only at hSw); go_simp; try with_reducible rfl)
        try simp only [Act.put, List.setIfInBounds_toArray, List.set_cons_zero, List.set_cons_succ]
        refine take_w 13 (some 102) (v := ?_) (by kernel_rfl) (by kernel_rfl) (by kernel_rfl) (by kernel_rfl) (by kernel_rfl) (fun _ _ _ h => h) (by rfl) ?_ (by assumption) ?_
        rotate_left
        · (intro w hSw; (try dsimp only at hSw); go_simp; try with_reducible rfl)
        try simp only [Act.put, List.setIfInBounds_toArray, List.set_cons_zero, List.set_cons_succ]
        refine ready_one 14 (by kernel_rfl) (by kernel_rfl) (by rfl) (fun Kc hKc => ?_)
        go_simp
        refine (awake09 _).mono ?_
        rintro e cz ⟨rfl, hE⟩
        have HC := Lib.hid (HC.out.trans hE)
        clear hE
        obtain ⟨cw, rfl⟩ : ∃ cw : World, cw = cz := ⟨_, rfl⟩
        try go_wp2_with fail
        refine hKc.out _ _ ?_ (fun hHeld => ?_)
        · (try dsimp only)
          exact HS.out _ HC.out
        clear hKc Kc
        try simp only [Act.put, List.setIfInBounds_toArray, List.set_cons_zero, List.set_cons_succ]
        refine take_w 15 (some 104) (v := ?_) (by kernel_rfl) (by kernel_rfl) (by kernel_rfl) (by kernel_rfl) (by kernel_rfl) (fun _ _ _ h => h) (by rfl) ?_ (by assumption) ?_
        rotate_left
        · (intro w hSw; (try dsimp only at hSw); go_simp; try with_reducible rfl)
        try simp only [Act.put, List.setIfInBounds_toArray, List.set_cons_zero, List.set_cons_succ]
        refine take_w 16 (some 6) (v := ?_) (by kernel_rfl) (by kernel_rfl) (by kernel_rfl) (by kernel_rfl) (by kernel_rfl) (fun _ _ _ h => h) (by rfl) ?_ (by assumption) ?_
        rotate_left
        · (intro w hSw; (try dsimp only at hSw); go_simp; try with_reducible rfl)
        try simp only [Act.put, List.setIfInBounds_toArray, List.set_cons_zero, List.set_cons_succ]
        refine wpAnyH_done (by kernel_rfl) ?_ _
        go_wp2
        go_ret
        exact ⟨rfl, HEt.out.trans HC.out⟩
      · skip
        go_simp
        have e0 := (Ext.refl cw).alloc (.cells #[.string (str x.name), .int .u8 1, .slice ax mx cx, .string { data := #[97] }, .int .i64 40, .int .i64 x.quota] 47)
        have HUr : Hid (itE.Row (cw.alloc (.cells #[.string (str x.name), .int .u8 1, .slice ax mx cx, .string { data := #[97] }, .int .i64 40, .int .i64 x.quota] 47)) [⟨x.name, 1, x.after, [97], 40, x.quota⟩] (.slice (some ⟨cw.heap.size, 0, none⟩) 1 1)) := Lib.hid (row_one_it (x := ⟨x.name, 1, x.after, [97], 40, x.quota⟩) _ (heap_alloc_new cw (.cells #[.string (str x.name), .int .u8 1, .slice ax mx cx, .string { data := #[97] }, .int .i64 40, .int .i64 x.quota] 47)) (HXa.out.ext (HC.out.trans e0)) HUw.out)
        have HTr := Lib.hid (HTr.out.ext e0)
        have HC := Lib.hid (HC.out.trans e0)
        generalize cw.alloc (.cells #[.string (str x.name), .int .u8 1, .slice ax mx cx, .string { data := #[97] }, .int .i64 40, .int .i64 x.quota] 47) = cw2 at *
        clear e0
        generalize cw.heap.size = D2 at *
        obtain ⟨cw, rfl⟩ : ∃ cw : World, cw = cw2 := ⟨_, rfl⟩
        refine hKc.out _ _ ?_ (fun hHeld => ?_)
        · (try dsimp only)
          exact HS.out _ HC.out
        clear hKc Kc
        try simp only [Act.put, List.setIfInBounds_toArray, List.set_cons_zero, List.set_cons_succ]
        refine ready_one 7 (by kernel_rfl) (by kernel_rfl) (by rfl) (fun Kc hKc => ?_)
        go_simp
        refine (fright_any _ cw _ HTr.out).mono ?_
        rw [HTq.out]
        rintro e cz ⟨rfl, hE⟩
        have HUr := Lib.hid (HUr.out.ext hE)
        have HC := Lib.hid (HC.out.trans hE)
        clear hE HTr
        obtain ⟨cw, rfl⟩ : ∃ cw : World, cw = cz := ⟨_, rfl⟩
        try go_wp2_with fail
        refine hKc.out _ _ ?_ (fun hHeld => ?_)
        · (try dsimp only)
          exact HS.out _ HC.out
        clear hKc Kc
        try simp only [Act.put, List.setIfInBounds_toArray, List.set_cons_zero, List.set_cons_succ]
        refine ready_one 10 (by kernel_rfl) (by kernel_rfl) (by rfl) (fun Kc hKc => ?_)
        go_simp
        refine (fright_any _ cw _ HUr.out).mono ?_
        rw [HUq.out]
        rintro e cz ⟨rfl, hE⟩
        have HC := Lib.hid (HC.out.trans hE)
        clear hE HUr
        obtain ⟨cw, rfl⟩ : ∃ cw : World, cw = cz := ⟨_, rfl⟩
        try go_wp2_with fail
        refine hKc.out _ _ ?_ (fun hHeld => ?_)
        · (try dsimp only)
          exact HS.out _ HC.out
        clear hKc Kc
        try simp only [Act.put, List.setIfInBounds_toArray, List.set_cons_zero, List.set_cons_succ]
        refine take_w 11 (some 100) (v := ?_) (by kernel_rfl) (by kernel_rfl) (by kernel_rfl) (by kernel_rfl) (by kernel_rfl) (fun _ _ _ h => h) (by rfl) ?_ (by assumption) ?_
        rotate_left
        · (intro w hSw; (try dsimp only at hSw); go_simp; try with_reducible rfl)
        try simp only [Act.put, List.setIfInBounds_toArray, List.set_cons_zero, List.set_cons_succ]
        refine take_w 12 (some 101) (v := ?_) (by kernel_rfl) (by kernel_rfl) (by kernel_rfl) (by kernel_rfl) (by kernel_rfl) (fun _ _ _ h => h) (by rfl) ?_ (by assumption) ?_
        rotate_left
        · (intro w hSw; (try dsimp only at hSw); go_simp; try with_reducible rfl)
        try simp only [Act.put, List.setIfInBounds_toArray, List.set_cons_zero, List.set_cons_succ]
        refine take_w 13 (some 102) (v := ?_) (by kernel_rfl) (by kernel_rfl) (by kernel_rfl) (by kernel_rfl) (by kernel_rfl) (fun _ _ _ h => h) (by rfl) ?_ (by assumption) ?_
        rotate_left
        · (intro w hSw; (try dsimp only at hSw); go_simp; try with_reducible rfl)
        try simp only [Act.put, List.setIfInBounds_toArray, List.set_cons_zero, List.set_cons_succ]
        refine ready_one 14 (by kernel_rfl) (by kernel_rfl) (by rfl) (fun Kc hKc => ?_)
        go_simp
        refine (awake09 _).mono ?_
        rintro e cz ⟨rfl, hE⟩
        have HC := Lib.hid (HC.out.trans hE)
        clear hE
        obtain ⟨cw, rfl⟩ : ∃ cw : World, cw = cz := ⟨_, rfl⟩
        try go_wp2_with fail
        refine hKc.out _ _ ?_ (fun hHeld => ?_)
        · (try dsimp only)
          exact HS.out _ HC.out
        clear hKc Kc
        try simp only [Act.put, List.setIfInBounds_toArray, List.set_cons_zero, List.set_cons_succ]
        refine take_w 15 (some 104) (v := ?_) (by kernel_rfl) (by kernel_rfl) (by kernel_rfl) (by kernel_rfl) (by kernel_rfl) (fun _ _ _ h => h) (by rfl) ?_ (by assumption) ?_
        rotate_left
        · (intro w hSw; (try dsimp only at hSw); go_simp; try with_reducible rfl)
        try simp only [Act.put, List.setIfInBounds_toArray, List.set_cons_zero, List.set_cons_succ]
        refine take_w 16 (some 6) (v := ?_) (by kernel_rfl) (by kernel_rfl) (by kernel_rfl) (by kernel_rfl) (by kernel_rfl) (fun _ _ _ h => h) (by rfl) ?_ (by assumption) ?_
        rotate_left
        · (intro w hSw; (try dsimp only at hSw); go_simp; try with_reducible rfl)
        try simp only [Act.put, List.setIfInBounds_toArray, List.set_cons_zero, List.set_cons_succ]
        refine wpAnyH_done (by kernel_rfl) ?_ _
        go_wp2
        go_ret
        exact ⟨rfl, HEt.out.trans HC.out⟩
    · skip
      go_simp
      have e0 := (Ext.refl cw).alloc (.cells #[.string (str x.name), .int .u8 1, .slice ax mx cx, .string { data := #[97] }, .int .i64 40, .int .i64 x.quota] 47)
      have HUr : Hid (itE.Row (cw.alloc (.cells #[.string (str x.name), .int .u8 1, .slice ax mx cx, .string { data := #[97] }, .int .i64 40, .int .i64 x.quota] 47)) [⟨x.name, 1, x.after, [97], 40, x.quota⟩] (.slice (some ⟨cw.heap.size, 0, none⟩) 1 1)) := Lib.hid (row_one_it (x := ⟨x.name, 1, x.after, [97], 40, x.quota⟩) _ (heap_alloc_new cw (.cells #[.string (str x.name), .int .u8 1, .slice ax mx cx, .string { data := #[97] }, .int .i64 40, .int .i64 x.quota] 47)) (HXa.out.ext (HC.out.trans e0)) HUw.out)
      have HC := Lib.hid (HC.out.trans e0)
      generalize cw.alloc (.cells #[.string (str x.name), .int .u8 1, .slice ax mx cx, .string { data := #[97] }, .int .i64 40, .int .i64 x.quota] 47) = cw2 at *
      clear e0
      generalize cw.heap.size = D2 at *
      obtain ⟨cw, rfl⟩ : ∃ cw : World, cw = cw2 := ⟨_, rfl⟩
      refine hKc.out _ _ ?_ (fun hHeld => ?_)
      · (try dsimp only)
        exact HS.out _ HC.out
      clear hKc Kc
      try simp only [Act.put, List.setIfInBounds_toArray, List.set_cons_zero, List.set_cons_succ]
      refine ready_one 6 (by kernel_rfl) (by kernel_rfl) (by rfl) (fun Kc hKc => ?_)
      go_simp
      have e0 := (Ext.refl cw).alloc (.cells #[.string (str x.name), .int .u8 0, .slice ax mx cx, .string { data := #[] }, .int .i64 0, .int .i64 x.quota] 47)
      have HTr : Hid (itE.Row (cw.alloc (.cells #[.string (str x.name), .int .u8 0, .slice ax mx cx, .string { data := #[] }, .int .i64 0, .int .i64 x.quota] 47)) [⟨x.name, 0, x.after, [], 0, x.quota⟩] (.slice (some ⟨cw.heap.size, 0, none⟩) 1 1)) := Lib.hid (row_one_it (x := ⟨x.name, 0, x.after, [], 0, x.quota⟩) _ (heap_alloc_new cw (.cells #[.string (str x.name), .int .u8 0, .slice ax mx cx, .string { data := #[] }, .int .i64 0, .int .i64 x.quota] 47)) (HXa.out.ext (HC.out.trans e0)) HTw.out)
      have HUr := Lib.hid (HUr.out.ext e0)
      have HC := Lib.hid (HC.out.trans e0)
      generalize cw.alloc (.cells #[.string (str x.name), .int .u8 0, .slice ax mx cx, .string { data := #[] }, .int .i64 0, .int .i64 x.quota] 47) = cw2 at *
      clear e0
      generalize cw.heap.size = D1 at *
      obtain ⟨cw, rfl⟩ : ∃ cw : World, cw = cw2 := ⟨_, rfl⟩
      refine hKc.out _ _ ?_ (fun hHeld => ?_)
      · (try dsimp only)
        exact HS.out _ HC.out
      clear hKc Kc
      try simp only [Act.put, List.setIfInBounds_toArray, List.set_cons_zero, List.set_cons_succ]
      refine ready_one 7 (by kernel_rfl) (by kernel_rfl) (by rfl) (fun Kc hKc => ?_)
      go_simp
      refine (fright_any _ cw _ HTr.out).mono ?_
      rw [HTq.out]
      rintro e cz ⟨rfl, hE⟩
      have HUr := Lib.hid (HUr.out.ext hE)
      have HC := Lib.hid (HC.out.trans hE)
      clear hE HTr
      obtain ⟨cw, rfl⟩ : ∃ cw : World, cw = cz := ⟨_, rfl⟩
      try go_wp2_with fail
      refine hKc.out _ _ ?_ (fun hHeld => ?_)
      · (try dsimp only)
        exact HS.out _ HC.out
      clear hKc Kc
      try simp only [Act.put, List.setIfInBounds_toArray, List.set_cons_zero, List.set_cons_succ]
      refine ready_one 10 (by kernel_rfl) (by kernel_rfl) (by rfl) (fun Kc hKc => ?_)
      go_simp
      refine (fright_any _ cw _ HUr.out).mono ?_
      rw [HUq.out]
      rintro e cz ⟨rfl, hE⟩
      have HC := Lib.hid (HC.out.trans hE)
      clear hE HUr
      obtain ⟨cw, rfl⟩ : ∃ cw : World, cw = cz := ⟨_, rfl⟩
      try go_wp2_with fail
      refine hKc.out _ _ ?_ (fun hHeld => ?_)
      · (try dsimp only)
        exact HS.out _ HC.out
      clear hKc Kc
      try simp only [Act.put, List.setIfInBounds_toArray, List.set_cons_zero, List.set_cons_succ]
      refine take_w 11 (some 100) (v := ?_) (by kernel_rfl) (by kernel_rfl) (by kernel_rfl) (by kernel_rfl) (by kernel_rfl) (fun _ _ _ h => h) (by rfl) ?_ (by assumption) ?_
      rotate_left
      · (intro w hSw; (try dsimp only at hSw); go_simp; try with_reducible rfl)
      try simp only [Act.put, List.setIfInBounds_toArray, List.set_cons_zero, List.set_cons_succ]
      refine take_w 12 (some 101) (v := ?_) (by kernel_rfl) (by kernel_rfl) (by kernel_rfl) (by kernel_rfl) (by kernel_rfl) (fun _ _ _ h => h) (by rfl) ?_ (by assumption) ?_
      rotate_left
      · (intro w hSw; (try dsimp only at hSw); go_simp; try with_reducible rfl)
      try simp only [Act.put, List.setIfInBounds_toArray, List.set_cons_zero, List.set_cons_succ]
      refine take_w 13 (some 102) (v := ?_) (by kernel_rfl) (by kernel_rfl) (by kernel_rfl) (by kernel_rfl) (by kernel_rfl) (fun _ _ _ h => h) (by rfl) ?_ (by assumption) ?_
      rotate_left
      · (intro w hSw; (try dsimp only at hSw); go_simp; try with_reducible rfl)
      try simp only [Act.put, List.setIfInBounds_toArray, List.set_cons_zero, List.set_cons_succ]
      refine ready_one 14 (by kernel_rfl) (by kernel_rfl) (by rfl) (fun Kc hKc => ?_)
      go_simp
      refine (awake09 _).mono ?_
      rintro e cz ⟨rfl, hE⟩
      have HC := Lib.hid (HC.out.trans hE)
      clear hE
      obtain ⟨cw, rfl⟩ : ∃ cw : World, cw = cz := ⟨_, rfl⟩
      try go_wp2_with fail
      refine hKc.out _ _ ?_ (fun hHeld => ?_)
      · (try dsimp only)
        exact HS.out _ HC.out
      clear hKc Kc
      try simp only [Act.put, List.setIfInBounds_toArray, List.set_cons_zero, List.set_cons_succ]
      refine take_w 15 (some 104) (v := ?_) (by kernel_rfl) (by kernel_rfl) (by kernel_rfl) (by kernel_rfl) (by kernel_rfl) (fun _ _ _ h => h) (by rfl) ?_ (by assumption) ?_
      rotate_left
      · (intro w hSw; (try dsimp only at hSw); go_simp; try with_reducible rfl)
      try simp only [Act.put, List.setIfInBounds_toArray, List.set_cons_zero, List.set_cons_succ]
      refine take_w 16 (some 6) (v := ?_) (by kernel_rfl) (by kernel_rfl) (by kernel_rfl) (by kernel_rfl) (by kernel_rfl) (fun _ _ _ h => h) (by rfl) ?_ (by assumption) ?_
      rotate_left
      · (intro w hSw; (try dsimp only at hSw); go_simp; try with_reducible rfl)
      try simp only [Act.put, List.setIfInBounds_toArray, List.set_cons_zero, List.set_cons_succ]
      refine wpAnyH_done (by kernel_rfl) ?_ _
      go_wp2
      go_ret
      exact ⟨rfl, HEt.out.trans HC.out⟩

end Go.Proofs.YtnbalamacpcanaaDoor
