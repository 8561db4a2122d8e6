/- Nodes in a row of one's own that share their slices: appends, slices of nodes. No walk is in it. -/
import Derived.Test.YtdienbcjfljjnaaDoorSnP
import Derived.Test.YtdienbcjfljjnaaDoorSnM
import Derived.Test.YtdienbcjfljjnaaDoorPlX
open Go.RowKit Go.Shelf
namespace Go.Proofs.YtdienbcjfljjnaaDoor
open Go Go.Proofs Fm

theorem infonodeW : (Tryd.prog.info? 47).map (fun i => (i.zero, i.size, i.bytes)) = some (some (.agg #[.string { data := #[] }, .string { data := #[] }, .int .u8 0, .int .i64 0, .int .i64 0, .int .i64 0, .slice none 0 0, .int .i64 0, .int .i64 0, .int .u8 0, .int .i64 0, .int .i64 0, .int .u8 0, .int .i64 0, .string { data := #[] }, .slice none 0 0]), 16, 184) := by kernel_rfl
theorem elemnodeW : ElemOf Tryd.prog 24 47 (.agg #[.string { data := #[] }, .string { data := #[] }, .int .u8 0, .int .i64 0, .int .i64 0, .int .i64 0, .slice none 0 0, .int .i64 0, .int .i64 0, .int .u8 0, .int .i64 0, .int .i64 0, .int .u8 0, .int .i64 0, .string { data := #[] }, .slice none 0 0]) 16 184 := ⟨Tryd.underlying24, infonodeW, rfl, by decide⟩
/-- Nodes that may be appended. -/
def SrcN (w0 w : World) (X : Value) (m : List Nd) : Prop :=
  ∃ cs : List (List Value), cs.length = m.length ∧ (∀ (i : Nat) (hi : i < m.length) (hc : i < cs.length), ShNd w0 m[i] cs[i]) ∧ Src Tryd.prog 16 24 X m.length cs.flatten w
theorem srcN_row {w0 w : World} {l : List Nd} {X : Value} (h : ndE.Row w0 l X) (hE : Ext w0 w) : SrcN w0 w X l := by
  obtain ⟨a, c, rfl, hc, -⟩ := h.slice
  by_cases h0 : l.length = 0
  · have hs0 : l = [] := List.eq_nil_of_length_eq_zero h0
    subst hs0
    refine ⟨[], rfl, fun i hi => by simp at hi, ?_⟩
    cases a with
    | none => exact Src.ofNil w Tryd.underlying24 c
    | some ad => exact Src.ofSlice w Tryd.underlying24 ad 0 c [] rfl (fun p u hu => by simp at hu) (fun u hu => by cases hu)
  · obtain ⟨b, off, hab, hb, -⟩ := nd_at h hE 0 (by omega)
    subst hab
    obtain ⟨cs, hcl, hcs⟩ := list_of_all (P := fun i C => ∃ hi : i < l.length, ShNd w0 l[i] C ∧ ∀ j u, C[j]? = some u → w.cell? ⟨b, off + (i * 16 + j), none⟩ = some u) l.length (fun i hi => by
      obtain ⟨b2, off2, hab2, -, aa, m, cc, k, N, s, d, h1, h2⟩ := nd_at h hE i hi
      injection hab2 with hab2
      injection hab2 with e1 e2
      subst e1 e2
      refine ⟨_, hi, ⟨aa, m, cc, k, N, s, d, rfl, h2, ?_⟩, h1⟩
      obtain ⟨kk, nn, ss, va, vm, vc, rfl, rfl, rfl, rfl⟩ := h2.four
      exact ndCells_one)
    have h16 : ∀ C, C ∈ cs → C.length = 16 := fun C hC => by
      obtain ⟨i, hi, rfl⟩ := List.getElem_of_mem hC
      obtain ⟨_, ⟨_, _, _, _, _, _, _, e, _⟩, _⟩ := hcs i hi
      rw [e]; rfl
    have hfl := flat16_all cs h16
    refine ⟨cs, hcl, fun i hi hc => (hcs i hc).2.1, Src.ofSlice w Tryd.underlying24 _ _ _ _ (by rw [hfl, hcl]) (fun p u hu => ?_) (fun u hu => ?_)⟩
    · have hj : p < cs.flatten.length := (List.getElem?_eq_some_iff.1 hu).1
      have hji : p / 16 < cs.length := by omega
      have e := flat16 cs (p / 16) (p % 16) hji h16 (Nat.mod_lt _ (by omega))
      rw [show p / 16 * 16 + p % 16 = p by omega] at e
      obtain ⟨_, _, hq⟩ := hcs (p / 16) hji
      have := hq (p % 16) u (by rw [← e]; exact hu)
      rw [show p / 16 * 16 + p % 16 = p by omega] at this
      rw [Addr.add_lit]
      exact this
    · obtain ⟨C, hC, huC⟩ := List.mem_flatten.1 hu
      obtain ⟨i, hi, rfl⟩ := List.getElem_of_mem hC
      obtain ⟨_, ⟨_, _, _, _, _, _, _, _, _, h⟩, _⟩ := hcs i hi
      exact h u huC
theorem srcN_one {w0 w : World} {n : Nd} {C : List Value} {b : Nat} {e : TypeId} {fr : Nat × Nat} (hb : w.heap[b]? = some (.cells C.toArray e fr)) (hd : ShNd w0 n C) : SrcN w0 w (.slice (some ⟨b, 0, none⟩) 1 1) [n] := by
  have hl := hd.cells
  obtain ⟨_, _, _, _, _, _, _, _, _, hone⟩ := id hd
  refine ⟨[C], rfl, fun i hi hc => ?_, ?_⟩
  · have : i = 0 := by simp at hi; omega
    subst this
    exact hd
  · have e : [C].flatten = C := by simp
    rw [e]
    refine Src.ofSlice w Tryd.underlying24 _ _ _ _ (by rw [hl]) (fun p u hu => ?_) hone
    rw [Addr.add_lit]
    simp only [World.cell?, hb]
    simpa using hu
theorem _root_.Fm.ShN.made {w0 w : World} {base : Nat} (hb : base ≤ w.heap.size) : ShN 47 w0 base (w.alloc (.cells #[] 47)) (.slice (some ⟨w.heap.size, 0, none⟩) 0 0) [] :=
  ⟨[], rfl, World.ownsRow_made w #[] 0 hb (by simp) rfl, fun i hi => by simp at hi⟩
theorem _root_.Fm.ShN.ext {eN : TypeId} {w0 w w' : World} {base : Nat} {v : Value} {l : List Nd} (h : ShN eN w0 base w v l) (hE : Ext w w') : ShN eN w0 base w' v l := by
  obtain ⟨cs, h1, h2, h3⟩ := h
  exact ⟨cs, h1, hE.own h2, h3⟩
theorem _root_.Fm.ShN.row {eN : TypeId} {w0 w : World} {base : Nat} {v : Value} {l : List Nd} (h : ShN eN w0 base w v l) (hE : Ext w0 w) : ndE.Row w l v := by
  obtain ⟨cs, h1, h2, h3⟩ := h
  exact ndRow_parts h1 h2 (fun i hi hc => ⟨(h3 i hi hc).cells, by
    obtain ⟨_, _, _, _, _, _, _, e, h, _⟩ := h3 i hi hc
    exact h.ext hE⟩)
theorem _root_.Fm.ShN.kept {eN : TypeId} {w0 w w' : World} {base : Nat} {v : Value} {l : List Nd} {row : Option Nat} (h : ShN eN w0 base w v l) (hg : w.grownBy w' row) (hr : ∀ b, row = some b → b < base) : ShN eN w0 base w' v l := by
  obtain ⟨cs, h1, h2, h3⟩ := h
  exact ⟨cs, h1, ownsRow_block h2 (fun b hb => hg.block b (h2.lt b hb).2 (fun e => by have := hr b e.symm; have := (h2.lt b hb).1; omega)), h3⟩
/-- append at an operation that comes up. -/
theorem oper_appN {w0 w : World} {base : Nat} {o : Oper} {a : Act} {K : Act → World → Prop} {Q : Exit → Act → World → Prop} (s x : Operand) (hop : o.op = Op.call { callee := Callee.builtin Builtin.append, args := #[s, x], argTypes := #[24, 24] })
    {v : Value} {l : List Nd} (hs : a.eval s = v) (h : ShN 47 w0 base w v l) (hbw : base ≤ w.heap.size) {X : Value} {m : List Nd} (hx : a.eval x = X) (hm : SrcN w0 w X m) (hlen : l.length + m.length ≤ 1000)
    (hK : ∀ v' w', ShN 47 w0 base w' v' (l ++ m) → w.grownBy w' v.ownBlock → K (a.put o.dst v') w') : Oper.wp Tryd.prog o a w K Q := by
  obtain ⟨cs, h1, h2, h3⟩ := h
  obtain ⟨es, g1, g2, g3⟩ := hm
  have hb : (l.length + m.length) * 184 ≤ 1000 * 184 := Nat.mul_le_mul_right _ hlen
  obtain ⟨v', w', hrun, r1, r2, r3⟩ := run_append_src_at w elemnodeW 24 o.type base v l.length cs.flatten h2 X m.length es.flatten g3 (by unfold maxLen; omega) (by omega) hbw
  unfold Oper.wp
  simp [execOp, hop, resolve, invoke, builtin, hs, hx, hrun, Result.andThen]
  refine hK v' w' ⟨cs ++ es, by simp [h1, g1], by rw [List.flatten_append, List.length_append]; exact r1, fun i hi hd => ?_⟩ r2
  by_cases hil : i < l.length
  · have hid : i < cs.length := by omega
    rw [List.getElem_append_left hil, List.getElem_append_left hid]; exact h3 i hil hid
  · have hi' : i - l.length < m.length := by rw [List.length_append] at hi; omega
    have e1 : (l ++ m)[i] = m[i - l.length] := List.getElem_append_right (by omega)
    have e2 : (cs ++ es)[i] = es[i - l.length]'(by omega) := by rw [List.getElem_append_right (by omega)]; simp [h1]
    rw [e1, e2]; exact g2 _ hi' (by omega)
theorem sizeof_nodeW : ∀ w, (sizeOf (Tryd.prog.elem 24)).run Tryd.prog w = .ok 16 w := fun _ => by kernel_rfl
theorem slice_nd_from (a : Option Addr) (len cap k : Nat) (h1 : k ≤ len) (w : World) :
    (Instr.slice 24 (.slice a len cap) (some (.int .i64 (k : Int))) none none).run Tryd.prog w = .ok (.slice (if cap = k then a else a.map (·.add (k * 16))) (len - k) (cap - k)) w := by
  rw [run_slice_l (ht := by kernel_rfl) (h0 := by omega) (h1 := by omega), sizeof_nodeW]
  simp [Result.andThen, sliced]
theorem slice_nd_upto (a : Option Addr) (len cap k : Nat) (h1 : k ≤ cap) (w : World) :
    (Instr.slice 24 (.slice a len cap) none (some (.int .i64 (k : Int))) none).run Tryd.prog w = .ok (.slice a k cap) w := by
  rw [run_slice_h (ht := by kernel_rfl) (h0 := by omega) (h2 := by omega), sizeof_nodeW]
  cases a <;> simp [Result.andThen, sliced, Addr.add]
theorem slice_nd_one (a : Option Addr) (len cap k : Nat) (h1 : k + 1 ≤ cap) (w : World) :
    (Instr.slice 24 (.slice a len cap) (some (.int .i64 (k : Int))) (some (.int .i64 ((k : Int) + 1))) none).run Tryd.prog w = .ok (.slice (if cap = k then a else a.map (·.add (k * 16))) 1 (cap - k)) w := by
  rw [run_slice_lh (ht := by kernel_rfl) (h0 := by omega) (h1 := by omega) (h2 := by omega), sizeof_nodeW]
  have e : ((k : Int) + 1).toNat = k + 1 := by omega
  simp [Result.andThen, sliced, e]
theorem row_nd_one {w : World} {l : List Nd} {a : Option Addr} {n cap : Nat} (h : ndE.Row w l (.slice a n cap)) {k : Nat} (hk : k < l.length) : ndE.Row w [l[k]] (.slice (if cap = k then a else a.map (·.add (k * 16))) 1 (cap - k)) := by
  have h1 := (h.drop (k := k) (by omega)).take (k := 1) (by simp; omega)
  have e : (l.drop k).take 1 = [l[k]] := by rw [List.drop_eq_getElem_cons hk]; rfl
  rw [e] at h1
  exact h1
/-! ### plain -/
/-- A state of some nodes alone. -/
def snOf (l : List Nd) : Sn := ⟨0, 0, 0, 0, 0, 0, l, 0⟩
theorem snB_one (n : Nd) : snB (snOf [n]) = ndB n := by
  unfold snB snOf nH
  simp [fitB, fH, inB]
theorem snB_split (s : Sn) (h : s.nodes.length ≤ 60) : snB s = (snB { s with nodes := [] } && s.nodes.all ndB) := by
  have h1 : decide (s.nodes.length ≤ 4800) = true := decide_eq_true (by omega)
  unfold snB
  rw [h1]
  simp [nH]
theorem snB_more (s : Sn) (n : Nd) (k : Nat) (h : s.nodes.length ≤ 60) : snB { s with nodes := s.nodes.take k ++ [n] ++ s.nodes.drop k } = (snB s && ndB n) := by
  have e : s.nodes.all ndB = ((s.nodes.take k).all ndB && (s.nodes.drop k).all ndB) := by rw [← List.all_append, List.take_append_drop]
  have hn : (s.nodes.take k ++ [n] ++ s.nodes.drop k).length = s.nodes.length + 1 := by simp; omega
  have h1 : decide (s.nodes.length ≤ 4800) = true := decide_eq_true (by omega)
  have h2 : decide (s.nodes.length + 1 ≤ 4800) = true := decide_eq_true (by omega)
  unfold snB
  rw [hn, h1, h2, e, List.all_append, List.all_append]
  simp only [nH, List.all_cons, List.all_nil, Bool.and_true]
  cases (s.nodes.take k).all ndB <;> cases (s.nodes.drop k).all ndB <;> cases ndB n <;> simp
theorem _root_.Fm.ShNd.of {w : World} {n : Nd} {v : Value} (h : NdV w n v) : ∃ C : List Value, v = .agg C.toArray ∧ ShNd w n C := by
  obtain ⟨a, m, c, k, N, s, l, rfl, h1, h2, h3⟩ := h
  have hv : NdV w n (.agg (ndCells n (.slice a m c) k N s l).toArray) := ⟨a, m, c, k, N, s, l, rfl, h1, h2, h3⟩
  obtain ⟨kk, nn, ss, va, vm, vc, rfl, rfl, rfl, rfl⟩ := hv.four
  exact ⟨_, rfl, a, m, c, _, _, _, _, rfl, hv, ndCells_one⟩
/-- One node in a block of its own. -/
theorem row_one_nd {w0 w : World} {n : Nd} {C : List Value} (hd : ShNd w0 n C) (hE : Ext w0 w) : ndE.Row (w.alloc (.cells C.toArray 47)) [n] (.slice (some ⟨w.heap.size, 0, none⟩) 1 1) := by
  have hE1 := hE.alloc (.cells C.toArray 47)
  obtain ⟨a, m, c, k, N, s, d, rfl, hv, hone⟩ := hd
  have hv := hv.ext hE1
  refine Elem.Row.mk rfl (Nat.le_refl _) (by unfold maxLen; simp) (by simp) (fun i hi => ?_)
  obtain rfl : i = 0 := by simp at hi; omega
  obtain ⟨a', m', c', k', N', s', x, e, k1, k2, k3⟩ := hv
  injection e with e
  have e := congrArg Array.toList e
  simp only [ndCells, List.cons.injEq, and_true, Value.slice.injEq] at e
  obtain ⟨-, -, -, -, -, -, ⟨rfl, rfl, rfl⟩, -, -, -, -, -, rfl, rfl, rfl, rfl⟩ := e
  refine ⟨fun j => (ndCells n (.slice a m c) k N s d).getD j .nilFunc, ⟨⟨rfl, rfl, rfl, rfl, rfl, rfl⟩, k1, ⟨rfl, rfl, rfl, rfl, rfl⟩, k2, k3⟩, fun j hj => ?_⟩
  have hj16 : j < 16 := hj
  have hb := (BoxL.new w (ndCells n (.slice a m c) k N s d) 47).cell j ((ndCells n (.slice a m c) k N s d).getD j .nilFunc) (by rw [List.getD_eq_getElem?_getD, List.getElem?_eq_getElem (by exact hj16)]; rfl)
  show (w.alloc (.cells (ndCells n (.slice a m c) k N s d).toArray 47)).cell? ⟨w.heap.size, 0 + (0 * 16 + j), none⟩ = _
  rw [show 0 + (0 * 16 + j) = j by omega]
  exact hb
theorem list16 {C : List Value} (h : C.length = 16) : ∃ c0 c1 c2 c3 c4 c5 c6 c7 c8 c9 c10 c11 c12 c13 c14 c15, C = [c0, c1, c2, c3, c4, c5, c6, c7, c8, c9, c10, c11, c12, c13, c14, c15] := by
  match C, h with
  | [c0, c1, c2, c3, c4, c5, c6, c7, c8, c9, c10, c11, c12, c13, c14, c15], _ => exact ⟨c0, c1, c2, c3, c4, c5, c6, c7, c8, c9, c10, c11, c12, c13, c14, c15, rfl⟩
/-- A slice literal of one node. -/
theorem fill_one (z : Array Value) {C : List Value} (h : C.length = 16) : Instr.fill (fun i => some (i * 16, 16)) ((Array.range (1 * 16)).map (z[· % z.size]!)) [(0, .agg C.toArray)] = some C.toArray := by
  obtain ⟨c0, c1, c2, c3, c4, c5, c6, c7, c8, c9, c10, c11, c12, c13, c14, c15, rfl⟩ := list16 h
  have e : ∀ X : Array Value, X.size = 16 → Instr.fill (fun i => some (i * 16, 16)) X [(0, .agg #[c0, c1, c2, c3, c4, c5, c6, c7, c8, c9, c10, c11, c12, c13, c14, c15])] = some #[c0, c1, c2, c3, c4, c5, c6, c7, c8, c9, c10, c11, c12, c13, c14, c15] := by
    intro X hX
    obtain ⟨x0, x1, x2, x3, x4, x5, x6, x7, x8, x9, x10, x11, x12, x13, x14, x15, hx⟩ := list16 (C := X.toList) (by simpa using hX)
    obtain rfl : X = #[x0, x1, x2, x3, x4, x5, x6, x7, x8, x9, x10, x11, x12, x13, x14, x15] := by rw [← hx]
    simp [Instr.fill, Value.cells, List.zipIdx]
  exact e _ (by simp)
theorem snOf_v {w : World} {l : List Nd} {a : Option Addr} {m c : Nat} (h : ndE.Row w l (.slice a m c)) : SnV w (snOf l) (.agg #[.int .i64 0, .int .i64 0, .int .i64 0, .int .i64 0, .int .i64 0, .int .i64 0, .slice a m c, .int .i64 0]) := by
  obtain ⟨h1, h2, h3, h4, h5, h6, h7, _⟩ := snZ_wf
  exact ⟨a, m, c, rfl, h, h1, h2, h3, h4, h5, h6, h7⟩
theorem foldl16 {C : List Value} (h : C.length = 16) (z0 z1 z2 z3 z4 z5 z6 z7 z8 z9 z10 z11 z12 z13 z14 z15 : Value) : List.foldl (fun (cs : Array Value) (x : Value × Nat) => cs.setIfInBounds x.snd x.fst) #[z0, z1, z2, z3, z4, z5, z6, z7, z8, z9, z10, z11, z12, z13, z14, z15] C.zipIdx = C.toArray := by
  obtain ⟨c0, c1, c2, c3, c4, c5, c6, c7, c8, c9, c10, c11, c12, c13, c14, c15, rfl⟩ := list16 h
  simp [List.zipIdx]
theorem srcN_box {w0 w : World} {n : Nd} {C : List Value} {b : Nat} (hb : BoxL w b C) (hd : ShNd w0 n C) : SrcN w0 w (.slice (some ⟨b, 0, none⟩) 1 1) [n] := by
  have hl := hd.cells
  obtain ⟨_, _, _, _, _, _, _, _, _, hone⟩ := id hd
  refine ⟨[C], rfl, fun i hi hc => ?_, ?_⟩
  · have : i = 0 := by simp at hi; omega
    subst this
    exact hd
  · have e : [C].flatten = C := by simp
    rw [e]
    refine Src.ofSlice w Tryd.underlying24 _ _ _ _ (by rw [hl]) (fun p u hu => ?_) hone
    rw [Addr.add_lit, Nat.zero_add]
    exact hb.cell p u hu
theorem _root_.Fm.ShN.low {eN : TypeId} {w0 w : World} {base : Nat} {v : Value} {l : List Nd} (h : ShN eN w0 base w v l) (b : Nat) (hb : v.ownBlock = some b) : base ≤ b ∧ b < w.heap.size := by
  obtain ⟨cs, h1, h2, h3⟩ := h
  exact h2.lt b hb
end Go.Proofs.YtdienbcjfljjnaaDoor
