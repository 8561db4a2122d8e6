/- slices.Grow at []byte out of the shelf; slices.Concat at []byte; rows of bytes. -/
import Derived.Shelf.Spec.SlicesGrow
import Derived.Test.YtdienbcjfljjnaaDoorPlF
import Derived.Test.YtdienbcjfljjnaaDoorWireC
open Go.RowKit Go.Shelf
namespace Go.Proofs
def Tryd.growB_ren : Go.Shelf.Ren := ⟨fun | 4 => 72 | n => n, fun | 22 => 27 | 25 => 5 | 0 => 0 | 3 => 3 | 4 => 4 | 9 => 9 | 20 => 20 | n => n, fun | n => n⟩
theorem Tryd.growB : Lays8.n4 Tryd.prog Tryd.growB_ren := {
  mixed := by kernel_rfl
  f4 := ⟨Tryd.f72.name, by kernel_rfl, Tryd.func72.trans (congrArg some (by kernel_rfl))⟩
  t0 := Tryd.underlying0
  a0 := Tryd.isAgg0
  z0 := Tryd.sizeOf0
  v0 := Tryd.zeroValue0
  t3 := Tryd.underlying3
  a3 := Tryd.isAgg3
  z3 := Tryd.sizeOf3
  v3 := Tryd.zeroValue3
  t4 := Tryd.underlying4
  a4 := Tryd.isAgg4
  z4 := Tryd.sizeOf4
  v4 := Tryd.zeroValue4
  t9 := Tryd.underlying9
  a9 := Tryd.isAgg9
  z9 := Tryd.sizeOf9
  v9 := Tryd.zeroValue9
  t20 := Tryd.underlying20
  a20 := Tryd.isAgg20
  z20 := Tryd.sizeOf20
  v20 := Tryd.zeroValue20
  t22 := Tryd.underlying27
  a22 := Tryd.isAgg27
  z22 := Tryd.sizeOf27
  v22 := Tryd.zeroValue27 }
end Go.Proofs
namespace Go.Proofs.YtdienbcjfljjnaaDoor
open Go Go.Proofs Fm

/-- Nothing, with room for n. -/
theorem grow_any (n : Nat) (w : World) (hn : n ≤ 1000000000) :
    Calls Tryd.prog 72 #[.slice none 0 0, .int .i64 n] w fun e w' => ∃ v, e = .returned v ∧ OwnB w.heap.size w' v [] ∧ Ext w w' := by
  by_cases h0 : n = 0
  · subst h0
    refine (Any8.slices_Grow_room Tryd.growB none 0 0 0 w (by omega) (by omega) (by omega) (by omega)).mono ?_
    rintro e w1 ⟨rfl, rfl⟩
    exact ⟨_, rfl, OwnB.nil _ _, Ext.refl _⟩
  · obtain ⟨hi0, hi1⟩ : (∃ i, Tryd.prog.info? 5 = some i ∧ i.zero = some (.int .u8 0) ∧ i.size = 1 ∧ i.bytes = 1) ∧ True := by
      have h := elem_u8.info
      obtain ⟨i, h1, h2, h3, h4⟩ := info_parts h
      exact ⟨⟨i, h1, h2, h3, h4⟩, trivial⟩
    obtain ⟨i, h1, h2, h3, h4⟩ := hi0
    refine (Any8.slices_Grow_grow Tryd.growB i (.int .u8 0) h1 h2 (by omega) none 0 0 n [] w (by omega) (by omega) (by rw [h4]; omega) (by omega) (by simp) (fun _ => rfl) (fun a h => by cases h)).mono ?_
    rintro e w1 ⟨rfl, rfl⟩
    refine ⟨_, rfl, ?_, (Ext.refl w).drew.alloc _⟩
    refine ⟨rfl, .inr ⟨w.heap.size, _, _, rfl, Nat.le_refl _, heap_alloc_new w.drew _, Nat.zero_le _, grownCap_le_maxLen w (0 + n) 0 _ (by unfold maxLen; omega), ?_, ?_⟩⟩
    · have := grownCap_ge w (0 + n) 0 5
      simp only [Array.size_append, size_zeroCells]
      show 0 + (0 + n - 0) * 1 + (grownCap w (0 + n) 0 5 - (0 + n)) * 1 = grownCap w (0 + n) 0 5 * 1
      omega
    · simp

/-! ### rows of bytes -/
def _root_.Fm.bysE : Elem (List UInt8) where
  sz := 1
  R w x c := Bytes w (c 0) x
  ext hx h := h.ext hx
  loc hc h := by rw [← hc 0 (by omega)]; exact h
theorem bys_at {w wr : World} {l : List (List UInt8)} {a : Option Addr} {n cap : Nat} (h : bysE.Row w l (.slice a n cap)) (hE : Ext w wr) (i : Nat) (hi : i < l.length) :
    ∃ (b off : Nat), a = some ⟨b, off, none⟩ ∧ b < w.heap.size ∧ ∃ (aa : Option Addr) (cc : Nat), wr.cell? ⟨b, off + i, none⟩ = some (.slice aa l[i].length cc) ∧ Bytes w (.slice aa l[i].length cc) l[i] := by
  obtain ⟨hn, b, off, ha, hb, hc⟩ := h.at (by omega)
  obtain ⟨c, r0, hcell⟩ := hc i hi
  have r0 : Bytes w (c 0) l[i] := r0
  obtain ⟨aa, cc, e, -⟩ := id r0
  refine ⟨b, off, ha, hb, aa, cc, ?_, by rw [← e]; exact r0⟩
  have := hcell 0 (by decide) wr hE
  rw [e] at this
  have e2 : i * bysE.sz + 0 = i := by show i * 1 + 0 = i; omega
  rw [e2] at this
  exact this
theorem flatten_at (l : List (List UInt8)) (i : Nat) (hi : i < l.length) : (l.take (i + 1)).flatten = (l.take i).flatten ++ l[i] := by
  rw [List.take_add_one, List.getElem?_eq_getElem hi, Option.toList_some, List.flatten_append, List.flatten_cons, List.flatten_nil, List.append_nil]
theorem flatten_le (l : List (List UInt8)) (i : Nat) : (l.take i).flatten.length ≤ l.flatten.length := by
  have : l.flatten = (l.take i).flatten ++ (l.drop i).flatten := by rw [← List.flatten_append, List.take_append_drop]
  rw [this, List.length_append]; omega

set_option maxRecDepth 100000 in
set_option maxHeartbeats 4000000 in
theorem concat_any (ls : List (List UInt8)) (w : World) (v : Value) (h : bysE.Row w ls v) (hs : ls.flatten.length ≤ 1000000000) :
    Calls Tryd.prog 35 #[v] w (RetBytes w ls.flatten) := by
  obtain ⟨a, cap, rfl, h1, h2⟩ := h.slice
  have HR := Lib.hid h
  have hll : ls.length ≤ 9223372036854775807 := by omega
  clear h h1 h2
  go_enter Tryd.func35, Tryd.ntmps35
  go_wp2_with fail
  go_loop [3, 11] (fun s i => ∃ j : Nat, j ≤ ls.length ∧ i = .int .i64 j ∧ s = .int .i64 ((ls.take j).flatten.length : Nat)) (fun _ i => ls.length - (intOf i).toNat)
  case atStart => exact ⟨0, by omega, rfl, by simp⟩
  case round =>
    obtain ⟨j, hj, rfl, rfl⟩ := hrel
    by_cases hlt : j < ls.length
    · obtain ⟨b, off, rfl, hb, aa, cc, c0, hx⟩ := bys_at HR.out (Ext.refl w) j hlt
      have hl1 := flatten_le ls (j + 1)
      have HA := Lib.hid (flatten_at ls j hlt)
      have hl2 : (ls.take j).flatten.length + ls[j].length ≤ 1000000000 := by rw [HA.out, List.length_append] at hl1; omega
      have HS : Hid (((ls.take (j + 1)).flatten.length : Int) = ((ls.take j).flatten.length : Int) + (ls[j].length : Int)) := Lib.hid (by rw [HA.out, List.length_append]; omega)
      clear hx hl1
      generalize (ls.take j).flatten.length = X at *
      generalize ls[j].length = Y at *
      have hw : ¬ ((X : Int) + (Y : Int) < 0) := by omega
      go_wp2_with fail
      go_round
      case rel => exact ⟨j + 1, by omega, by go_num, by rw [HS.out]⟩
      case measure => simp [intOf]; omega
    · have hjn : j = ls.length := by omega
      obtain ⟨T, hT⟩ : ∃ T, T = ls.flatten.length := ⟨_, rfl⟩
      have HL : Hid ((ls.take j).flatten.length = T) := Lib.hid (by rw [hjn, List.take_length, hT])
      have hsT : T ≤ 1000000000 := by omega
      rw [HL.out]
      clear hjn hT
      go_wp2_with fail
      refine (grow_any T w hsT).mono ?_
      rintro e w1 ⟨v1, rfl, o1, hE1⟩
      have HO1 := Lib.hid o1
      have HE1 := Lib.hid hE1
      clear o1 hE1 HL
      go_wp2_with fail
      go_loopw [6, 27] (fun o i wr => ∃ k : Nat, k ≤ ls.length ∧ i = .int .i64 k ∧ Hid (OwnB w.heap.size wr o ((ls.take k).flatten)) ∧ Hid (Ext w wr)) (fun _ i _ => ls.length - (intOf i).toNat)
      case atStart => exact ⟨0, by omega, rfl, Lib.hid (by simpa using HO1.out), HE1⟩
      case round =>
        clear HO1 HE1
        obtain ⟨k, hk, rfl, HO, HE⟩ := hrel
        by_cases hkl : k < ls.length
        · obtain ⟨b, off, rfl, hb, aa, cc, c0, hx⟩ := bys_at HR.out HE.out k hkl
          have HX := Lib.hid (hx.ext HE.out)
          have HA := Lib.hid (flatten_at ls k hkl)
          have hl1 := flatten_le ls (k + 1)
          have hl2 : (ls.take k).flatten.length + ls[k].length ≤ 1000000000 := by rw [HA.out, List.length_append] at hl1; omega
          have hk0 : (0 : Int) ≤ (k : Int) := by omega
          have hzz := HE.out.size
          clear hx hl1
          go_wp2_with (at_builtin; refine appB rfl _ _ rfl rfl HO.out rfl HX.out (by omega) hzz ?_)
          intro v2 w2 o2 _ B2
          rw [← HA.out] at o2
          have HO2 := Lib.hid o2
          have HE2 := Lib.hid (HE.out.then B2)
          clear o2 B2 HO HE HX c0
          go_wp2
          go_roundw
          case rel => exact ⟨k + 1, by omega, by go_num, HO2, HE2⟩
          case measure => simp [intOf]; omega
        · have hkn : k = ls.length := by omega
          have hQ : ∃ vr, vr = u6 ∧ RetBytes w ls.flatten (.returned vr) wr := ⟨u6, rfl, u6, rfl, by have := HO.out; rw [hkn, List.take_length] at this; exact ⟨this, HE.out⟩⟩
          obtain ⟨vr, rfl, hQ⟩ := hQ
          clear HO HE hkn
          go_wp2
          go_ret
          exact hQ

/-! ### a row of bytes of one's own -/
def OwnBs (base : Nat) (w : World) (v : Value) (ls : List (List UInt8)) : Prop :=
  ∃ ds : List Value, ds.length = ls.length ∧ w.ownsRow base 27 1 v ls.length ds ∧
    ∀ (i : Nat) (hi : i < ls.length) (hd : i < ds.length), OwnB base w ds[i] ls[i] ∧ ∀ b, ds[i].ownBlock = some b → v.ownBlock ≠ some b
theorem OwnBs.nil (base : Nat) (w : World) : OwnBs base w (.slice none 0 0) [] := ⟨[], rfl, World.ownsRow_nil w base _ 1, fun i hi => by simp at hi⟩
theorem OwnBs.ext {base : Nat} {w w' : World} {v : Value} {ls : List (List UInt8)} (h : OwnBs base w v ls) (hE : Ext w w') : OwnBs base w' v ls := by
  obtain ⟨ds, h1, h2, h3⟩ := h
  exact ⟨ds, h1, hE.own h2, fun i hi hd => ⟨(h3 i hi hd).1.ext hE, (h3 i hi hd).2⟩⟩
theorem OwnBs.row {base : Nat} {w : World} {v : Value} {ls : List (List UInt8)} (h : OwnBs base w v ls) : bysE.Row w ls v := by
  obtain ⟨ds, h1, h2, h3⟩ := h
  have hc := fun g => World.ownsRow.cells h2 (g := g)
  rcases h2.2 with ⟨rfl, h0⟩ | ⟨g, cap, cur, rfl, hb, hg, hl, hm, h5, h6⟩
  · have : ls = [] := List.eq_nil_of_length_eq_zero h0
    subst this
    exact Elem.Row.void bysE w none
  · refine Elem.Row.mk rfl hl hm (Array.getElem?_eq_some_iff.1 hg).1 (fun i hi => ?_)
    have hd : i < ds.length := by omega
    refine ⟨fun _ => ds[i], (h3 i hi hd).1.bytes, fun j hj => ?_⟩
    have hj0 : j = 0 := by have : j < 1 := hj; omega
    subst hj0
    have := hc g rfl i ds[i] (List.getElem?_eq_getElem hd)
    rw [Addr.add_lit] at this
    show w.cell? ⟨g, 0 + (i * 1 + 0), none⟩ = some ds[i]
    rw [show 0 + (i * 1 + 0) = 0 + i by omega]
    exact this
theorem OwnBs.row_lt {base : Nat} {w : World} {v : Value} {ls : List (List UInt8)} (h : OwnBs base w v ls) (b : Nat) (hb : v.ownBlock = some b) : b < w.heap.size := by
  obtain ⟨ds, h1, h2, h3⟩ := h
  exact (World.ownsRow.lt h2 b hb).2
theorem OwnBs.snoc {base : Nat} {w w' : World} {v v' d : Value} {ls : List (List UInt8)} {ds : List Value} {y : List UInt8} (h1 : ds.length = ls.length)
    (h3 : ∀ (i : Nat) (hi : i < ls.length) (hd : i < ds.length), OwnB base w ds[i] ls[i] ∧ ∀ b, ds[i].ownBlock = some b → v.ownBlock ≠ some b)
    (hd : OwnB base w d y) (hdv : ∀ b, d.ownBlock = some b → v.ownBlock ≠ some b) (hrow : w'.ownsRow base 27 1 v' (ls.length + 1) (ds ++ [d])) (hg : w.grownBy w' v.ownBlock)
    (hat : v'.ownBlock = v.ownBlock ∨ v'.ownBlock = some w.heap.size) : OwnBs base w' v' (ls ++ [y]) := by
  have keep : ∀ (x : Value) (zs : List UInt8), OwnB base w x zs → (∀ b, x.ownBlock = some b → v.ownBlock ≠ some b) → OwnB base w' x zs ∧ ∀ b, x.ownBlock = some b → v'.ownBlock ≠ some b := by
    intro x zs ho hne
    have hlt := World.ownsRow.lt (show w.ownsRow _ _ _ _ _ _ from ho)
    refine ⟨World.ownsRow.kept (show w.ownsRow _ _ _ _ _ _ from ho) hg ?_, fun b hb e => ?_⟩
    · cases hx : x.ownBlock with
      | none => exact .inl rfl
      | some b => right; intro e; exact hne b hx e.symm
    · rcases hat with h | h
      · exact hne b hb (by rw [← h]; exact e)
      · rw [h] at e; injection e with e; have := (hlt b hb).2; omega
  refine ⟨ds ++ [d], by simp [h1], by rw [List.length_append]; exact hrow, fun i hi hid => ?_⟩
  by_cases hil : i < ls.length
  · have hil2 : i < ds.length := by omega
    rw [List.getElem_append_left hil, List.getElem_append_left hil2]
    obtain ⟨a1, a2⟩ := h3 i hil hil2
    exact keep _ _ a1 a2
  · have e1 : i = ls.length := by simp at hi; omega
    subst e1
    have e2 : (ds ++ [d])[ls.length]'hid = d := by rw [List.getElem_append_right (by omega)]; simp [h1]
    rw [List.getElem_append_right (Nat.le_refl _), e2]
    simp only [Nat.sub_self, List.getElem_cons_zero]
    exact keep _ _ hd hdv
theorem info_bys : (Tryd.prog.info? 27).map (fun i => (i.zero, i.size, i.bytes)) = some (some (.slice none 0 0), 1, 24) := by kernel_rfl
theorem elem_bys : ElemOf Tryd.prog 69 27 (.slice none 0 0) 1 24 := ⟨Tryd.underlying69, info_bys, rfl, by decide⟩
/-- 'append(s, x)' of one element, which a new block holds: longer rows. -/
theorem _root_.Fm.wpList_appOneB {P : Program} {w : World} {ops : Array Oper} {rest : List Oper} {o : Oper} {a : Act} {Q : Exit → Act → World → Prop} {t e : TypeId} {z : Value} {size bytes : Nat} (he : ElemOf P t e z size bytes)
    (hg : Region.wanted o (yielded ops a.tmps) = true) (s x : Operand) (hop : o.op = Op.call { callee := Callee.builtin Builtin.append, args := #[s, x], argTypes := #[t, t] }) {base : Nat}
    {v : Value} {k : Nat} {xs : List Value} (hs : a.eval s = v) (hown : w.ownsRow base e size v k xs) {B cp : Nat} {news : List Value} {e' : TypeId} {fr : Nat × Nat} (hx : a.eval x = .slice (some ⟨B, 0, none⟩) 1 cp)
    (hB : w.heap[B]? = some (.cells news.toArray e' fr)) (hn : news.length = size) (h1 : ∀ u ∈ news, u.oneCell' = true) (hb : k ≤ 100000) (hby : bytes ≤ 1000) (b3 : base ≤ w.heap.size)
    (hK : ∀ v' w', w'.ownsRow base e size v' (k + 1) (xs ++ news) → w.grownBy w' v.ownBlock → (v'.ownBlock = v.ownBlock ∨ v'.ownBlock = some w.heap.size) → wpList P ops Q rest (a.put o.dst v') w') :
    wpList P ops Q (o :: rest) a w := by
  have hm : (k + 1) * bytes ≤ 100001 * 1000 := Nat.mul_le_mul (by omega) hby
  refine wpList_appAt w he hg s x t hop base v k xs hs hown _ 1 news hx (Src.ofSlice _ he.1 _ _ _ _ (by rw [hn]; omega) ?_ h1) (by unfold maxLen; omega) (by omega) b3 hK
  intro j u hu
  rw [Addr.add_lit]
  simp only [World.cell?, hB]
  simpa using hu
end Go.Proofs.YtdienbcjfljjnaaDoor
