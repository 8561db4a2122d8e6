/- From a row's reading of a state to its parts. -/
import Derived.Test.YtpcgpcjleedilaaGreatDoorPlI
import Derived.ProofKit
import Derived.OpenShut
import Derived.ShutString
import Derived.ChangeOld
import Derived.Test.YtpcgpcjleedilaaGreatDoorFaA
import Derived.LaidLaws
import Derived.Lib.LaidTab
import Derived.Test.YtpcgpcjleedilaaGreatDoorProg
import Derived.Test.YtpcgpcjleedilaaGreatDoorPlFh
namespace Fm
open Go Go.RowKit Go.ChangeShapes Go.WideShapes Go.ChangeAt

/-- What the reading of a slice of integers says: as the guide's skeleton has it. -/
def IsRow (k : IntKind) (w : World) (a : Option Addr) (len cap : Nat) (zs : List Int) : Prop :=
  (a = none ∧ len = 0 ∧ cap = 0 ∧ zs = []) ∨
  ∃ x, a = some x ∧ len ≤ cap ∧ cap ≤ maxLen ∧ zs.length = cap ∧ (∀ i, i < zs.length → w.cell? (x.add i) = some (.int k (zs.getD i 0))) ∧ ∀ n ∈ zs, (Lit.int k n).wf = true

theorem u8_of_wf {n : Int} (h : (Lit.int .u8 n).wf = true) : ((UInt8.ofNat n.toNat).toNat : Int) = n := by
  have : 0 ≤ n ∧ n ≤ 255 := by
    simp [Lit.wf, IntKind.min, IntKind.max, IntKind.signed, IntKind.bits] at h
    omega
  rw [toNat_ofNat_lt (by omega)]; omega

theorem i64_of_wf {n : Int} (h : (Lit.int .i64 n).wf = true) : isI64 n := by
  simp [Lit.wf, IntKind.min, IntKind.max, IntKind.signed, IntKind.bits] at h
  unfold isI64; omega

theorem IsRow.bytes {w : World} {a : Option Addr} {len cap : Nat} {zs : List Int} (h : IsRow .u8 w a len cap zs) :
    ∃ xs : List UInt8, xs.length = len ∧ Bytes w (.slice a len cap) xs := by
  rcases h with ⟨rfl, rfl, rfl, rfl⟩ | ⟨x, rfl, hl, hm, hz, hc, hw⟩
  · exact ⟨[], rfl, Bytes.nil w⟩
  · refine ⟨(zs.take len).map fun n => UInt8.ofNat n.toNat, by simp; omega, ?_⟩
    have hlen : ((zs.take len).map fun n => UInt8.ofNat n.toNat).length = len := by simp; omega
    refine ⟨some x, cap, by rw [hlen], by omega, hm, (fun h => by cases h), fun ad had h0 => ?_⟩
    cases had
    have h00 := hc 0 (by omega)
    have e0 : x.add 0 = x := by unfold Addr.add; rw [if_pos rfl]
    rw [e0] at h00
    have hs : x.spot = none := by
      cases hsp : x.spot with
      | none => rfl
      | some s =>
        unfold World.cell? at h00
        cases hb : w.heap[x.block]? with
        | none => rw [hb] at h00; cases h00
        | some o => rw [hb] at h00; cases o <;> simp [hsp] at h00
    refine ⟨hs, World.block_lt_of_cell? w x h00, fun j hj => ?_⟩
    have hj' : j < zs.length := by omega
    have hjl : j < len := by omega
    have hcj := hc j hj'
    have ea : x.add j = ⟨x.block, x.off + j, none⟩ := by
      unfold Addr.add; split
      · obtain ⟨b, o, s⟩ := x; simp at hs ⊢; exact ⟨by omega, hs⟩
      · rw [← hs]
    rw [ea] at hcj
    rw [hcj]
    have hg : zs.getD j 0 = zs[j] := by simp [List.getD, hj']
    have hwf := hw zs[j] (List.getElem_mem hj')
    rw [hg]
    simp [bv, hjl, hj']
    have := u8_of_wf hwf
    simp at this
    exact this.symm
end Fm

open Go.RowKit Go.Shelf
namespace Go.Proofs.YtpcgpcjleedilaaGreatDoor
open Go Go.Proofs Fm

theorem errAt_of {W : World} {n : String} {g g' : Nat} {t : TypeId} {cs : Array Value} {f : Nat} {nm : String} {d : DataW Unit} {p : List MemPlace} (hn : Tryz.prog.globalNamed n = some g') (hty : (Tryz.prog.globals[g']?).map (·.type) = some 92)
    (hg : Tryz.prog.globalNamed n = some g) (ht : (Tryz.prog.globals[g]?).map (·.type) = some t) (hv : W.var? Tryz.prog n = some cs) (hd : DataW.trod (fun _ => ()) Tryz.prog W 0 (fun _ => true) false f t cs.toList = some (.iface nm d, p)) : ErrAt W g' := by
  obtain rfl := Option.some.inj (hn.symm.trans hg)
  obtain rfl := Option.some.inj (hty.symm.trans ht)
  obtain ⟨l⟩ := cs
  obtain ⟨f1, u, v, e, _, _⟩ := iface_of_trod Tryz.underlying92 hd
  subst e
  exact ⟨_, by simpa using World.var?_cell hg hv 0, .inr ⟨u, v, rfl⟩⟩
theorem kw_of {W : World} {g1 g2 g3 : Nat} {t1 t2 t3 : TypeId} {c1 c2 c3 : Array Value} {f1 f2 f3 : Nat} {nm2 nm3 : String} {d2 d3 : DataW Unit} {p1 p2 p3 : List MemPlace}
    (hg1 : Tryz.prog.globalNamed "internal/strconv.uint64pow10" = some g1) (ht1 : (Tryz.prog.globals[g1]?).map (·.type) = some t1) (hv1 : W.var? Tryz.prog "internal/strconv.uint64pow10" = some c1) (hd1 : DataW.trod (fun _ => ()) Tryz.prog W 0 (fun _ => true) false f1 t1 c1.toList = some (Lib.tabData .u64 Lib.pow10Tab, p1))
    (hg2 : Tryz.prog.globalNamed "strconv.ErrSyntax" = some g2) (ht2 : (Tryz.prog.globals[g2]?).map (·.type) = some t2) (hv2 : W.var? Tryz.prog "strconv.ErrSyntax" = some c2) (hd2 : DataW.trod (fun _ => ()) Tryz.prog W 0 (fun _ => true) false f2 t2 c2.toList = some (.iface nm2 d2, p2))
    (hg3 : Tryz.prog.globalNamed "strconv.ErrRange" = some g3) (ht3 : (Tryz.prog.globals[g3]?).map (·.type) = some t3) (hv3 : W.var? Tryz.prog "strconv.ErrRange" = some c3) (hd3 : DataW.trod (fun _ => ()) Tryz.prog W 0 (fun _ => true) false f3 t3 c3.toList = some (.iface nm3 d3, p3)) : KW W := by
  refine ⟨?_, errAt_of (by kernel_rfl) (by kernel_rfl) hg2 ht2 hv2 hd2, errAt_of (by kernel_rfl) (by kernel_rfl) hg3 ht3 hv3 hd3⟩
  have hg : Tryz.prog.globalNamed "internal/strconv.uint64pow10" = some 5 := by kernel_rfl
  have hty : (Tryz.prog.globals[5]?).map (·.type) = some 168 := by kernel_rfl
  obtain rfl := Option.some.inj (hg.symm.trans hg1)
  obtain rfl := Option.some.inj (hty.symm.trans ht1)
  unfold Tab Lib.TabIs
  rw [hv1]
  congr 1
  have h := Lib.cells_of_tab Tryz.underlying168 Tryz.underlying148 (by kernel_rfl) (by kernel_rfl) hd1
  rw [← h]
end Go.Proofs.YtpcgpcjleedilaaGreatDoor

namespace Fm
open Go Go.RowKit Go.ChangeShapes Go.WideShapes Go.ChangeAt

/-- What reads as data of that type lies so. -/
def Elem.Reads {α : Type} (E : Elem α) (P : Program) (T : TypeId) : Prop :=
  ∀ {H : Type} (enc : TypeId × Value → H) (W : World) (base : Nat) (spare : Nat → Bool) (held : Bool) (fuel : Nat) (cs : List Value) (x : DataW H × List MemPlace),
    DataW.trod enc P W base spare held fuel T cs = some x → ∃ a : α, E.R W a (fun j => cs.getD j .nilFunc)
theorem reads_str {P : Program} {T : TypeId} (hT : P.underlying T = some .string) : strE.Reads P T := by
  intro H enc W base spare held fuel cs x h
  obtain ⟨s, rfl, -, hw⟩ := DataW.trod_string hT h
  refine ⟨s.data.toList, ?_, ?_⟩
  · show Value.string s = _
    rw [str_eta]
  · have e : s.data.toList.length = s.size := by rw [Array.length_toList]; rfl
    unfold maxLen at hw; omega
theorem reads_int {P : Program} {T : TypeId} (hT : P.underlying T = some (.int .i64)) : intE.Reads P T := by
  intro H enc W base spare held fuel cs x h
  obtain ⟨n, rfl, -, hw⟩ := DataW.trod_int hT h
  exact ⟨n, rfl, i64_of_wf hw⟩
theorem reads_u8 {P : Program} {T : TypeId} (hT : P.underlying T = some (.int .u8)) : u8E.Reads P T := by
  intro H enc W base spare held fuel cs x h
  obtain ⟨n, rfl, -, hw⟩ := DataW.trod_int hT h
  exact ⟨UInt8.ofNat n.toNat, by show Value.int _ _ = _; rw [u8_of_wf hw]⟩
theorem reads_slice {α : Type} {E : Elem α} {P : Program} {T e : TypeId} (hT : P.underlying T = some (.slice e)) (hsz : P.cellsOf e = E.sz) (hE : E.Reads P e) (hp : 0 < E.sz) : (rowE E).Reads P T := by
  intro H enc W base spare held fuel cs x h
  rcases DataW.trod_slice hT h with ⟨rfl, -⟩ | ⟨a, len, cap, elems, rest, m, hm, rfl, -, hba, hlc, hcm, hel, hat, -, -⟩
  · exact ⟨[], Elem.Row.void E W none⟩
  · have key : ∀ k, k ≤ len → ∃ l : List α, l.length = k ∧ ∀ i (hi : i < l.length), ∃ c : Nat → Value, E.R W l[i] c ∧ ∀ j, j < E.sz → W.cell? ((a.add (i * E.sz)).add j) = some (c j) := by
      intro k
      induction k with
      | zero => exact fun _ => ⟨[], rfl, fun i hi => by simp at hi⟩
      | succ k ih =>
        intro hk
        obtain ⟨l, hl, hr⟩ := ih (by omega)
        have h1 := hat k (by omega)
        rw [hsz, List.getElem?_eq_getElem (by omega)] at h1
        obtain ⟨cs', hc', ht'⟩ := Option.bind_eq_some_iff.1 h1
        obtain ⟨t, ht⟩ := hE enc W base spare held m cs' _ ht'
        obtain ⟨_, hl4, hcell⟩ := World.cells?_some hc'
        refine ⟨l ++ [t], by simp [hl], fun i hi => ?_⟩
        by_cases hik : i < l.length
        · rw [List.getElem_append_left hik]; exact hr i hik
        · have e : i = l.length := by simp at hi; omega
          subst e
          rw [List.getElem_append_right (by omega)]
          simp only [Nat.sub_self, List.getElem_cons_zero]
          refine ⟨_, ht, fun j hj => ?_⟩
          rw [hl, hcell j hj, List.getD_eq_getElem?_getD, List.getElem?_eq_getElem (by omega)]
          rfl
    obtain ⟨l, hl, hr⟩ := key len (Nat.le_refl _)
    refine ⟨l, ?_⟩
    show E.Row W l (.slice (some a) len cap)
    by_cases h0 : len = 0
    · have : l = [] := List.eq_nil_of_length_eq_zero (by omega)
      subst this h0
      exact ⟨some a, cap, rfl, by simp, hcm, (fun h => by cases h), fun _ _ => .nilFunc, fun h => by simp at h, fun i hi => by simp at hi⟩
    · obtain ⟨c, _, h00⟩ := hr 0 (by omega)
      have h00 := h00 0 hp
      rw [Nat.zero_mul] at h00
      have ea : (a.add 0).add 0 = a := by unfold Addr.add; rw [if_pos rfl, if_pos rfl]
      rw [ea] at h00
      have hs0 : a.spot = none := by
        cases hsp : a.spot with
        | none => rfl
        | some s =>
          unfold World.cell? at h00
          cases hb : W.heap[a.block]? with
          | none => rw [hb] at h00; cases h00
          | some o => rw [hb] at h00; cases o <;> simp [hsp] at h00
      obtain ⟨b, off, spot⟩ := a
      simp only at hs0
      subst hs0
      refine Elem.Row.mk hl.symm (by omega) hcm (World.block_lt_of_cell? W _ h00) (fun i hi => ?_)
      obtain ⟨c, h1, h2⟩ := hr i hi
      refine ⟨c, h1, fun j hj => ?_⟩
      have := h2 j hj
      rw [Addr.add_lit, Addr.add_lit, Nat.add_assoc] at this
      exact this
/-- A slice that is handed in. -/
theorem row_of_val {α : Type} {E : Elem α} {P : Program} {T e : TypeId} (hT : P.underlying T = some (.slice e)) (hR : (rowE E).Reads P T)
    {H : Type} {enc : TypeId × Value → H} {W : World} {r : Reach} {b0 base : Nat} {spare : Nat → Bool} {held : Bool} {v : Value} {d : DataW H} {p : List MemPlace} (hv : Value.okWide P W r b0 T v)
    (h : DataW.Trod enc P W base spare held T v d p) : ∃ l, E.Row W l v := by
  obtain ⟨b, n, c, rfl⟩ := okWide_slice hT hv
  obtain ⟨fuel, hf⟩ := h
  obtain ⟨l, hl⟩ := hR enc W base spare held fuel _ _ hf
  exact ⟨l, hl⟩
end Fm

namespace Go.Proofs.YtpcgpcjleedilaaGreatDoor
open Go Go.Proofs Fm Go.RowKit Go.ChangeShapes Go.WideShapes Go.ChangeAt

theorem cells_str : Tryz.prog.cellsOf 9 = 1 := by kernel_rfl
theorem cells_u8 : Tryz.prog.cellsOf 5 = 1 := by kernel_rfl
theorem cells_int : Tryz.prog.cellsOf 3 = 1 := by kernel_rfl
end Go.Proofs.YtpcgpcjleedilaaGreatDoor

namespace Go.Proofs.YtpcgpcjleedilaaGreatDoor
open Go Go.Proofs Fm Go.RowKit Go.ChangeShapes Go.WideShapes Go.ChangeAt

set_option maxRecDepth 100000 in
theorem fields4 : Tryz.prog.underlying 44 = some (.struct #[⟨"Kind", 5, 0, false, "", "", 0⟩, ⟨"N", 2, 1, false, "", "", 8⟩, ⟨"S", 9, 2, false, "", "", 16⟩, ⟨"L", 42, 3, false, "", "", 32⟩]) := by kernel_rfl
theorem cells25 : Tryz.prog.cellsOf 44 = 4 := by kernel_rfl

set_option maxRecDepth 100000 in
theorem lies_of_trod {H : Type} {enc : TypeId × Value → H} {W : World} {base : Nat} {spare : Nat → Bool} {held : Bool} : ∀ (fuel : Nat) (cs : List Value) (x : DataW H × List MemPlace),
    DataW.trod enc Tryz.prog W base spare held fuel 44 cs = some x → ∃ (t : Tr), Lies W t (.agg cs.toArray) := by
  intro fuel
  induction fuel using Nat.strongRecOn with
  | _ fuel ih =>
  intro cs x h
  obtain ⟨xs, n, hfuel, hx, hlen, hxs, hf⟩ := DataW.trod_struct fields4 h
  rw [cells25] at hlen
  match cs, hlen with
  | [v0, v1, v2, v3], _ =>
  have g0 : DataW.trod enc Tryz.prog W base spare held n 5 (([v0, v1, v2, v3].drop 0).take (Tryz.prog.cellsOf 5)) = xs[0]? := hf 0 _ rfl
  have g1 : DataW.trod enc Tryz.prog W base spare held n 2 (([v0, v1, v2, v3].drop 1).take (Tryz.prog.cellsOf 2)) = xs[1]? := hf 1 _ rfl
  have g2 : DataW.trod enc Tryz.prog W base spare held n 9 (([v0, v1, v2, v3].drop 2).take (Tryz.prog.cellsOf 9)) = xs[2]? := hf 2 _ rfl
  have g3 : DataW.trod enc Tryz.prog W base spare held n 42 (([v0, v1, v2, v3].drop 3).take (Tryz.prog.cellsOf 42)) = xs[3]? := hf 3 _ rfl
  have k5 : Tryz.prog.cellsOf 5 = 1 := by kernel_rfl
  have k2 : Tryz.prog.cellsOf 2 = 1 := by kernel_rfl
  have k9 : Tryz.prog.cellsOf 9 = 1 := by kernel_rfl
  have k23 : Tryz.prog.cellsOf 42 = 1 := by kernel_rfl
  rw [k5] at g0
  rw [k2] at g1
  rw [k9] at g2
  rw [k23] at g3
  match xs, hxs with
  | [y0, y1, y2, y3], _ =>
  obtain ⟨n0, e0, -, w0⟩ := DataW.trod_int Tryz.underlying5 (show DataW.trod enc Tryz.prog W base spare held n 5 [v0] = some y0 from g0)
  obtain ⟨n1, e1, -, w1⟩ := DataW.trod_int Tryz.underlying2 (show DataW.trod enc Tryz.prog W base spare held n 2 [v1] = some y1 from g1)
  obtain ⟨s2, e2, -, w2⟩ := DataW.trod_string Tryz.underlying9 (show DataW.trod enc Tryz.prog W base spare held n 9 [v2] = some y2 from g2)
  injection e0 with e0 _
  injection e1 with e1 _
  injection e2 with e2 _
  subst e0 e1 e2
  have hs : s2.data.toList.length ≤ 9223372036854775807 := by
    have e : s2.data.toList.length = s2.size := by rw [Array.length_toList]; rfl
    unfold maxLen at w2; omega
  have hk := u8_of_wf w0
  have hstr : str s2.data.toList = s2 := str_eta s2
  rcases DataW.trod_slice Tryz.underlying42 (show DataW.trod enc Tryz.prog W base spare held n 42 [v3] = some y3 from g3) with ⟨e3, -⟩ | ⟨a, len, cap, elems, rest, m, hm, e3, -, hba, hlc, hcm, hel, hat, -, -⟩
  · injection e3 with e3 _
    subst e3
    have := Lies.mk (w := W) (k := UInt8.ofNat n0.toNat) (i64_of_wf w1) hs (LiesS.nil W none)
    rw [hk, hstr] at this
    exact ⟨_, this⟩
  · injection e3 with e3 _
    subst e3
    have hch : ∀ i, ∃ (t : Tr) (C : Nat → Value), i < len → W.cells? base (a.add (i * 4)) 4 = some [C 0, C 1, C 2, C 3] ∧ Lies W t (.agg #[C 0, C 1, C 2, C 3]) := by
      intro i
      by_cases hi : i < len
      · have h1 := hat i hi
        rw [cells25] at h1
        rw [List.getElem?_eq_getElem (by omega)] at h1
        obtain ⟨cs', hc', ht'⟩ := Option.bind_eq_some_iff.1 h1
        obtain ⟨t, ht⟩ := ih m (by omega) cs' _ ht'
        obtain ⟨_, hl4, _⟩ := World.cells?_some hc'
        match cs', hl4 with
        | [z0, z1, z2, z3], _ =>
          exact ⟨t, fun j => match j with | 0 => z0 | 1 => z1 | 2 => z2 | _ => z3, fun _ => ⟨hc', ht⟩⟩
      · exact ⟨.node 0 0 [] [], fun _ => .nilFunc, fun h => absurd h hi⟩
    let T : Nat → Tr := fun i => Classical.choose (hch i)
    have hT : ∀ i, ∃ C : Nat → Value, i < len → W.cells? base (a.add (i * 4)) 4 = some [C 0, C 1, C 2, C 3] ∧ Lies W (T i) (.agg #[C 0, C 1, C 2, C 3]) := fun i => Classical.choose_spec (hch i)
    let C : Nat → Nat → Value := fun i => Classical.choose (hT i)
    have hC : ∀ i, i < len → W.cells? base (a.add (i * 4)) 4 = some [C i 0, C i 1, C i 2, C i 3] ∧ Lies W (T i) (.agg #[C i 0, C i 1, C i 2, C i 3]) := fun i => Classical.choose_spec (hT i)
    have hlT : ((List.range len).map T).length = len := by simp
    have hL : LiesS W ((List.range len).map T) (.slice (some a) len cap) := by
      refine ⟨some a, cap, by rw [hlT], by rw [hlT]; exact hlc, hcm, (fun h => by cases h), C, fun hp => ?_, fun i hi => ?_⟩
      · rw [hlT] at hp
        have h00 := (World.cells?_some (hC 0 hp).1).2.2 0 (by omega)
        rw [Nat.zero_mul] at h00
        have ea : (a.add 0).add 0 = a := by unfold Addr.add; rw [if_pos rfl, if_pos rfl]
        rw [ea] at h00
        have hs0 : a.spot = none := by
          cases hsp : a.spot with
          | none => rfl
          | some s =>
            unfold World.cell? at h00
            cases hb : W.heap[a.block]? with
            | none => rw [hb] at h00; cases h00
            | some o => rw [hb] at h00; cases o <;> simp [hsp] at h00
        obtain ⟨b, off, spot⟩ := a
        simp only at hs0
        subst hs0
        refine ⟨b, off, rfl, World.block_lt_of_cell? W _ h00, fun i j hi hj => ?_⟩
        rw [hlT] at hi
        have h1 := (World.cells?_some (hC i hi).1).2.2 j hj
        rw [Addr.add_lit, Addr.add_lit, Nat.add_assoc] at h1
        rw [h1]
        match j, hj with
        | 0, _ => rfl
        | 1, _ => rfl
        | 2, _ => rfl
        | 3, _ => rfl
      · rw [hlT] at hi
        have := (hC i hi).2
        simpa using this
    have := Lies.mk (w := W) (k := UInt8.ofNat n0.toNat) (i64_of_wf w1) hs hL
    rw [hk, hstr] at this
    exact ⟨_, this⟩

end Go.Proofs.YtpcgpcjleedilaaGreatDoor

namespace Go.Proofs.YtpcgpcjleedilaaGreatDoor
open Go Go.Proofs Fm
open Go.RowKit Go.ChangeShapes Go.WideShapes Go.ChangeAt

set_option maxRecDepth 100000 in
theorem fieldsNd : Tryz.prog.underlying 46 = some (.struct #[⟨"ID", 9, 0, false, "", "", 0⟩, ⟨"Name", 9, 1, false, "", "", 16⟩, ⟨"Kind", 5, 2, false, "", "", 32⟩, ⟨"Flow", 3, 3, false, "", "", 40⟩, ⟨"Owner", 3, 4, false, "", "", 48⟩, ⟨"At", 3, 5, false, "", "", 56⟩, ⟨"After", 41, 6, false, "", "", 64⟩, ⟨"Width", 3, 7, false, "", "", 88⟩, ⟨"Quota", 3, 8, false, "", "", 96⟩, ⟨"Stand", 5, 9, false, "", "", 104⟩, ⟨"Fails", 3, 10, false, "", "", 112⟩, ⟨"Token", 2, 11, false, "", "", 120⟩, ⟨"Value", 44, 12, false, "", "", 128⟩]) := by kernel_rfl
theorem cells_nd : Tryz.prog.cellsOf 46 = 16 := by kernel_rfl
theorem cells_ints : Tryz.prog.cellsOf 41 = 1 := by kernel_rfl
theorem cells_j64 : Tryz.prog.cellsOf 2 = 1 := by kernel_rfl
theorem reads_ints : (rowE intE).Reads Tryz.prog 41 := reads_slice Tryz.underlying41 cells_int (reads_int Tryz.underlying3) (by decide)
set_option maxRecDepth 100000 in
theorem reads_nd : ndE.Reads Tryz.prog 46 := by
  intro H enc W base spare held fuel cs x h
  obtain ⟨xs, n, hfuel, hx, hlen, hxs, hf⟩ := DataW.trod_struct fieldsNd h
  rw [cells_nd] at hlen
  match cs, hlen with
  | [v0, v1, v2, v3, v4, v5, v6, v7, v8, v9, v10, v11, v12, v13, v14, v15], _ =>
  have g0 : DataW.trod enc Tryz.prog W base spare held n 9 (([v0, v1, v2, v3, v4, v5, v6, v7, v8, v9, v10, v11, v12, v13, v14, v15].drop 0).take (Tryz.prog.cellsOf 9)) = xs[0]? := hf 0 _ rfl
  have g1 : DataW.trod enc Tryz.prog W base spare held n 9 (([v0, v1, v2, v3, v4, v5, v6, v7, v8, v9, v10, v11, v12, v13, v14, v15].drop 1).take (Tryz.prog.cellsOf 9)) = xs[1]? := hf 1 _ rfl
  have g2 : DataW.trod enc Tryz.prog W base spare held n 5 (([v0, v1, v2, v3, v4, v5, v6, v7, v8, v9, v10, v11, v12, v13, v14, v15].drop 2).take (Tryz.prog.cellsOf 5)) = xs[2]? := hf 2 _ rfl
  have g3 : DataW.trod enc Tryz.prog W base spare held n 3 (([v0, v1, v2, v3, v4, v5, v6, v7, v8, v9, v10, v11, v12, v13, v14, v15].drop 3).take (Tryz.prog.cellsOf 3)) = xs[3]? := hf 3 _ rfl
  have g4 : DataW.trod enc Tryz.prog W base spare held n 3 (([v0, v1, v2, v3, v4, v5, v6, v7, v8, v9, v10, v11, v12, v13, v14, v15].drop 4).take (Tryz.prog.cellsOf 3)) = xs[4]? := hf 4 _ rfl
  have g5 : DataW.trod enc Tryz.prog W base spare held n 3 (([v0, v1, v2, v3, v4, v5, v6, v7, v8, v9, v10, v11, v12, v13, v14, v15].drop 5).take (Tryz.prog.cellsOf 3)) = xs[5]? := hf 5 _ rfl
  have g6 : DataW.trod enc Tryz.prog W base spare held n 41 (([v0, v1, v2, v3, v4, v5, v6, v7, v8, v9, v10, v11, v12, v13, v14, v15].drop 6).take (Tryz.prog.cellsOf 41)) = xs[6]? := hf 6 _ rfl
  have g7 : DataW.trod enc Tryz.prog W base spare held n 3 (([v0, v1, v2, v3, v4, v5, v6, v7, v8, v9, v10, v11, v12, v13, v14, v15].drop 7).take (Tryz.prog.cellsOf 3)) = xs[7]? := hf 7 _ rfl
  have g8 : DataW.trod enc Tryz.prog W base spare held n 3 (([v0, v1, v2, v3, v4, v5, v6, v7, v8, v9, v10, v11, v12, v13, v14, v15].drop 8).take (Tryz.prog.cellsOf 3)) = xs[8]? := hf 8 _ rfl
  have g9 : DataW.trod enc Tryz.prog W base spare held n 5 (([v0, v1, v2, v3, v4, v5, v6, v7, v8, v9, v10, v11, v12, v13, v14, v15].drop 9).take (Tryz.prog.cellsOf 5)) = xs[9]? := hf 9 _ rfl
  have g10 : DataW.trod enc Tryz.prog W base spare held n 3 (([v0, v1, v2, v3, v4, v5, v6, v7, v8, v9, v10, v11, v12, v13, v14, v15].drop 10).take (Tryz.prog.cellsOf 3)) = xs[10]? := hf 10 _ rfl
  have g11 : DataW.trod enc Tryz.prog W base spare held n 2 (([v0, v1, v2, v3, v4, v5, v6, v7, v8, v9, v10, v11, v12, v13, v14, v15].drop 11).take (Tryz.prog.cellsOf 2)) = xs[11]? := hf 11 _ rfl
  have g12 : DataW.trod enc Tryz.prog W base spare held n 44 (([v0, v1, v2, v3, v4, v5, v6, v7, v8, v9, v10, v11, v12, v13, v14, v15].drop 12).take (Tryz.prog.cellsOf 44)) = xs[12]? := hf 12 _ rfl
  rw [cells_str] at g0
  rw [cells_str] at g1
  rw [cells_u8] at g2
  rw [cells_int] at g3
  rw [cells_int] at g4
  rw [cells_int] at g5
  rw [cells_ints] at g6
  rw [cells_int] at g7
  rw [cells_int] at g8
  rw [cells_u8] at g9
  rw [cells_int] at g10
  rw [cells_j64] at g11
  rw [cells25] at g12
  match xs, hxs with
  | [y0, y1, y2, y3, y4, y5, y6, y7, y8, y9, y10, y11, y12], _ =>
  obtain ⟨a0, r0, l0⟩ := reads_str Tryz.underlying9 enc W base spare held n [v0] y0 g0
  obtain ⟨a1, r1, l1⟩ := reads_str Tryz.underlying9 enc W base spare held n [v1] y1 g1
  obtain ⟨a2, r2⟩ := reads_u8 Tryz.underlying5 enc W base spare held n [v2] y2 g2
  obtain ⟨a3, r3, l3⟩ := reads_int Tryz.underlying3 enc W base spare held n [v3] y3 g3
  obtain ⟨a4, r4, l4⟩ := reads_int Tryz.underlying3 enc W base spare held n [v4] y4 g4
  obtain ⟨a5, r5, l5⟩ := reads_int Tryz.underlying3 enc W base spare held n [v5] y5 g5
  obtain ⟨a6, r6⟩ := reads_ints enc W base spare held n [v6] y6 g6
  obtain ⟨a7, r7, l7⟩ := reads_int Tryz.underlying3 enc W base spare held n [v7] y7 g7
  obtain ⟨a8, r8, l8⟩ := reads_int Tryz.underlying3 enc W base spare held n [v8] y8 g8
  obtain ⟨a9, r9⟩ := reads_u8 Tryz.underlying5 enc W base spare held n [v9] y9 g9
  obtain ⟨a10, r10, l10⟩ := reads_int Tryz.underlying3 enc W base spare held n [v10] y10 g10
  obtain ⟨a11, r11, l11⟩ := reads_int Tryz.underlying2 enc W base spare held n [v11] y11 g11
  obtain ⟨a12, r12⟩ := lies_of_trod n [v12, v13, v14, v15] y12 g12
  exact ⟨⟨a0, a1, a2, a3, a4, a5, a6, a7, a8, a9, a10, a11, a12⟩, ⟨r0, r1, r2, r3, r4, r5⟩, r6, ⟨r7, r8, r9, r10, r11⟩, r12, l0, l1, l3, l4, l5, l7, l8, l10, l11⟩
theorem reads_nodes : (rowE ndE).Reads Tryz.prog 40 := reads_slice Tryz.underlying40 cells_nd reads_nd (by decide)
set_option maxRecDepth 100000 in
/-- A node that is handed in by value. -/
theorem ndv_of_val {H : Type} {enc : TypeId × Value → H} {W : World} {r : Reach} {b0 base : Nat} {spare : Nat → Bool} {held : Bool} {v : Value} {d : DataW H} {p : List MemPlace} (hv : Value.okWide Tryz.prog W r b0 46 v)
    (h : DataW.Trod enc Tryz.prog W base spare held 46 v d p) : ∃ o, NdV W o v := by
  obtain ⟨cs, rfl, hsz⟩ := okWide_struct fieldsNd hv
  obtain ⟨fuel, hf⟩ := h
  obtain ⟨xs, n, hfuel, hx, hlen, hxs, hf'⟩ := DataW.trod_struct fieldsNd (show DataW.trod enc Tryz.prog W base spare held fuel 46 cs.toList = some (d, p) by simpa [Value.cells] using hf)
  rw [cells_nd] at hlen
  match hcs : cs.toList, hlen with
  | [v0, v1, v2, v3, v4, v5, v6, v7, v8, v9, v10, v11, v12, v13, v14, v15], _ =>
  rw [hcs] at hf'
  have g0 : DataW.trod enc Tryz.prog W base spare held n 9 (([v0, v1, v2, v3, v4, v5, v6, v7, v8, v9, v10, v11, v12, v13, v14, v15].drop 0).take (Tryz.prog.cellsOf 9)) = xs[0]? := hf' 0 _ rfl
  have g1 : DataW.trod enc Tryz.prog W base spare held n 9 (([v0, v1, v2, v3, v4, v5, v6, v7, v8, v9, v10, v11, v12, v13, v14, v15].drop 1).take (Tryz.prog.cellsOf 9)) = xs[1]? := hf' 1 _ rfl
  have g2 : DataW.trod enc Tryz.prog W base spare held n 5 (([v0, v1, v2, v3, v4, v5, v6, v7, v8, v9, v10, v11, v12, v13, v14, v15].drop 2).take (Tryz.prog.cellsOf 5)) = xs[2]? := hf' 2 _ rfl
  have g3 : DataW.trod enc Tryz.prog W base spare held n 3 (([v0, v1, v2, v3, v4, v5, v6, v7, v8, v9, v10, v11, v12, v13, v14, v15].drop 3).take (Tryz.prog.cellsOf 3)) = xs[3]? := hf' 3 _ rfl
  have g4 : DataW.trod enc Tryz.prog W base spare held n 3 (([v0, v1, v2, v3, v4, v5, v6, v7, v8, v9, v10, v11, v12, v13, v14, v15].drop 4).take (Tryz.prog.cellsOf 3)) = xs[4]? := hf' 4 _ rfl
  have g5 : DataW.trod enc Tryz.prog W base spare held n 3 (([v0, v1, v2, v3, v4, v5, v6, v7, v8, v9, v10, v11, v12, v13, v14, v15].drop 5).take (Tryz.prog.cellsOf 3)) = xs[5]? := hf' 5 _ rfl
  have g6 : DataW.trod enc Tryz.prog W base spare held n 41 (([v0, v1, v2, v3, v4, v5, v6, v7, v8, v9, v10, v11, v12, v13, v14, v15].drop 6).take (Tryz.prog.cellsOf 41)) = xs[6]? := hf' 6 _ rfl
  have g7 : DataW.trod enc Tryz.prog W base spare held n 3 (([v0, v1, v2, v3, v4, v5, v6, v7, v8, v9, v10, v11, v12, v13, v14, v15].drop 7).take (Tryz.prog.cellsOf 3)) = xs[7]? := hf' 7 _ rfl
  have g8 : DataW.trod enc Tryz.prog W base spare held n 3 (([v0, v1, v2, v3, v4, v5, v6, v7, v8, v9, v10, v11, v12, v13, v14, v15].drop 8).take (Tryz.prog.cellsOf 3)) = xs[8]? := hf' 8 _ rfl
  have g9 : DataW.trod enc Tryz.prog W base spare held n 5 (([v0, v1, v2, v3, v4, v5, v6, v7, v8, v9, v10, v11, v12, v13, v14, v15].drop 9).take (Tryz.prog.cellsOf 5)) = xs[9]? := hf' 9 _ rfl
  have g10 : DataW.trod enc Tryz.prog W base spare held n 3 (([v0, v1, v2, v3, v4, v5, v6, v7, v8, v9, v10, v11, v12, v13, v14, v15].drop 10).take (Tryz.prog.cellsOf 3)) = xs[10]? := hf' 10 _ rfl
  have g11 : DataW.trod enc Tryz.prog W base spare held n 2 (([v0, v1, v2, v3, v4, v5, v6, v7, v8, v9, v10, v11, v12, v13, v14, v15].drop 11).take (Tryz.prog.cellsOf 2)) = xs[11]? := hf' 11 _ rfl
  have g12 : DataW.trod enc Tryz.prog W base spare held n 44 (([v0, v1, v2, v3, v4, v5, v6, v7, v8, v9, v10, v11, v12, v13, v14, v15].drop 12).take (Tryz.prog.cellsOf 44)) = xs[12]? := hf' 12 _ rfl
  rw [cells_str] at g0
  rw [cells_str] at g1
  rw [cells_u8] at g2
  rw [cells_int] at g3
  rw [cells_int] at g4
  rw [cells_int] at g5
  rw [cells_ints] at g6
  rw [cells_int] at g7
  rw [cells_int] at g8
  rw [cells_u8] at g9
  rw [cells_int] at g10
  rw [cells_j64] at g11
  rw [cells25] at g12
  match xs, hxs with
  | [y0, y1, y2, y3, y4, y5, y6, y7, y8, y9, y10, y11, y12], _ =>
  obtain ⟨a0, r0, l0⟩ := reads_str Tryz.underlying9 enc W base spare held n [v0] y0 g0
  obtain ⟨a1, r1, l1⟩ := reads_str Tryz.underlying9 enc W base spare held n [v1] y1 g1
  obtain ⟨a2, r2⟩ := reads_u8 Tryz.underlying5 enc W base spare held n [v2] y2 g2
  obtain ⟨a3, r3, l3⟩ := reads_int Tryz.underlying3 enc W base spare held n [v3] y3 g3
  obtain ⟨a4, r4, l4⟩ := reads_int Tryz.underlying3 enc W base spare held n [v4] y4 g4
  obtain ⟨a5, r5, l5⟩ := reads_int Tryz.underlying3 enc W base spare held n [v5] y5 g5
  obtain ⟨a6, r6⟩ := reads_ints enc W base spare held n [v6] y6 g6
  obtain ⟨a7, r7, l7⟩ := reads_int Tryz.underlying3 enc W base spare held n [v7] y7 g7
  obtain ⟨a8, r8, l8⟩ := reads_int Tryz.underlying3 enc W base spare held n [v8] y8 g8
  obtain ⟨a9, r9⟩ := reads_u8 Tryz.underlying5 enc W base spare held n [v9] y9 g9
  obtain ⟨a10, r10, l10⟩ := reads_int Tryz.underlying3 enc W base spare held n [v10] y10 g10
  obtain ⟨a11, r11, l11⟩ := reads_int Tryz.underlying2 enc W base spare held n [v11] y11 g11
  obtain ⟨a12, r12⟩ := lies_of_trod n [v12, v13, v14, v15] y12 g12
  obtain ⟨a, c, e, _⟩ := Elem.Row.slice r6
  have ecs : cs = #[v0, v1, v2, v3, v4, v5, v6, v7, v8, v9, v10, v11, v12, v13, v14, v15] := by rw [← hcs]
  have e0 : v0 = .string (str a0) := r0
  have e1 : v1 = .string (str a1) := r1
  have e2 : v2 = .int .u8 (a2.toNat : Int) := r2
  have e3 : v3 = .int .i64 a3 := r3
  have e4 : v4 = .int .i64 a4 := r4
  have e5 : v5 = .int .i64 a5 := r5
  have e7 : v7 = .int .i64 a7 := r7
  have e8 : v8 = .int .i64 a8 := r8
  have e9 : v9 = .int .u8 (a9.toNat : Int) := r9
  have e10 : v10 = .int .i64 a10 := r10
  have e11 : v11 = .int .i64 a11 := r11
  have e6 : v6 = .slice a a6.length c := e
  have r6' : intE.Row W a6 v6 := r6
  refine ⟨⟨a0, a1, a2, a3, a4, a5, a6, a7, a8, a9, a10, a11, a12⟩, a, a6.length, c, v12, v13, v14, v15, ?_, by rw [← e6]; exact r6', r12, l0, l1, l3, l4, l5, l7, l8, l10, l11⟩
  rw [ecs, e0, e1, e2, e3, e4, e5, e6, e7, e8, e9, e10, e11]
  rfl
end Go.Proofs.YtpcgpcjleedilaaGreatDoor
