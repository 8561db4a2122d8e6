/- What the laid variables give to the walks of package ident. -/
import Derived.Test.YtpcgpcjleedilaaDoorFrgA
import Derived.ProofKit
import Derived.OpenShut
import Derived.ShutString
import Derived.ChangeOld
import Derived.Test.YtpcgpcjleedilaaDoorIdP
import Derived.LaidLaws
import Derived.Lib.LaidTab
namespace Fm
open Go Go.RowKit Go.ChangeShapes Go.WideShapes Go.ChangeAt

/-- What the reading of a slice of integers says: as the guide's skeleton has it. -/
def IsRow (k : IntKind) (w : World) (a : Option Addr) (len cap : Nat) (zs : List Int) : Prop :=
  (a = none ∧ len = 0 ∧ cap = 0 ∧ zs = []) ∨
  ∃ x, a = some x ∧ len ≤ cap ∧ cap ≤ maxLen ∧ zs.length = cap ∧ (∀ i, i < zs.length → w.cell? (x.add i) = some (.int k (zs.getD i 0))) ∧ ∀ n ∈ zs, (Lit.int k n).wf = true

theorem u8_of_wf {n : Int} (h : (Lit.int .u8 n).wf = true) : ((UInt8.ofNat n.toNat).toNat : Int) = n := by
  have : 0 ≤ n ∧ n ≤ 255 := by
    simp [Lit.wf, IntKind.min, IntKind.max, IntKind.signed, IntKind.bits] at h
    omega
  rw [toNat_ofNat_lt (by omega)]; omega

theorem IsRow.bytes {w : World} {a : Option Addr} {len cap : Nat} {zs : List Int} (h : IsRow .u8 w a len cap zs) :
    ∃ xs : List UInt8, xs.length = len ∧ Bytes w (.slice a len cap) xs := by
  rcases h with ⟨rfl, rfl, rfl, rfl⟩ | ⟨x, rfl, hl, hm, hz, hc, hw⟩
  · exact ⟨[], rfl, Bytes.nil w⟩
  · refine ⟨(zs.take len).map fun n => UInt8.ofNat n.toNat, by simp; omega, ?_⟩
    have hlen : ((zs.take len).map fun n => UInt8.ofNat n.toNat).length = len := by simp; omega
    refine ⟨some x, cap, by rw [hlen], by omega, hm, (fun h => by cases h), fun ad had h0 => ?_⟩
    cases had
    have h00 := hc 0 (by omega)
    have e0 : x.add 0 = x := by unfold Addr.add; rw [if_pos rfl]
    rw [e0] at h00
    have hs : x.spot = none := by
      cases hsp : x.spot with
      | none => rfl
      | some s =>
        unfold World.cell? at h00
        cases hb : w.heap[x.block]? with
        | none => rw [hb] at h00; cases h00
        | some o => rw [hb] at h00; cases o <;> simp [hsp] at h00
    refine ⟨hs, World.block_lt_of_cell? w x h00, fun j hj => ?_⟩
    have hj' : j < zs.length := by omega
    have hjl : j < len := by omega
    have hcj := hc j hj'
    have ea : x.add j = ⟨x.block, x.off + j, none⟩ := by
      unfold Addr.add; split
      · obtain ⟨b, o, s⟩ := x; simp at hs ⊢; exact ⟨by omega, hs⟩
      · rw [← hs]
    rw [ea] at hcj
    rw [hcj]
    have hg : zs.getD j 0 = zs[j] := by simp [List.getD, hj']
    have hwf := hw zs[j] (List.getElem_mem hj')
    rw [hg]
    simp [bv, hjl, hj']
    have := u8_of_wf hwf
    simp at this
    exact this.symm
end Fm

open Go.RowKit Go.Shelf
namespace Go.Proofs.YtpcgpcjleedilaaDoor
open Go Go.Proofs Fm

theorem errAt_of {W : World} {n : String} {g g' : Nat} {t : TypeId} {cs : Array Value} {f : Nat} {nm : String} {d : DataW Unit} {p : List MemPlace} (hn : Tryd.prog.globalNamed n = some g') (hty : (Tryd.prog.globals[g']?).map (·.type) = some 70)
    (hg : Tryd.prog.globalNamed n = some g) (ht : (Tryd.prog.globals[g]?).map (·.type) = some t) (hv : W.var? Tryd.prog n = some cs) (hd : DataW.trod (fun _ => ()) Tryd.prog W 0 (fun _ => true) false f t cs.toList = some (.iface nm d, p)) : ErrAt W g' := by
  obtain rfl := Option.some.inj (hn.symm.trans hg)
  obtain rfl := Option.some.inj (hty.symm.trans ht)
  obtain ⟨l⟩ := cs
  obtain ⟨f1, u, v, e, _, _⟩ := iface_of_trod Tryd.underlying70 hd
  subst e
  exact ⟨_, by simpa using World.var?_cell hg hv 0, .inr ⟨u, v, rfl⟩⟩
theorem kw_of {W : World} {g1 g2 g3 : Nat} {t1 t2 t3 : TypeId} {c1 c2 c3 : Array Value} {f1 f2 f3 : Nat} {nm2 nm3 : String} {d2 d3 : DataW Unit} {p1 p2 p3 : List MemPlace}
    (hg1 : Tryd.prog.globalNamed "internal/strconv.uint64pow10" = some g1) (ht1 : (Tryd.prog.globals[g1]?).map (·.type) = some t1) (hv1 : W.var? Tryd.prog "internal/strconv.uint64pow10" = some c1) (hd1 : DataW.trod (fun _ => ()) Tryd.prog W 0 (fun _ => true) false f1 t1 c1.toList = some (Lib.tabData .u64 Lib.pow10Tab, p1))
    (hg2 : Tryd.prog.globalNamed "strconv.ErrSyntax" = some g2) (ht2 : (Tryd.prog.globals[g2]?).map (·.type) = some t2) (hv2 : W.var? Tryd.prog "strconv.ErrSyntax" = some c2) (hd2 : DataW.trod (fun _ => ()) Tryd.prog W 0 (fun _ => true) false f2 t2 c2.toList = some (.iface nm2 d2, p2))
    (hg3 : Tryd.prog.globalNamed "strconv.ErrRange" = some g3) (ht3 : (Tryd.prog.globals[g3]?).map (·.type) = some t3) (hv3 : W.var? Tryd.prog "strconv.ErrRange" = some c3) (hd3 : DataW.trod (fun _ => ()) Tryd.prog W 0 (fun _ => true) false f3 t3 c3.toList = some (.iface nm3 d3, p3)) : KW W := by
  refine ⟨?_, errAt_of (by kernel_rfl) (by kernel_rfl) hg2 ht2 hv2 hd2, errAt_of (by kernel_rfl) (by kernel_rfl) hg3 ht3 hv3 hd3⟩
  have hg : Tryd.prog.globalNamed "internal/strconv.uint64pow10" = some 5 := by kernel_rfl
  have hty : (Tryd.prog.globals[5]?).map (·.type) = some 155 := by kernel_rfl
  obtain rfl := Option.some.inj (hg.symm.trans hg1)
  obtain rfl := Option.some.inj (hty.symm.trans ht1)
  unfold Tab Lib.TabIs
  rw [hv1]
  congr 1
  have h := Lib.cells_of_tab Tryd.underlying155 Tryd.underlying134 (by kernel_rfl) (by kernel_rfl) hd1
  rw [← h]
end Go.Proofs.YtpcgpcjleedilaaDoor
