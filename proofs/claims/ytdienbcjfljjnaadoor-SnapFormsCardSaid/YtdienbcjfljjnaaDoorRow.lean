/- From a row's reading of an argument to what the contracts ask. -/
import Derived.Test.YtdienbcjfljjnaaDoorPlA
import Derived.ProofKit
import Derived.OpenShut
import Derived.ShutString
import Derived.ChangeOld
namespace Fm
open Go Go.RowKit Go.ChangeShapes Go.WideShapes Go.ChangeAt

/-- What the reading of a slice of integers says: as the guide's skeleton has it. -/
def IsRow (k : IntKind) (w : World) (a : Option Addr) (len cap : Nat) (zs : List Int) : Prop :=
  (a = none ∧ len = 0 ∧ cap = 0 ∧ zs = []) ∨
  ∃ x, a = some x ∧ len ≤ cap ∧ cap ≤ maxLen ∧ zs.length = cap ∧ (∀ i, i < zs.length → w.cell? (x.add i) = some (.int k (zs.getD i 0))) ∧ ∀ n ∈ zs, (Lit.int k n).wf = true

theorem u8_of_wf {n : Int} (h : (Lit.int .u8 n).wf = true) : ((UInt8.ofNat n.toNat).toNat : Int) = n := by
  have : 0 ≤ n ∧ n ≤ 255 := by
    simp [Lit.wf, IntKind.min, IntKind.max, IntKind.signed, IntKind.bits] at h
    omega
  rw [toNat_ofNat_lt (by omega)]; omega

theorem i64_of_wf {n : Int} (h : (Lit.int .i64 n).wf = true) : isI64 n := by
  simp [Lit.wf, IntKind.min, IntKind.max, IntKind.signed, IntKind.bits] at h
  unfold isI64; omega

theorem IsRow.bytes {w : World} {a : Option Addr} {len cap : Nat} {zs : List Int} (h : IsRow .u8 w a len cap zs) :
    ∃ xs : List UInt8, xs.length = len ∧ Bytes w (.slice a len cap) xs := by
  rcases h with ⟨rfl, rfl, rfl, rfl⟩ | ⟨x, rfl, hl, hm, hz, hc, hw⟩
  · exact ⟨[], rfl, Bytes.nil w⟩
  · refine ⟨(zs.take len).map fun n => UInt8.ofNat n.toNat, by simp; omega, ?_⟩
    have hlen : ((zs.take len).map fun n => UInt8.ofNat n.toNat).length = len := by simp; omega
    refine ⟨some x, cap, by rw [hlen], by omega, hm, (fun h => by cases h), fun ad had h0 => ?_⟩
    cases had
    have h00 := hc 0 (by omega)
    have e0 : x.add 0 = x := by unfold Addr.add; rw [if_pos rfl]
    rw [e0] at h00
    have hs : x.spot = none := by
      cases hsp : x.spot with
      | none => rfl
      | some s =>
        unfold World.cell? at h00
        cases hb : w.heap[x.block]? with
        | none => rw [hb] at h00; cases h00
        | some o => rw [hb] at h00; cases o <;> simp [hsp] at h00
    refine ⟨hs, World.block_lt_of_cell? w x h00, fun j hj => ?_⟩
    have hj' : j < zs.length := by omega
    have hjl : j < len := by omega
    have hcj := hc j hj'
    have ea : x.add j = ⟨x.block, x.off + j, none⟩ := by
      unfold Addr.add; split
      · obtain ⟨b, o, s⟩ := x; simp at hs ⊢; exact ⟨by omega, hs⟩
      · rw [← hs]
    rw [ea] at hcj
    rw [hcj]
    have hg : zs.getD j 0 = zs[j] := by simp [List.getD, hj']
    have hwf := hw zs[j] (List.getElem_mem hj')
    rw [hg]
    simp [bv, hjl, hj']
    have := u8_of_wf hwf
    simp at this
    exact this.symm
end Fm
