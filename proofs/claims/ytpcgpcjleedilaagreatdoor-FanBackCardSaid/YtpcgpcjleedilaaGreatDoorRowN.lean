/- Rows of numbers and of values out of a row's reading. -/
import Derived.Test.YtpcgpcjleedilaaGreatDoorSlRow
import Derived.Test.YtpcgpcjleedilaaGreatDoorPlO
import Derived.Test.YtpcgpcjleedilaaGreatDoorProg
namespace Go.Proofs.YtpcgpcjleedilaaGreatDoor
open Go Go.Proofs Fm Go.RowKit Go.ChangeShapes Go.WideShapes Go.ChangeAt

set_option maxRecDepth 100000 in
theorem fields4 : Tryz.prog.underlying 44 = some (.struct #[⟨"Kind", 5, 0, false, "", "", 0⟩, ⟨"N", 2, 1, false, "", "", 8⟩, ⟨"S", 9, 2, false, "", "", 16⟩, ⟨"L", 42, 3, false, "", "", 32⟩]) := by kernel_rfl
theorem cells25 : Tryz.prog.cellsOf 44 = 4 := by kernel_rfl

set_option maxRecDepth 100000 in
theorem lies_of_trod {H : Type} {enc : TypeId × Value → H} {W : World} {base : Nat} {spare : Nat → Bool} {held : Bool} : ∀ (fuel : Nat) (cs : List Value) (x : DataW H × List MemPlace),
    DataW.trod enc Tryz.prog W base spare held fuel 44 cs = some x → ∃ (t : Tr), Lies W t (.agg cs.toArray) := by
  intro fuel
  induction fuel using Nat.strongRecOn with
  | _ fuel ih =>
  intro cs x h
  obtain ⟨xs, n, hfuel, hx, hlen, hxs, hf⟩ := DataW.trod_struct fields4 h
  rw [cells25] at hlen
  match cs, hlen with
  | [v0, v1, v2, v3], _ =>
  have g0 : DataW.trod enc Tryz.prog W base spare held n 5 (([v0, v1, v2, v3].drop 0).take (Tryz.prog.cellsOf 5)) = xs[0]? := hf 0 _ rfl
  have g1 : DataW.trod enc Tryz.prog W base spare held n 2 (([v0, v1, v2, v3].drop 1).take (Tryz.prog.cellsOf 2)) = xs[1]? := hf 1 _ rfl
  have g2 : DataW.trod enc Tryz.prog W base spare held n 9 (([v0, v1, v2, v3].drop 2).take (Tryz.prog.cellsOf 9)) = xs[2]? := hf 2 _ rfl
  have g3 : DataW.trod enc Tryz.prog W base spare held n 42 (([v0, v1, v2, v3].drop 3).take (Tryz.prog.cellsOf 42)) = xs[3]? := hf 3 _ rfl
  have k5 : Tryz.prog.cellsOf 5 = 1 := by kernel_rfl
  have k2 : Tryz.prog.cellsOf 2 = 1 := by kernel_rfl
  have k9 : Tryz.prog.cellsOf 9 = 1 := by kernel_rfl
  have k23 : Tryz.prog.cellsOf 42 = 1 := by kernel_rfl
  rw [k5] at g0
  rw [k2] at g1
  rw [k9] at g2
  rw [k23] at g3
  match xs, hxs with
  | [y0, y1, y2, y3], _ =>
  obtain ⟨n0, e0, -, w0⟩ := DataW.trod_int Tryz.underlying5 (show DataW.trod enc Tryz.prog W base spare held n 5 [v0] = some y0 from g0)
  obtain ⟨n1, e1, -, w1⟩ := DataW.trod_int Tryz.underlying2 (show DataW.trod enc Tryz.prog W base spare held n 2 [v1] = some y1 from g1)
  obtain ⟨s2, e2, -, w2⟩ := DataW.trod_string Tryz.underlying9 (show DataW.trod enc Tryz.prog W base spare held n 9 [v2] = some y2 from g2)
  injection e0 with e0 _
  injection e1 with e1 _
  injection e2 with e2 _
  subst e0 e1 e2
  have hs : s2.data.toList.length ≤ 9223372036854775807 := by
    have e : s2.data.toList.length = s2.size := by rw [Array.length_toList]; rfl
    unfold maxLen at w2; omega
  have hk := u8_of_wf w0
  have hstr : str s2.data.toList = s2 := str_eta s2
  rcases DataW.trod_slice Tryz.underlying42 (show DataW.trod enc Tryz.prog W base spare held n 42 [v3] = some y3 from g3) with ⟨e3, -⟩ | ⟨a, len, cap, elems, rest, m, hm, e3, -, hba, hlc, hcm, hel, hat, -, -⟩
  · injection e3 with e3 _
    subst e3
    have := Lies.mk (w := W) (k := UInt8.ofNat n0.toNat) (i64_of_wf w1) hs (LiesS.nil W none)
    rw [hk, hstr] at this
    exact ⟨_, this⟩
  · injection e3 with e3 _
    subst e3
    have hch : ∀ i, ∃ (t : Tr) (C : Nat → Value), i < len → W.cells? base (a.add (i * 4)) 4 = some [C 0, C 1, C 2, C 3] ∧ Lies W t (.agg #[C 0, C 1, C 2, C 3]) := by
      intro i
      by_cases hi : i < len
      · have h1 := hat i hi
        rw [cells25] at h1
        rw [List.getElem?_eq_getElem (by omega)] at h1
        obtain ⟨cs', hc', ht'⟩ := Option.bind_eq_some_iff.1 h1
        obtain ⟨t, ht⟩ := ih m (by omega) cs' _ ht'
        obtain ⟨_, hl4, _⟩ := World.cells?_some hc'
        match cs', hl4 with
        | [z0, z1, z2, z3], _ =>
          exact ⟨t, fun j => match j with | 0 => z0 | 1 => z1 | 2 => z2 | _ => z3, fun _ => ⟨hc', ht⟩⟩
      · exact ⟨.node 0 0 [] [], fun _ => .nilFunc, fun h => absurd h hi⟩
    let T : Nat → Tr := fun i => Classical.choose (hch i)
    have hT : ∀ i, ∃ C : Nat → Value, i < len → W.cells? base (a.add (i * 4)) 4 = some [C 0, C 1, C 2, C 3] ∧ Lies W (T i) (.agg #[C 0, C 1, C 2, C 3]) := fun i => Classical.choose_spec (hch i)
    let C : Nat → Nat → Value := fun i => Classical.choose (hT i)
    have hC : ∀ i, i < len → W.cells? base (a.add (i * 4)) 4 = some [C i 0, C i 1, C i 2, C i 3] ∧ Lies W (T i) (.agg #[C i 0, C i 1, C i 2, C i 3]) := fun i => Classical.choose_spec (hT i)
    have hlT : ((List.range len).map T).length = len := by simp
    have hL : LiesS W ((List.range len).map T) (.slice (some a) len cap) := by
      refine ⟨some a, cap, by rw [hlT], by rw [hlT]; exact hlc, hcm, (fun h => by cases h), C, fun hp => ?_, fun i hi => ?_⟩
      · rw [hlT] at hp
        have h00 := (World.cells?_some (hC 0 hp).1).2.2 0 (by omega)
        rw [Nat.zero_mul] at h00
        have ea : (a.add 0).add 0 = a := by unfold Addr.add; rw [if_pos rfl, if_pos rfl]
        rw [ea] at h00
        have hs0 : a.spot = none := by
          cases hsp : a.spot with
          | none => rfl
          | some s =>
            unfold World.cell? at h00
            cases hb : W.heap[a.block]? with
            | none => rw [hb] at h00; cases h00
            | some o => rw [hb] at h00; cases o <;> simp [hsp] at h00
        obtain ⟨b, off, spot⟩ := a
        simp only at hs0
        subst hs0
        refine ⟨b, off, rfl, World.block_lt_of_cell? W _ h00, fun i j hi hj => ?_⟩
        rw [hlT] at hi
        have h1 := (World.cells?_some (hC i hi).1).2.2 j hj
        rw [Addr.add_lit, Addr.add_lit, Nat.add_assoc] at h1
        rw [h1]
        match j, hj with
        | 0, _ => rfl
        | 1, _ => rfl
        | 2, _ => rfl
        | 3, _ => rfl
      · rw [hlT] at hi
        have := (hC i hi).2
        simpa using this
    have := Lies.mk (w := W) (k := UInt8.ofNat n0.toNat) (i64_of_wf w1) hs hL
    rw [hk, hstr] at this
    exact ⟨_, this⟩

end Go.Proofs.YtpcgpcjleedilaaGreatDoor

namespace Fm
open Go Go.RowKit
/-- Values as a row's elements. -/
def trE : Elem Tr where
  sz := 4
  R w t c := Lies w t (.agg #[c 0, c 1, c 2, c 3])
  ext hx h := h.ext hx
  loc hc h := by rw [← hc 0 (by omega), ← hc 1 (by omega), ← hc 2 (by omega), ← hc 3 (by omega)]; exact h
end Fm
namespace Go.Proofs.YtpcgpcjleedilaaGreatDoor
open Go Go.Proofs Fm Go.RowKit Go.ChangeShapes Go.WideShapes Go.ChangeAt
theorem cells_i64N : Tryz.prog.cellsOf 2 = 1 := by kernel_rfl
theorem cells_u8N : Tryz.prog.cellsOf 5 = 1 := by kernel_rfl
theorem reads_i64sN : (rowE intE).Reads Tryz.prog 65 := reads_slice Tryz.underlying65 cells_i64N (reads_int Tryz.underlying2) (by decide)
theorem reads_u8sN : (rowE u8E).Reads Tryz.prog 66 := reads_slice Tryz.underlying66 cells_u8N (reads_u8 Tryz.underlying5) (by decide)
theorem reads_trN : trE.Reads Tryz.prog 44 := by
  intro H enc W base spare held fuel cs x h
  obtain ⟨t, ht⟩ := lies_of_trod fuel cs x h
  obtain ⟨k, n, s, l⟩ := t
  obtain ⟨d, e, -⟩ := ht.parts
  injection e with e
  have e2 : cs = [.int .u8 (k.toNat : Int), .int .i64 n, .string (str s), d] := by simpa using congrArg Array.toList e
  subst e2
  exact ⟨_, ht⟩
theorem reads_valsN : (rowE trE).Reads Tryz.prog 42 := reads_slice Tryz.underlying42 cells25 reads_trN (by decide)
end Go.Proofs.YtpcgpcjleedilaaGreatDoor
