/- Rows of numbers and of values out of a row's reading. -/
import Derived.Test.YtpcgpcjleedilaaGreatDoorRowI
import Derived.Test.YtpcgpcjleedilaaGreatDoorPlO
import Derived.Test.YtpcgpcjleedilaaGreatDoorProg
namespace Fm
open Go Go.RowKit Go.ChangeShapes Go.WideShapes Go.ChangeAt

/-- What reads as data of that type lies so. -/
def Elem.Reads {α : Type} (E : Elem α) (P : Program) (T : TypeId) : Prop :=
  ∀ {H : Type} (enc : TypeId × Value → H) (W : World) (base : Nat) (spare : Nat → Bool) (held : Bool) (fuel : Nat) (cs : List Value) (x : DataW H × List MemPlace),
    DataW.trod enc P W base spare held fuel T cs = some x → ∃ a : α, E.R W a (fun j => cs.getD j .nilFunc)
theorem reads_int {P : Program} {T : TypeId} (hT : P.underlying T = some (.int .i64)) : intE.Reads P T := by
  intro H enc W base spare held fuel cs x h
  obtain ⟨n, rfl, -, hw⟩ := DataW.trod_int hT h
  exact ⟨n, rfl, i64_of_wf hw⟩
theorem reads_slice {α : Type} {E : Elem α} {P : Program} {T e : TypeId} (hT : P.underlying T = some (.slice e)) (hsz : P.cellsOf e = E.sz) (hE : E.Reads P e) (hp : 0 < E.sz) : (rowE E).Reads P T := by
  intro H enc W base spare held fuel cs x h
  rcases DataW.trod_slice hT h with ⟨rfl, -⟩ | ⟨a, len, cap, elems, rest, m, hm, rfl, -, hba, hlc, hcm, hel, hat, -, -⟩
  · exact ⟨[], Elem.Row.void E W none⟩
  · have key : ∀ k, k ≤ len → ∃ l : List α, l.length = k ∧ ∀ i (hi : i < l.length), ∃ c : Nat → Value, E.R W l[i] c ∧ ∀ j, j < E.sz → W.cell? ((a.add (i * E.sz)).add j) = some (c j) := by
      intro k
      induction k with
      | zero => exact fun _ => ⟨[], rfl, fun i hi => by simp at hi⟩
      | succ k ih =>
        intro hk
        obtain ⟨l, hl, hr⟩ := ih (by omega)
        have h1 := hat k (by omega)
        rw [hsz, List.getElem?_eq_getElem (by omega)] at h1
        obtain ⟨cs', hc', ht'⟩ := Option.bind_eq_some_iff.1 h1
        obtain ⟨t, ht⟩ := hE enc W base spare held m cs' _ ht'
        obtain ⟨_, hl4, hcell⟩ := World.cells?_some hc'
        refine ⟨l ++ [t], by simp [hl], fun i hi => ?_⟩
        by_cases hik : i < l.length
        · rw [List.getElem_append_left hik]; exact hr i hik
        · have e : i = l.length := by simp at hi; omega
          subst e
          rw [List.getElem_append_right (by omega)]
          simp only [Nat.sub_self, List.getElem_cons_zero]
          refine ⟨_, ht, fun j hj => ?_⟩
          rw [hl, hcell j hj, List.getD_eq_getElem?_getD, List.getElem?_eq_getElem (by omega)]
          rfl
    obtain ⟨l, hl, hr⟩ := key len (Nat.le_refl _)
    refine ⟨l, ?_⟩
    show E.Row W l (.slice (some a) len cap)
    by_cases h0 : len = 0
    · have : l = [] := List.eq_nil_of_length_eq_zero (by omega)
      subst this h0
      exact ⟨some a, cap, rfl, by simp, hcm, (fun h => by cases h), fun _ _ => .nilFunc, fun h => by simp at h, fun i hi => by simp at hi⟩
    · obtain ⟨c, _, h00⟩ := hr 0 (by omega)
      have h00 := h00 0 hp
      rw [Nat.zero_mul] at h00
      have ea : (a.add 0).add 0 = a := by unfold Addr.add; rw [if_pos rfl, if_pos rfl]
      rw [ea] at h00
      have hs0 : a.spot = none := by
        cases hsp : a.spot with
        | none => rfl
        | some s =>
          unfold World.cell? at h00
          cases hb : W.heap[a.block]? with
          | none => rw [hb] at h00; cases h00
          | some o => rw [hb] at h00; cases o <;> simp [hsp] at h00
      obtain ⟨b, off, spot⟩ := a
      simp only at hs0
      subst hs0
      refine Elem.Row.mk hl.symm (by omega) hcm (World.block_lt_of_cell? W _ h00) (fun i hi => ?_)
      obtain ⟨c, h1, h2⟩ := hr i hi
      refine ⟨c, h1, fun j hj => ?_⟩
      have := h2 j hj
      rw [Addr.add_lit, Addr.add_lit, Nat.add_assoc] at this
      exact this
/-- A slice that is handed in. -/
theorem row_of_val {α : Type} {E : Elem α} {P : Program} {T e : TypeId} (hT : P.underlying T = some (.slice e)) (hR : (rowE E).Reads P T)
    {H : Type} {enc : TypeId × Value → H} {W : World} {r : Reach} {b0 base : Nat} {spare : Nat → Bool} {held : Bool} {v : Value} {d : DataW H} {p : List MemPlace} (hv : Value.okWide P W r b0 T v)
    (h : DataW.Trod enc P W base spare held T v d p) : ∃ l, E.Row W l v := by
  obtain ⟨b, n, c, rfl⟩ := okWide_slice hT hv
  obtain ⟨fuel, hf⟩ := h
  obtain ⟨l, hl⟩ := hR enc W base spare held fuel _ _ hf
  exact ⟨l, hl⟩
end Fm

namespace Fm
open Go Go.RowKit
end Fm
namespace Go.Proofs.YtpcgpcjleedilaaGreatDoor
open Go Go.Proofs Fm Go.RowKit Go.ChangeShapes Go.WideShapes Go.ChangeAt
theorem cells_intN : Tryz.prog.cellsOf 3 = 1 := by kernel_rfl
theorem reads_intsN : (rowE intE).Reads Tryz.prog 41 := reads_slice Tryz.underlying41 cells_intN (reads_int Tryz.underlying3) (by decide)
end Go.Proofs.YtpcgpcjleedilaaGreatDoor
