/- What a round that appends to a box's list leaves. -/
import Derived.Test.YtnbalamacpcanaaDoorValO
open Go.RowKit Go.Shelf
namespace Go.Proofs.YtnbalamacpcanaaDoor
open Go Go.Proofs Fm

/-- What a round leaves. -/
theorem list_step2 {w0 wr w4 w6 : World} {V Pb base mid L gg cap6 : Nat} {ad : Option Addr} {cd : Nat} {ts : List Tr} {t : Tr} {x0 x1 x2 x3 : Value} {xsr : List Value} {p0 p1 p2 p3 u0 u1 u2 : Value}
    (hVb : V < base) (hPb : Pb < base) (hPV : Pb ≠ V) (hV0 : w0.heap.size ≤ V) (hE : Ext w0 wr) (hb : Box4 wr V u0 u1 u2 (.slice ad L cd)) (hB : Box4 wr Pb p0 p1 p2 p3) (hL : ts.length = L)
    (hO : OwnL 24 wr base ts (.slice ad L cd)) (hbr : base ≤ wr.heap.size) (hE4 : Ext wr w4) (hmid : wr.heap.size ≤ mid)
    (ho4 : OwnT 24 w4 mid t (.agg #[x0, x1, x2, x3]))
    (hx : (w4.alloc (.cells #[x0, x1, x2, x3] 24)).ownsRow base 24 4 (.slice ad L cd) L xsr)
    (hown6 : w6.ownsRow base 24 4 (.slice (some ⟨gg, 0, none⟩) (L + 1) cap6) (L + 1) (xsr ++ [x0, x1, x2, x3]))
    (hgrow6 : (w4.alloc (.cells #[x0, x1, x2, x3] 24)).grownBy w6 (Value.slice ad L cd).ownBlock)
    (hat6 : (Value.slice ad L cd).ownBlock = some gg ∨ gg = w4.heap.size + 1) :
    Ext w0 (w6.setCell ⟨V, 3, none⟩ (.slice (some ⟨gg, 0, none⟩) (L + 1) cap6)) ∧
      Box4 (w6.setCell ⟨V, 3, none⟩ (.slice (some ⟨gg, 0, none⟩) (L + 1) cap6)) V u0 u1 u2 (.slice (some ⟨gg, 0, none⟩) (L + 1) cap6) ∧ Box4 (w6.setCell ⟨V, 3, none⟩ (.slice (some ⟨gg, 0, none⟩) (L + 1) cap6)) Pb p0 p1 p2 p3 ∧
      OwnL 24 (w6.setCell ⟨V, 3, none⟩ (.slice (some ⟨gg, 0, none⟩) (L + 1) cap6)) base (ts ++ [t]) (.slice (some ⟨gg, 0, none⟩) (L + 1) cap6) ∧ wr.heap.size ≤ (w6.setCell ⟨V, 3, none⟩ (.slice (some ⟨gg, 0, none⟩) (L + 1) cap6)).heap.size := by
  have hRo : ∀ k, (Value.slice ad L cd).ownBlock = some k → base ≤ k := fun k hk => (hx.lt k hk).1
  have hEa : Ext w4 (w4.alloc (.cells #[x0, x1, x2, x3] 24)) := (Ext.refl w4).alloc _
  have hza : (w4.alloc (.cells #[x0, x1, x2, x3] 24)).heap.size = w4.heap.size + 1 := by simp
  generalize w4.alloc (.cells #[x0, x1, x2, x3] 24) = wa at *
  have hset := grown_set w6 V 3 (.slice (some ⟨gg, 0, none⟩) (L + 1) cap6)
  have hne : ∀ b, b < base → (Value.slice ad L cd).ownBlock ≠ some b := fun b hb e => by have := hRo b e; omega
  refine ⟨?_, ?_, ?_, ?_, ?_⟩
  · exact (((hE.trans hE4).trans hEa).grown hgrow6 (fun k hk => by have := hRo k hk; omega)).setCell (p := ⟨V, 3, none⟩) hV0 _
  · exact (((hb.ext hE4).ext hEa).kept hgrow6 (hne V hVb)).set3 _
  · exact (((hB.ext hE4).ext hEa).kept hgrow6 (hne Pb hPb)).other hPV.symm 3 _
  · subst hL
    refine (hO.snoc (w := wa) (mid := mid) hmid (fun b h1 h2 => ?_) (ho4.ext hEa) (by omega) hgrow6 hx hown6 ?_).grown hset (fun b hb => by injection hb with hb; omega)
    · rw [hEa.block b (by have := hE4.size; omega), hE4.block b h2]
    · rcases hat6 with h | h
      · exact .inl h.symm
      · right; rw [hza, ← h]; rfl
  · have h1 := hE4.size
    have h2 := hEa.size
    have h3 := hgrow6.size
    have h4 := hset.size
    omega

end Go.Proofs.YtnbalamacpcanaaDoor
