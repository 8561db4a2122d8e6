/- Walks: Parse. -/
import Derived.Test.YtnbalamacpcanaaDoorValN
open Go.RowKit Go.Shelf
namespace Go.Proofs.YtnbalamacpcanaaDoor
open Go Go.Proofs Fm

/-- A value's tree in parts: as the walk wants it. -/
theorem ownT_four {w : World} {base : Nat} {t : Tr} {v : Value} (h : OwnT 24 w base t v) :
    ∃ (k : Int) (n : Int) (s : ByteArray) (a : Option Addr) (m c : Nat), v = .agg #[.int .u8 k, .int .i64 n, .string s, .slice a m c] := by
  obtain ⟨F, h⟩ := h
  obtain ⟨k, n, s, l⟩ := t
  obtain ⟨d, rfl, _, _, h4⟩ := h.parts
  obtain ⟨a, c, rfl⟩ := h4.slice
  exact ⟨_, _, _, _, _, _, rfl⟩

/-- A struct of four cells is written. -/
def set4W (w : World) (B : Nat) (k n s d : Value) : World := (((w.setCell ⟨B, 0, none⟩ k).setCell ⟨B, 1, none⟩ n).setCell ⟨B, 2, none⟩ s).setCell ⟨B, 3, none⟩ d
theorem set4_facts {w0 w : World} {B : Nat} {k n s d c0 c1 c2 c3 : Value} (hE : Ext w0 w) (h2 : Box4 w B c0 c1 c2 c3) (hB : w0.heap.size ≤ B) :
    Ext w0 (set4W w B k n s d) ∧ Box4 (set4W w B k n s d) B k n s d ∧ w.grownBy (set4W w B k n s d) (some B) :=
  ⟨(((hE.setCell (p := ⟨B, 0, none⟩) hB k).setCell (p := ⟨B, 1, none⟩) hB n).setCell (p := ⟨B, 2, none⟩) hB s).setCell (p := ⟨B, 3, none⟩) hB d, (((h2.set0 k).set1 n).set2 s).set3 d,
    grown_trans (grown_trans (grown_trans (grown_set w B 0 k) (grown_set _ B 1 n)) (grown_set _ B 2 s)) (grown_set _ B 3 d)⟩

/-- What Parse comes to. -/
def ParsePost (w : World) (xs : List UInt8) (e : Ending) (w' : World) : Prop :=
  match takeV' xs with
  | some (t, []) => ∃ v, e = .returned (.tuple #[v, .int .i64 0]) ∧ Ext w w' ∧ OwnT 24 w' w.heap.size t v
  | _ => e = .returned (.tuple #[.agg #[.int .u8 0, .int .i64 0, .string (str []), .slice none 0 0], .int .i64 30]) ∧ Ext w w'

set_option maxRecDepth 100000 in
set_option maxHeartbeats 2000000 in
theorem vparse_any (v : Value) (xs : List UInt8) (w : World) (h : Bytes w v xs) :
    Calls Tryd.prog 30 #[v] w (ParsePost w xs) := by
  have H := Lib.hid h
  clear h
  go_enter Tryd.func30, Tryd.ntmps30
  go_wp2_with fail
  have hE0 := (Ext.refl w).alloc (.cells #[.int .u8 0, .int .i64 0, .string { data := #[] }, .slice none 0 0] 24)
  have hb0 : Box4 (w.alloc (.cells #[.int .u8 0, .int .i64 0, .string { data := #[] }, .slice none 0 0] 24)) w.heap.size (.int .u8 0) (.int .i64 0) (.string { data := #[] }) (.slice none 0 0) := Box4.new w _ _ _ _
  change Calls _ _ _ (w.alloc (.cells #[.int .u8 0, .int .i64 0, .string { data := #[] }, .slice none 0 0] 24)) _
  have hz0 : (w.alloc (.cells #[.int .u8 0, .int .i64 0, .string { data := #[] }, .slice none 0 0] 24)).heap.size = w.heap.size + 1 := by simp
  generalize w.alloc (.cells #[.int .u8 0, .int .i64 0, .string { data := #[] }, .slice none 0 0] 24) = W at *
  refine (vtake_any v xs W (H.out.ext hE0)).mono ?_
  intro e w1 hp
  unfold TakePost at hp
  cases hT : takeV' xs with
  | none =>
    rw [hT] at hp
    obtain ⟨rfl, hE1⟩ := hp
    have hb1 := hb0.ext hE1
    obtain ⟨p0, p1, p2, p3⟩ := hb1.cells
    obtain ⟨q0, q1, q2, q3⟩ := hb1.frozen
    have hlt := hb1.lt
    have HE := Lib.hid (hE0.trans hE1)
    have HT := Lib.hid hT
    have HB := Lib.hid hb1
    clear hT hb1 hb0 hE0 hE1 hz0
    go_wp2
    change bodyPost _ _ _ _ _ (World.alloc (set4W w1 w.heap.size (.int .u8 0) (.int .i64 0) (.string { data := #[] }) (.slice none 0 0)) _)
    obtain ⟨hE2, hb2, -⟩ := set4_facts (k := .int .u8 0) (n := .int .i64 0) (s := .string { data := #[] }) (d := .slice none 0 0) HE.out HB.out (Nat.le_refl _)
    have hE3 := hE2.alloc (.cells #[.int .u8 0, .int .i64 0, .string (str []), .slice none 0 0] 24)
    have hb3 := hb2.ext ((Ext.refl _).alloc (.cells #[.int .u8 0, .int .i64 0, .string (str []), .slice none 0 0] 24))
    generalize World.alloc (set4W w1 w.heap.size (.int .u8 0) (.int .i64 0) (.string { data := #[] }) (.slice none 0 0)) (.cells #[.int .u8 0, .int .i64 0, .string (str []), .slice none 0 0] 24) = W3 at *
    obtain ⟨y0, y1, y2, y3⟩ := hb3.cells
    refine bodyPost_ret (v := .tuple #[.agg #[.int .u8 0, .int .i64 0, .string (str []), .slice none 0 0], .int .i64 30]) (by simp [results, Tryd.results30, go_sem, y0, y1, y2, y3]; rfl) rfl ?_
    unfold ParsePost; rw [HT.out]; exact ⟨rfl, hE3⟩
  | some p =>
    obtain ⟨t, r⟩ := p
    rw [hT] at hp
    obtain ⟨v1, vr, rfl, hE1, hO, hr⟩ := hp
    obtain ⟨k4, n4, s4, a4, m4, c4, rfl⟩ := ownT_four hO
    obtain ⟨ar, capr, rfl, -⟩ := id hr
    generalize hrl : r.length = lr at *
    have HRL := Lib.hid hrl
    clear hrl
    have hb1 := hb0.ext hE1
    obtain ⟨p0, p1, p2, p3⟩ := hb1.cells
    obtain ⟨q0, q1, q2, q3⟩ := hb1.frozen
    have hlt := hb1.lt
    have hz1 : w.heap.size < W.heap.size := by omega
    have HE := Lib.hid (hE0.trans hE1)
    have HT := Lib.hid hT
    have HB := Lib.hid hb1
    have HO := Lib.hid hO
    clear hT hb1 hb0 hE0 hE1 hz0 hr hO
    by_cases hl0 : 0 < lr
    · have hl0' : (0 : Int) < (lr : Int) := by omega
      go_wp2
      change bodyPost _ _ _ _ _ (World.alloc (set4W w1 w.heap.size (.int .u8 0) (.int .i64 0) (.string { data := #[] }) (.slice none 0 0)) _)
      obtain ⟨hE2, hb2, -⟩ := set4_facts (k := .int .u8 0) (n := .int .i64 0) (s := .string { data := #[] }) (d := .slice none 0 0) HE.out HB.out (Nat.le_refl _)
      have hE3 := hE2.alloc (.cells #[.int .u8 k4, .int .i64 n4, .string s4, .slice a4 m4 c4] 24)
      have hb3 := hb2.ext ((Ext.refl _).alloc (.cells #[.int .u8 k4, .int .i64 n4, .string s4, .slice a4 m4 c4] 24))
      generalize World.alloc (set4W w1 w.heap.size (.int .u8 0) (.int .i64 0) (.string { data := #[] }) (.slice none 0 0)) (.cells #[.int .u8 k4, .int .i64 n4, .string s4, .slice a4 m4 c4] 24) = W3 at *
      obtain ⟨y0, y1, y2, y3⟩ := hb3.cells
      refine bodyPost_ret (v := .tuple #[.agg #[.int .u8 0, .int .i64 0, .string (str []), .slice none 0 0], .int .i64 30]) (by simp [results, Tryd.results30, go_sem, y0, y1, y2, y3]; rfl) rfl ?_
      have hr2 : ∃ x y, r = x :: y := by
        cases r with
        | nil => have := HRL.out; simp at this; omega
        | cons x y => exact ⟨x, y, rfl⟩
      obtain ⟨x, y, rfl⟩ := hr2
      unfold ParsePost; rw [HT.out]; exact ⟨rfl, hE3⟩
    · obtain rfl : lr = 0 := by omega
      have hr2 : r = [] := List.eq_nil_of_length_eq_zero HRL.out
      have HT2 : Hid (takeV' xs = some (t, [])) := Lib.hid (by rw [HT.out, hr2])
      clear hr2
      go_wp2
      change bodyPost _ _ _ _ _ (World.alloc (set4W w1 w.heap.size (.int .u8 k4) (.int .i64 n4) (.string s4) (.slice a4 m4 c4)) _)
      obtain ⟨hE2, hb2, hg2⟩ := set4_facts (k := .int .u8 k4) (n := .int .i64 n4) (s := .string s4) (d := .slice a4 m4 c4) HE.out HB.out (Nat.le_refl _)
      have hO2 := HO.out.grown hg2 (fun b hb => by injection hb with hb; omega)
      have hE3 := hE2.alloc (.cells #[.int .u8 k4, .int .i64 n4, .string s4, .slice a4 m4 c4] 24)
      have hb3 := hb2.ext ((Ext.refl _).alloc (.cells #[.int .u8 k4, .int .i64 n4, .string s4, .slice a4 m4 c4] 24))
      have hO3 := (hO2.ext ((Ext.refl _).alloc (.cells #[.int .u8 k4, .int .i64 n4, .string s4, .slice a4 m4 c4] 24))).mono (show w.heap.size ≤ W.heap.size by omega)
      generalize World.alloc (set4W w1 w.heap.size (.int .u8 k4) (.int .i64 n4) (.string s4) (.slice a4 m4 c4)) (.cells #[.int .u8 k4, .int .i64 n4, .string s4, .slice a4 m4 c4] 24) = W3 at *
      obtain ⟨y0, y1, y2, y3⟩ := hb3.cells
      refine bodyPost_ret (v := .tuple #[.agg #[.int .u8 k4, .int .i64 n4, .string s4, .slice a4 m4 c4], .int .i64 0]) (by simp [results, Tryd.results30, go_sem, y0, y1, y2, y3]) rfl ?_
      unfold ParsePost; rw [HT2.out]; exact ⟨_, rfl, hE3, hO3⟩
end Go.Proofs.YtnbalamacpcanaaDoor
