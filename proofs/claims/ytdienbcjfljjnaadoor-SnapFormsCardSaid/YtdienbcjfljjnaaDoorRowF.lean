/- From a row's reading of a fragment to its list. -/
import Derived.Test.YtdienbcjfljjnaaDoorSlRow
import Derived.Test.YtdienbcjfljjnaaDoorPlF
import Derived.Test.YtdienbcjfljjnaaDoorProg
namespace Go.Proofs.YtdienbcjfljjnaaDoor
open Go Go.Proofs Fm Go.RowKit Go.ChangeShapes Go.WideShapes Go.ChangeAt

set_option maxRecDepth 100000 in
theorem fields6 : Tryd.prog.underlying 107 = some (.struct #[⟨"Name", 9, 0, false, "", "", 0⟩, ⟨"Kind", 5, 1, false, "", "", 16⟩, ⟨"After", 105, 2, false, "", "", 24⟩, ⟨"Over", 9, 3, false, "", "", 48⟩, ⟨"Width", 3, 4, false, "", "", 64⟩, ⟨"Quota", 3, 5, false, "", "", 72⟩]) := by kernel_rfl
theorem cells_item : Tryd.prog.cellsOf 107 = 6 := by kernel_rfl
theorem cells_str : Tryd.prog.cellsOf 9 = 1 := by kernel_rfl
theorem cells_u8 : Tryd.prog.cellsOf 5 = 1 := by kernel_rfl
theorem cells_int : Tryd.prog.cellsOf 3 = 1 := by kernel_rfl
theorem cells_strs : Tryd.prog.cellsOf 105 = 1 := by kernel_rfl
theorem reads_strs : (rowE strE).Reads Tryd.prog 105 := reads_slice Tryd.underlying105 cells_str (reads_str Tryd.underlying9) (by decide)

set_option maxRecDepth 100000 in
theorem reads_it : itE.Reads Tryd.prog 107 := by
  intro H enc W base spare held fuel cs x h
  obtain ⟨xs, n, hfuel, hx, hlen, hxs, hf⟩ := DataW.trod_struct fields6 h
  rw [cells_item] at hlen
  match cs, hlen with
  | [v0, v1, v2, v3, v4, v5], _ =>
  have g0 : DataW.trod enc Tryd.prog W base spare held n 9 (([v0, v1, v2, v3, v4, v5].drop 0).take (Tryd.prog.cellsOf 9)) = xs[0]? := hf 0 _ rfl
  have g1 : DataW.trod enc Tryd.prog W base spare held n 5 (([v0, v1, v2, v3, v4, v5].drop 1).take (Tryd.prog.cellsOf 5)) = xs[1]? := hf 1 _ rfl
  have g2 : DataW.trod enc Tryd.prog W base spare held n 105 (([v0, v1, v2, v3, v4, v5].drop 2).take (Tryd.prog.cellsOf 105)) = xs[2]? := hf 2 _ rfl
  have g3 : DataW.trod enc Tryd.prog W base spare held n 9 (([v0, v1, v2, v3, v4, v5].drop 3).take (Tryd.prog.cellsOf 9)) = xs[3]? := hf 3 _ rfl
  have g4 : DataW.trod enc Tryd.prog W base spare held n 3 (([v0, v1, v2, v3, v4, v5].drop 4).take (Tryd.prog.cellsOf 3)) = xs[4]? := hf 4 _ rfl
  have g5 : DataW.trod enc Tryd.prog W base spare held n 3 (([v0, v1, v2, v3, v4, v5].drop 5).take (Tryd.prog.cellsOf 3)) = xs[5]? := hf 5 _ rfl
  rw [cells_str] at g0 g3
  rw [cells_u8] at g1
  rw [cells_strs] at g2
  rw [cells_int] at g4 g5
  match xs, hxs with
  | [y0, y1, y2, y3, y4, y5], _ =>
  obtain ⟨a0, r0, l0⟩ := reads_str Tryd.underlying9 enc W base spare held n [v0] y0 g0
  obtain ⟨a1, r1⟩ := reads_u8 Tryd.underlying5 enc W base spare held n [v1] y1 g1
  obtain ⟨a2, r2⟩ := reads_strs enc W base spare held n [v2] y2 g2
  obtain ⟨a3, r3, l3⟩ := reads_str Tryd.underlying9 enc W base spare held n [v3] y3 g3
  obtain ⟨a4, r4, l4⟩ := reads_int Tryd.underlying3 enc W base spare held n [v4] y4 g4
  obtain ⟨a5, r5, l5⟩ := reads_int Tryd.underlying3 enc W base spare held n [v5] y5 g5
  exact ⟨⟨a0, a1, a2, a3, a4, a5⟩, r0, r1, r2, r3, r4, r5, l0, l3, l4, l5⟩
theorem reads_items : (rowE itE).Reads Tryd.prog 50 := reads_slice Tryd.underlying50 cells_item reads_it (by decide)
set_option maxRecDepth 100000 in
/-- An item that is handed in by value. -/
theorem itv_of_val {H : Type} {enc : TypeId × Value → H} {W : World} {r : Reach} {b0 base : Nat} {spare : Nat → Bool} {held : Bool} {v : Value} {d : DataW H} {p : List MemPlace} (hv : Value.okWide Tryd.prog W r b0 107 v)
    (h : DataW.Trod enc Tryd.prog W base spare held 107 v d p) : ∃ x, ItV W x v := by
  obtain ⟨cs, rfl, hsz⟩ := okWide_struct fields6 hv
  obtain ⟨fuel, hf⟩ := h
  obtain ⟨xs, n, hfuel, hx, hlen, hxs, hf'⟩ := DataW.trod_struct fields6 (show DataW.trod enc Tryd.prog W base spare held fuel 107 cs.toList = some (d, p) by simpa [Value.cells] using hf)
  rw [cells_item] at hlen
  obtain ⟨x, hR⟩ := reads_it enc W base spare held fuel cs.toList (d, p) (by simpa [Value.cells] using hf)
  match hcs : cs.toList, hlen with
  | [v0, v1, v2, v3, v4, v5], _ =>
    rw [hcs] at hR
    obtain ⟨r0, r1, r2, r3, r4, r5, r6⟩ := hR
    obtain ⟨a, c, e, _⟩ := r2.slice
    have ecs : cs = #[v0, v1, v2, v3, v4, v5] := by rw [← hcs]
    refine ⟨x, a, x.after.length, c, ?_, by rw [← e]; exact r2, r6⟩
    rw [ecs, ← e, ← r1]
    simp only [List.getD_cons_zero, List.getD_cons_succ] at r0 r3 r4 r5
    rw [← r0, ← r3, ← r4, ← r5]
    rfl
end Go.Proofs.YtdienbcjfljjnaaDoor
