/- From a row's reading of an operation to its parts. -/
import Derived.Test.YtdienbcjfljjnaaDoorRowF
import Derived.Test.YtdienbcjfljjnaaDoorRowV
import Derived.Test.YtdienbcjfljjnaaDoorPlO
namespace Go.Proofs.YtdienbcjfljjnaaDoor
open Go Go.Proofs Fm Go.RowKit Go.ChangeShapes Go.WideShapes Go.ChangeAt

set_option maxRecDepth 100000 in
theorem fieldsOp : Tryd.prog.underlying 52 = some (.struct #[⟨"What", 5, 0, false, "", "", 0⟩, ⟨"ID", 9, 1, false, "", "", 8⟩, ⟨"Token", 2, 2, false, "", "", 24⟩, ⟨"Value", 45, 3, false, "", "", 32⟩, ⟨"Frag", 50, 7, false, "", "", 88⟩, ⟨"Quota", 3, 8, false, "", "", 112⟩]) := by kernel_rfl
theorem cells_op : Tryd.prog.cellsOf 52 = 9 := by kernel_rfl
theorem cells_i64 : Tryd.prog.cellsOf 2 = 1 := by kernel_rfl
theorem cells_items : Tryd.prog.cellsOf 50 = 1 := by kernel_rfl

set_option maxRecDepth 100000 in
/-- An operation that is handed in by value. -/
theorem opv_of_val {H : Type} {enc : TypeId × Value → H} {W : World} {r : Reach} {b0 base : Nat} {spare : Nat → Bool} {held : Bool} {v : Value} {d : DataW H} {p : List MemPlace} (hv : Value.okWide Tryd.prog W r b0 52 v)
    (h : DataW.Trod enc Tryd.prog W base spare held 52 v d p) : ∃ o, OpV W o v := by
  obtain ⟨cs, rfl, hsz⟩ := okWide_struct fieldsOp hv
  obtain ⟨fuel, hf⟩ := h
  obtain ⟨xs, n, hfuel, hx, hlen, hxs, hf'⟩ := DataW.trod_struct fieldsOp (show DataW.trod enc Tryd.prog W base spare held fuel 52 cs.toList = some (d, p) by simpa [Value.cells] using hf)
  rw [cells_op] at hlen
  match hcs : cs.toList, hlen with
  | [v0, v1, v2, v3, v4, v5, v6, v7, v8], _ =>
  rw [hcs] at hf'
  have g0 : DataW.trod enc Tryd.prog W base spare held n 5 (([v0, v1, v2, v3, v4, v5, v6, v7, v8].drop 0).take (Tryd.prog.cellsOf 5)) = xs[0]? := hf' 0 _ rfl
  have g1 : DataW.trod enc Tryd.prog W base spare held n 9 (([v0, v1, v2, v3, v4, v5, v6, v7, v8].drop 1).take (Tryd.prog.cellsOf 9)) = xs[1]? := hf' 1 _ rfl
  have g2 : DataW.trod enc Tryd.prog W base spare held n 2 (([v0, v1, v2, v3, v4, v5, v6, v7, v8].drop 2).take (Tryd.prog.cellsOf 2)) = xs[2]? := hf' 2 _ rfl
  have g3 : DataW.trod enc Tryd.prog W base spare held n 45 (([v0, v1, v2, v3, v4, v5, v6, v7, v8].drop 3).take (Tryd.prog.cellsOf 45)) = xs[3]? := hf' 3 _ rfl
  have g4 : DataW.trod enc Tryd.prog W base spare held n 50 (([v0, v1, v2, v3, v4, v5, v6, v7, v8].drop 7).take (Tryd.prog.cellsOf 50)) = xs[4]? := hf' 4 _ rfl
  have g5 : DataW.trod enc Tryd.prog W base spare held n 3 (([v0, v1, v2, v3, v4, v5, v6, v7, v8].drop 8).take (Tryd.prog.cellsOf 3)) = xs[5]? := hf' 5 _ rfl
  rw [cells_u8] at g0
  rw [cells_str] at g1
  rw [cells_i64] at g2
  rw [cells25] at g3
  rw [cells_items] at g4
  rw [cells_int] at g5
  match xs, hxs with
  | [y0, y1, y2, y3, y4, y5], _ =>
  obtain ⟨a0, r0⟩ := reads_u8 Tryd.underlying5 enc W base spare held n [v0] y0 g0
  obtain ⟨a1, r1, l1⟩ := reads_str Tryd.underlying9 enc W base spare held n [v1] y1 g1
  obtain ⟨a2, r2, l2⟩ := reads_int Tryd.underlying2 enc W base spare held n [v2] y2 g2
  obtain ⟨a3, r3⟩ := lies_of_trod n [v3, v4, v5, v6] y3 g3
  obtain ⟨a4, r4⟩ := reads_items enc W base spare held n [v7] y4 g4
  obtain ⟨a5, r5, l5⟩ := reads_int Tryd.underlying3 enc W base spare held n [v8] y5 g5
  obtain ⟨a, c, e, _⟩ := Elem.Row.slice r4
  have ecs : cs = #[v0, v1, v2, v3, v4, v5, v6, v7, v8] := by rw [← hcs]
  have e0 : v0 = .int .u8 (a0.toNat : Int) := r0
  have e1 : v1 = .string (str a1) := r1
  have e2 : v2 = .int .i64 a2 := r2
  have e7 : v7 = .slice a a4.length c := e
  have e8 : v8 = .int .i64 a5 := r5
  have r4' : itE.Row W a4 v7 := r4
  refine ⟨⟨a0, a1, a2, a3, a4, a5⟩, v3, v4, v5, v6, a, a4.length, c, ?_, r3, by rw [← e7]; exact r4', l1, l2, l5⟩
  rw [ecs, e0, e1, e2, e7, e8]
end Go.Proofs.YtdienbcjfljjnaaDoor
