/- From a row's reading of an operation to its parts. -/
import Derived.Test.YtdienbcjfljjnaaGreatDoorRowF
import Derived.Test.YtdienbcjfljjnaaGreatDoorRowV
import Derived.Test.YtdienbcjfljjnaaGreatDoorPlO
namespace Go.Proofs.YtdienbcjfljjnaaGreatDoor
open Go Go.Proofs Fm Go.RowKit Go.ChangeShapes Go.WideShapes Go.ChangeAt

set_option maxRecDepth 100000 in
theorem fieldsOp : Tryz.prog.underlying 46 = some (.struct #[⟨"What", 5, 0, false, "", "", 0⟩, ⟨"ID", 9, 1, false, "", "", 8⟩, ⟨"Token", 2, 2, false, "", "", 24⟩, ⟨"Value", 43, 3, false, "", "", 32⟩, ⟨"Frag", 44, 7, false, "", "", 88⟩, ⟨"Quota", 3, 8, false, "", "", 112⟩]) := by kernel_rfl
theorem cells_op : Tryz.prog.cellsOf 46 = 9 := by kernel_rfl
theorem cells_i64 : Tryz.prog.cellsOf 2 = 1 := by kernel_rfl
theorem cells_items : Tryz.prog.cellsOf 44 = 1 := by kernel_rfl

set_option maxRecDepth 100000 in
/-- An operation that is handed in by value. -/
theorem opv_of_val {H : Type} {enc : TypeId × Value → H} {W : World} {r : Reach} {b0 base : Nat} {spare : Nat → Bool} {held : Bool} {v : Value} {d : DataW H} {p : List MemPlace} (hv : Value.okWide Tryz.prog W r b0 46 v)
    (h : DataW.Trod enc Tryz.prog W base spare held 46 v d p) : ∃ o, OpV W o v := by
  obtain ⟨cs, rfl, hsz⟩ := okWide_struct fieldsOp hv
  obtain ⟨fuel, hf⟩ := h
  obtain ⟨xs, n, hfuel, hx, hlen, hxs, hf'⟩ := DataW.trod_struct fieldsOp (show DataW.trod enc Tryz.prog W base spare held fuel 46 cs.toList = some (d, p) by simpa [Value.cells] using hf)
  rw [cells_op] at hlen
  match hcs : cs.toList, hlen with
  | [v0, v1, v2, v3, v4, v5, v6, v7, v8], _ =>
  rw [hcs] at hf'
  have g0 : DataW.trod enc Tryz.prog W base spare held n 5 (([v0, v1, v2, v3, v4, v5, v6, v7, v8].drop 0).take (Tryz.prog.cellsOf 5)) = xs[0]? := hf' 0 _ rfl
  have g1 : DataW.trod enc Tryz.prog W base spare held n 9 (([v0, v1, v2, v3, v4, v5, v6, v7, v8].drop 1).take (Tryz.prog.cellsOf 9)) = xs[1]? := hf' 1 _ rfl
  have g2 : DataW.trod enc Tryz.prog W base spare held n 2 (([v0, v1, v2, v3, v4, v5, v6, v7, v8].drop 2).take (Tryz.prog.cellsOf 2)) = xs[2]? := hf' 2 _ rfl
  have g3 : DataW.trod enc Tryz.prog W base spare held n 43 (([v0, v1, v2, v3, v4, v5, v6, v7, v8].drop 3).take (Tryz.prog.cellsOf 43)) = xs[3]? := hf' 3 _ rfl
  have g4 : DataW.trod enc Tryz.prog W base spare held n 44 (([v0, v1, v2, v3, v4, v5, v6, v7, v8].drop 7).take (Tryz.prog.cellsOf 44)) = xs[4]? := hf' 4 _ rfl
  have g5 : DataW.trod enc Tryz.prog W base spare held n 3 (([v0, v1, v2, v3, v4, v5, v6, v7, v8].drop 8).take (Tryz.prog.cellsOf 3)) = xs[5]? := hf' 5 _ rfl
  rw [cells_u8] at g0
  rw [cells_str] at g1
  rw [cells_i64] at g2
  rw [cells25] at g3
  rw [cells_items] at g4
  rw [cells_int] at g5
  match xs, hxs with
  | [y0, y1, y2, y3, y4, y5], _ =>
  obtain ⟨a0, r0⟩ := reads_u8 Tryz.underlying5 enc W base spare held n [v0] y0 g0
  obtain ⟨a1, r1, l1⟩ := reads_str Tryz.underlying9 enc W base spare held n [v1] y1 g1
  obtain ⟨a2, r2, l2⟩ := reads_int Tryz.underlying2 enc W base spare held n [v2] y2 g2
  obtain ⟨a3, r3⟩ := lies_of_trod n [v3, v4, v5, v6] y3 g3
  obtain ⟨a4, r4⟩ := reads_items enc W base spare held n [v7] y4 g4
  obtain ⟨a5, r5, l5⟩ := reads_int Tryz.underlying3 enc W base spare held n [v8] y5 g5
  obtain ⟨a, c, e, _⟩ := Elem.Row.slice r4
  have ecs : cs = #[v0, v1, v2, v3, v4, v5, v6, v7, v8] := by rw [← hcs]
  have e0 : v0 = .int .u8 (a0.toNat : Int) := r0
  have e1 : v1 = .string (str a1) := r1
  have e2 : v2 = .int .i64 a2 := r2
  have e7 : v7 = .slice a a4.length c := e
  have e8 : v8 = .int .i64 a5 := r5
  have r4' : itE.Row W a4 v7 := r4
  refine ⟨⟨a0, a1, a2, a3, a4, a5⟩, v3, v4, v5, v6, a, a4.length, c, ?_, r3, by rw [← e7]; exact r4', l1, l2, l5⟩
  rw [ecs, e0, e1, e2, e7, e8]
end Go.Proofs.YtdienbcjfljjnaaGreatDoor
