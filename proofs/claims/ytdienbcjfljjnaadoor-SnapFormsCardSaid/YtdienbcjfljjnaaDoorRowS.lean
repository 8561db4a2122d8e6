/- From a row's reading of a state to its parts. -/
import Derived.Test.YtdienbcjfljjnaaDoorRowF
import Derived.Test.YtdienbcjfljjnaaDoorRowV
import Derived.Test.YtdienbcjfljjnaaDoorPlS
namespace Go.Proofs.YtdienbcjfljjnaaDoor
open Go Go.Proofs Fm
open Go.RowKit Go.ChangeShapes Go.WideShapes Go.ChangeAt

set_option maxRecDepth 100000 in
theorem fieldsNd : Tryd.prog.underlying 47 = some (.struct #[⟨"ID", 9, 0, false, "", "", 0⟩, ⟨"Name", 9, 1, false, "", "", 16⟩, ⟨"Kind", 5, 2, false, "", "", 32⟩, ⟨"Flow", 3, 3, false, "", "", 40⟩, ⟨"Owner", 3, 4, false, "", "", 48⟩, ⟨"At", 3, 5, false, "", "", 56⟩, ⟨"After", 42, 6, false, "", "", 64⟩, ⟨"Width", 3, 7, false, "", "", 88⟩, ⟨"Quota", 3, 8, false, "", "", 96⟩, ⟨"Stand", 5, 9, false, "", "", 104⟩, ⟨"Fails", 3, 10, false, "", "", 112⟩, ⟨"Token", 2, 11, false, "", "", 120⟩, ⟨"Value", 45, 12, false, "", "", 128⟩]) := by kernel_rfl
set_option maxRecDepth 100000 in
theorem fieldsCf : Tryd.prog.underlying 23 = some (.struct #[⟨"Quota", 3, 0, false, "", "", 0⟩, ⟨"Depth", 3, 1, false, "", "", 8⟩, ⟨"Width", 3, 2, false, "", "", 16⟩, ⟨"Retry", 3, 3, false, "", "", 24⟩, ⟨"Flows", 3, 4, false, "", "", 32⟩]) := by kernel_rfl
set_option maxRecDepth 100000 in
theorem fieldsSt : Tryd.prog.underlying 26 = some (.struct #[⟨"Config", 23, 0, false, "", "", 0⟩, ⟨"Flows", 3, 5, false, "", "", 40⟩, ⟨"Nodes", 24, 6, false, "", "", 48⟩, ⟨"Token", 2, 7, false, "", "", 72⟩]) := by kernel_rfl
theorem cells_nd : Tryd.prog.cellsOf 47 = 16 := by kernel_rfl
theorem cells_cf : Tryd.prog.cellsOf 23 = 5 := by kernel_rfl
theorem cells_st : Tryd.prog.cellsOf 26 = 8 := by kernel_rfl
theorem cells_ints : Tryd.prog.cellsOf 42 = 1 := by kernel_rfl
theorem cells_nds : Tryd.prog.cellsOf 24 = 1 := by kernel_rfl
theorem cells_j64 : Tryd.prog.cellsOf 2 = 1 := by kernel_rfl
theorem reads_ints : (rowE intE).Reads Tryd.prog 42 := reads_slice Tryd.underlying42 cells_int (reads_int Tryd.underlying3) (by decide)
set_option maxRecDepth 100000 in
theorem reads_nd : ndE.Reads Tryd.prog 47 := by
  intro H enc W base spare held fuel cs x h
  obtain ⟨xs, n, hfuel, hx, hlen, hxs, hf⟩ := DataW.trod_struct fieldsNd h
  rw [cells_nd] at hlen
  match cs, hlen with
  | [v0, v1, v2, v3, v4, v5, v6, v7, v8, v9, v10, v11, v12, v13, v14, v15], _ =>
  have g0 : DataW.trod enc Tryd.prog W base spare held n 9 (([v0, v1, v2, v3, v4, v5, v6, v7, v8, v9, v10, v11, v12, v13, v14, v15].drop 0).take (Tryd.prog.cellsOf 9)) = xs[0]? := hf 0 _ rfl
  have g1 : DataW.trod enc Tryd.prog W base spare held n 9 (([v0, v1, v2, v3, v4, v5, v6, v7, v8, v9, v10, v11, v12, v13, v14, v15].drop 1).take (Tryd.prog.cellsOf 9)) = xs[1]? := hf 1 _ rfl
  have g2 : DataW.trod enc Tryd.prog W base spare held n 5 (([v0, v1, v2, v3, v4, v5, v6, v7, v8, v9, v10, v11, v12, v13, v14, v15].drop 2).take (Tryd.prog.cellsOf 5)) = xs[2]? := hf 2 _ rfl
  have g3 : DataW.trod enc Tryd.prog W base spare held n 3 (([v0, v1, v2, v3, v4, v5, v6, v7, v8, v9, v10, v11, v12, v13, v14, v15].drop 3).take (Tryd.prog.cellsOf 3)) = xs[3]? := hf 3 _ rfl
  have g4 : DataW.trod enc Tryd.prog W base spare held n 3 (([v0, v1, v2, v3, v4, v5, v6, v7, v8, v9, v10, v11, v12, v13, v14, v15].drop 4).take (Tryd.prog.cellsOf 3)) = xs[4]? := hf 4 _ rfl
  have g5 : DataW.trod enc Tryd.prog W base spare held n 3 (([v0, v1, v2, v3, v4, v5, v6, v7, v8, v9, v10, v11, v12, v13, v14, v15].drop 5).take (Tryd.prog.cellsOf 3)) = xs[5]? := hf 5 _ rfl
  have g6 : DataW.trod enc Tryd.prog W base spare held n 42 (([v0, v1, v2, v3, v4, v5, v6, v7, v8, v9, v10, v11, v12, v13, v14, v15].drop 6).take (Tryd.prog.cellsOf 42)) = xs[6]? := hf 6 _ rfl
  have g7 : DataW.trod enc Tryd.prog W base spare held n 3 (([v0, v1, v2, v3, v4, v5, v6, v7, v8, v9, v10, v11, v12, v13, v14, v15].drop 7).take (Tryd.prog.cellsOf 3)) = xs[7]? := hf 7 _ rfl
  have g8 : DataW.trod enc Tryd.prog W base spare held n 3 (([v0, v1, v2, v3, v4, v5, v6, v7, v8, v9, v10, v11, v12, v13, v14, v15].drop 8).take (Tryd.prog.cellsOf 3)) = xs[8]? := hf 8 _ rfl
  have g9 : DataW.trod enc Tryd.prog W base spare held n 5 (([v0, v1, v2, v3, v4, v5, v6, v7, v8, v9, v10, v11, v12, v13, v14, v15].drop 9).take (Tryd.prog.cellsOf 5)) = xs[9]? := hf 9 _ rfl
  have g10 : DataW.trod enc Tryd.prog W base spare held n 3 (([v0, v1, v2, v3, v4, v5, v6, v7, v8, v9, v10, v11, v12, v13, v14, v15].drop 10).take (Tryd.prog.cellsOf 3)) = xs[10]? := hf 10 _ rfl
  have g11 : DataW.trod enc Tryd.prog W base spare held n 2 (([v0, v1, v2, v3, v4, v5, v6, v7, v8, v9, v10, v11, v12, v13, v14, v15].drop 11).take (Tryd.prog.cellsOf 2)) = xs[11]? := hf 11 _ rfl
  have g12 : DataW.trod enc Tryd.prog W base spare held n 45 (([v0, v1, v2, v3, v4, v5, v6, v7, v8, v9, v10, v11, v12, v13, v14, v15].drop 12).take (Tryd.prog.cellsOf 45)) = xs[12]? := hf 12 _ rfl
  rw [cells_str] at g0
  rw [cells_str] at g1
  rw [cells_u8] at g2
  rw [cells_int] at g3
  rw [cells_int] at g4
  rw [cells_int] at g5
  rw [cells_ints] at g6
  rw [cells_int] at g7
  rw [cells_int] at g8
  rw [cells_u8] at g9
  rw [cells_int] at g10
  rw [cells_j64] at g11
  rw [cells25] at g12
  match xs, hxs with
  | [y0, y1, y2, y3, y4, y5, y6, y7, y8, y9, y10, y11, y12], _ =>
  obtain ⟨a0, r0, l0⟩ := reads_str Tryd.underlying9 enc W base spare held n [v0] y0 g0
  obtain ⟨a1, r1, l1⟩ := reads_str Tryd.underlying9 enc W base spare held n [v1] y1 g1
  obtain ⟨a2, r2⟩ := reads_u8 Tryd.underlying5 enc W base spare held n [v2] y2 g2
  obtain ⟨a3, r3, l3⟩ := reads_int Tryd.underlying3 enc W base spare held n [v3] y3 g3
  obtain ⟨a4, r4, l4⟩ := reads_int Tryd.underlying3 enc W base spare held n [v4] y4 g4
  obtain ⟨a5, r5, l5⟩ := reads_int Tryd.underlying3 enc W base spare held n [v5] y5 g5
  obtain ⟨a6, r6⟩ := reads_ints enc W base spare held n [v6] y6 g6
  obtain ⟨a7, r7, l7⟩ := reads_int Tryd.underlying3 enc W base spare held n [v7] y7 g7
  obtain ⟨a8, r8, l8⟩ := reads_int Tryd.underlying3 enc W base spare held n [v8] y8 g8
  obtain ⟨a9, r9⟩ := reads_u8 Tryd.underlying5 enc W base spare held n [v9] y9 g9
  obtain ⟨a10, r10, l10⟩ := reads_int Tryd.underlying3 enc W base spare held n [v10] y10 g10
  obtain ⟨a11, r11, l11⟩ := reads_int Tryd.underlying2 enc W base spare held n [v11] y11 g11
  obtain ⟨a12, r12⟩ := lies_of_trod n [v12, v13, v14, v15] y12 g12
  exact ⟨⟨a0, a1, a2, a3, a4, a5, a6, a7, a8, a9, a10, a11, a12⟩, ⟨r0, r1, r2, r3, r4, r5⟩, r6, ⟨r7, r8, r9, r10, r11⟩, r12, l0, l1, l3, l4, l5, l7, l8, l10, l11⟩
theorem reads_nodes : (rowE ndE).Reads Tryd.prog 24 := reads_slice Tryd.underlying24 cells_nd reads_nd (by decide)
set_option maxRecDepth 100000 in
theorem reads_cf {H : Type} {enc : TypeId × Value → H} {W : World} {base : Nat} {spare : Nat → Bool} {held : Bool} (fuel : Nat) (cs : List Value) (x : DataW H × List MemPlace)
    (h : DataW.trod enc Tryd.prog W base spare held fuel 23 cs = some x) : ∃ a b c d e : Int, cs = [.int .i64 a, .int .i64 b, .int .i64 c, .int .i64 d, .int .i64 e] ∧ isI64 a ∧ isI64 b ∧ isI64 c ∧ isI64 d ∧ isI64 e := by
  obtain ⟨xs, n, hfuel, hx, hlen, hxs, hf⟩ := DataW.trod_struct fieldsCf h
  rw [cells_cf] at hlen
  match cs, hlen with
  | [v0, v1, v2, v3, v4], _ =>
  have g0 : DataW.trod enc Tryd.prog W base spare held n 3 (([v0, v1, v2, v3, v4].drop 0).take (Tryd.prog.cellsOf 3)) = xs[0]? := hf 0 _ rfl
  have g1 : DataW.trod enc Tryd.prog W base spare held n 3 (([v0, v1, v2, v3, v4].drop 1).take (Tryd.prog.cellsOf 3)) = xs[1]? := hf 1 _ rfl
  have g2 : DataW.trod enc Tryd.prog W base spare held n 3 (([v0, v1, v2, v3, v4].drop 2).take (Tryd.prog.cellsOf 3)) = xs[2]? := hf 2 _ rfl
  have g3 : DataW.trod enc Tryd.prog W base spare held n 3 (([v0, v1, v2, v3, v4].drop 3).take (Tryd.prog.cellsOf 3)) = xs[3]? := hf 3 _ rfl
  have g4 : DataW.trod enc Tryd.prog W base spare held n 3 (([v0, v1, v2, v3, v4].drop 4).take (Tryd.prog.cellsOf 3)) = xs[4]? := hf 4 _ rfl
  rw [cells_int] at g0
  rw [cells_int] at g1
  rw [cells_int] at g2
  rw [cells_int] at g3
  rw [cells_int] at g4
  match xs, hxs with
  | [y0, y1, y2, y3, y4], _ =>
  obtain ⟨a0, r0, l0⟩ := reads_int Tryd.underlying3 enc W base spare held n [v0] y0 g0
  obtain ⟨a1, r1, l1⟩ := reads_int Tryd.underlying3 enc W base spare held n [v1] y1 g1
  obtain ⟨a2, r2, l2⟩ := reads_int Tryd.underlying3 enc W base spare held n [v2] y2 g2
  obtain ⟨a3, r3, l3⟩ := reads_int Tryd.underlying3 enc W base spare held n [v3] y3 g3
  obtain ⟨a4, r4, l4⟩ := reads_int Tryd.underlying3 enc W base spare held n [v4] y4 g4
  refine ⟨a0, a1, a2, a3, a4, ?_, l0, l1, l2, l3, l4⟩
  have e0 : v0 = .int .i64 a0 := r0
  have e1 : v1 = .int .i64 a1 := r1
  have e2 : v2 = .int .i64 a2 := r2
  have e3 : v3 = .int .i64 a3 := r3
  have e4 : v4 = .int .i64 a4 := r4
  rw [e0, e1, e2, e3, e4]
set_option maxRecDepth 100000 in
/-- A node that is handed in by value. -/
theorem ndv_of_val {H : Type} {enc : TypeId × Value → H} {W : World} {r : Reach} {b0 base : Nat} {spare : Nat → Bool} {held : Bool} {v : Value} {d : DataW H} {p : List MemPlace} (hv : Value.okWide Tryd.prog W r b0 47 v)
    (h : DataW.Trod enc Tryd.prog W base spare held 47 v d p) : ∃ o, NdV W o v := by
  obtain ⟨cs, rfl, hsz⟩ := okWide_struct fieldsNd hv
  obtain ⟨fuel, hf⟩ := h
  obtain ⟨xs, n, hfuel, hx, hlen, hxs, hf'⟩ := DataW.trod_struct fieldsNd (show DataW.trod enc Tryd.prog W base spare held fuel 47 cs.toList = some (d, p) by simpa [Value.cells] using hf)
  rw [cells_nd] at hlen
  match hcs : cs.toList, hlen with
  | [v0, v1, v2, v3, v4, v5, v6, v7, v8, v9, v10, v11, v12, v13, v14, v15], _ =>
  rw [hcs] at hf'
  have g0 : DataW.trod enc Tryd.prog W base spare held n 9 (([v0, v1, v2, v3, v4, v5, v6, v7, v8, v9, v10, v11, v12, v13, v14, v15].drop 0).take (Tryd.prog.cellsOf 9)) = xs[0]? := hf' 0 _ rfl
  have g1 : DataW.trod enc Tryd.prog W base spare held n 9 (([v0, v1, v2, v3, v4, v5, v6, v7, v8, v9, v10, v11, v12, v13, v14, v15].drop 1).take (Tryd.prog.cellsOf 9)) = xs[1]? := hf' 1 _ rfl
  have g2 : DataW.trod enc Tryd.prog W base spare held n 5 (([v0, v1, v2, v3, v4, v5, v6, v7, v8, v9, v10, v11, v12, v13, v14, v15].drop 2).take (Tryd.prog.cellsOf 5)) = xs[2]? := hf' 2 _ rfl
  have g3 : DataW.trod enc Tryd.prog W base spare held n 3 (([v0, v1, v2, v3, v4, v5, v6, v7, v8, v9, v10, v11, v12, v13, v14, v15].drop 3).take (Tryd.prog.cellsOf 3)) = xs[3]? := hf' 3 _ rfl
  have g4 : DataW.trod enc Tryd.prog W base spare held n 3 (([v0, v1, v2, v3, v4, v5, v6, v7, v8, v9, v10, v11, v12, v13, v14, v15].drop 4).take (Tryd.prog.cellsOf 3)) = xs[4]? := hf' 4 _ rfl
  have g5 : DataW.trod enc Tryd.prog W base spare held n 3 (([v0, v1, v2, v3, v4, v5, v6, v7, v8, v9, v10, v11, v12, v13, v14, v15].drop 5).take (Tryd.prog.cellsOf 3)) = xs[5]? := hf' 5 _ rfl
  have g6 : DataW.trod enc Tryd.prog W base spare held n 42 (([v0, v1, v2, v3, v4, v5, v6, v7, v8, v9, v10, v11, v12, v13, v14, v15].drop 6).take (Tryd.prog.cellsOf 42)) = xs[6]? := hf' 6 _ rfl
  have g7 : DataW.trod enc Tryd.prog W base spare held n 3 (([v0, v1, v2, v3, v4, v5, v6, v7, v8, v9, v10, v11, v12, v13, v14, v15].drop 7).take (Tryd.prog.cellsOf 3)) = xs[7]? := hf' 7 _ rfl
  have g8 : DataW.trod enc Tryd.prog W base spare held n 3 (([v0, v1, v2, v3, v4, v5, v6, v7, v8, v9, v10, v11, v12, v13, v14, v15].drop 8).take (Tryd.prog.cellsOf 3)) = xs[8]? := hf' 8 _ rfl
  have g9 : DataW.trod enc Tryd.prog W base spare held n 5 (([v0, v1, v2, v3, v4, v5, v6, v7, v8, v9, v10, v11, v12, v13, v14, v15].drop 9).take (Tryd.prog.cellsOf 5)) = xs[9]? := hf' 9 _ rfl
  have g10 : DataW.trod enc Tryd.prog W base spare held n 3 (([v0, v1, v2, v3, v4, v5, v6, v7, v8, v9, v10, v11, v12, v13, v14, v15].drop 10).take (Tryd.prog.cellsOf 3)) = xs[10]? := hf' 10 _ rfl
  have g11 : DataW.trod enc Tryd.prog W base spare held n 2 (([v0, v1, v2, v3, v4, v5, v6, v7, v8, v9, v10, v11, v12, v13, v14, v15].drop 11).take (Tryd.prog.cellsOf 2)) = xs[11]? := hf' 11 _ rfl
  have g12 : DataW.trod enc Tryd.prog W base spare held n 45 (([v0, v1, v2, v3, v4, v5, v6, v7, v8, v9, v10, v11, v12, v13, v14, v15].drop 12).take (Tryd.prog.cellsOf 45)) = xs[12]? := hf' 12 _ rfl
  rw [cells_str] at g0
  rw [cells_str] at g1
  rw [cells_u8] at g2
  rw [cells_int] at g3
  rw [cells_int] at g4
  rw [cells_int] at g5
  rw [cells_ints] at g6
  rw [cells_int] at g7
  rw [cells_int] at g8
  rw [cells_u8] at g9
  rw [cells_int] at g10
  rw [cells_j64] at g11
  rw [cells25] at g12
  match xs, hxs with
  | [y0, y1, y2, y3, y4, y5, y6, y7, y8, y9, y10, y11, y12], _ =>
  obtain ⟨a0, r0, l0⟩ := reads_str Tryd.underlying9 enc W base spare held n [v0] y0 g0
  obtain ⟨a1, r1, l1⟩ := reads_str Tryd.underlying9 enc W base spare held n [v1] y1 g1
  obtain ⟨a2, r2⟩ := reads_u8 Tryd.underlying5 enc W base spare held n [v2] y2 g2
  obtain ⟨a3, r3, l3⟩ := reads_int Tryd.underlying3 enc W base spare held n [v3] y3 g3
  obtain ⟨a4, r4, l4⟩ := reads_int Tryd.underlying3 enc W base spare held n [v4] y4 g4
  obtain ⟨a5, r5, l5⟩ := reads_int Tryd.underlying3 enc W base spare held n [v5] y5 g5
  obtain ⟨a6, r6⟩ := reads_ints enc W base spare held n [v6] y6 g6
  obtain ⟨a7, r7, l7⟩ := reads_int Tryd.underlying3 enc W base spare held n [v7] y7 g7
  obtain ⟨a8, r8, l8⟩ := reads_int Tryd.underlying3 enc W base spare held n [v8] y8 g8
  obtain ⟨a9, r9⟩ := reads_u8 Tryd.underlying5 enc W base spare held n [v9] y9 g9
  obtain ⟨a10, r10, l10⟩ := reads_int Tryd.underlying3 enc W base spare held n [v10] y10 g10
  obtain ⟨a11, r11, l11⟩ := reads_int Tryd.underlying2 enc W base spare held n [v11] y11 g11
  obtain ⟨a12, r12⟩ := lies_of_trod n [v12, v13, v14, v15] y12 g12
  obtain ⟨a, c, e, _⟩ := Elem.Row.slice r6
  have ecs : cs = #[v0, v1, v2, v3, v4, v5, v6, v7, v8, v9, v10, v11, v12, v13, v14, v15] := by rw [← hcs]
  have e0 : v0 = .string (str a0) := r0
  have e1 : v1 = .string (str a1) := r1
  have e2 : v2 = .int .u8 (a2.toNat : Int) := r2
  have e3 : v3 = .int .i64 a3 := r3
  have e4 : v4 = .int .i64 a4 := r4
  have e5 : v5 = .int .i64 a5 := r5
  have e7 : v7 = .int .i64 a7 := r7
  have e8 : v8 = .int .i64 a8 := r8
  have e9 : v9 = .int .u8 (a9.toNat : Int) := r9
  have e10 : v10 = .int .i64 a10 := r10
  have e11 : v11 = .int .i64 a11 := r11
  have e6 : v6 = .slice a a6.length c := e
  have r6' : intE.Row W a6 v6 := r6
  refine ⟨⟨a0, a1, a2, a3, a4, a5, a6, a7, a8, a9, a10, a11, a12⟩, a, a6.length, c, v12, v13, v14, v15, ?_, by rw [← e6]; exact r6', r12, l0, l1, l3, l4, l5, l7, l8, l10, l11⟩
  rw [ecs, e0, e1, e2, e3, e4, e5, e6, e7, e8, e9, e10, e11]
  rfl
set_option maxRecDepth 100000 in
/-- A state that is handed in by value. -/
theorem snv_of_val {H : Type} {enc : TypeId × Value → H} {W : World} {r : Reach} {b0 base : Nat} {spare : Nat → Bool} {held : Bool} {v : Value} {d : DataW H} {p : List MemPlace} (hv : Value.okWide Tryd.prog W r b0 26 v)
    (h : DataW.Trod enc Tryd.prog W base spare held 26 v d p) : ∃ o, SnV W o v := by
  obtain ⟨cs, rfl, hsz⟩ := okWide_struct fieldsSt hv
  obtain ⟨fuel, hf⟩ := h
  obtain ⟨xs, n, hfuel, hx, hlen, hxs, hf'⟩ := DataW.trod_struct fieldsSt (show DataW.trod enc Tryd.prog W base spare held fuel 26 cs.toList = some (d, p) by simpa [Value.cells] using hf)
  rw [cells_st] at hlen
  match hcs : cs.toList, hlen with
  | [v0, v1, v2, v3, v4, v5, v6, v7], _ =>
  rw [hcs] at hf'
  have g0 : DataW.trod enc Tryd.prog W base spare held n 23 (([v0, v1, v2, v3, v4, v5, v6, v7].drop 0).take (Tryd.prog.cellsOf 23)) = xs[0]? := hf' 0 _ rfl
  have g1 : DataW.trod enc Tryd.prog W base spare held n 3 (([v0, v1, v2, v3, v4, v5, v6, v7].drop 5).take (Tryd.prog.cellsOf 3)) = xs[1]? := hf' 1 _ rfl
  have g2 : DataW.trod enc Tryd.prog W base spare held n 24 (([v0, v1, v2, v3, v4, v5, v6, v7].drop 6).take (Tryd.prog.cellsOf 24)) = xs[2]? := hf' 2 _ rfl
  have g3 : DataW.trod enc Tryd.prog W base spare held n 2 (([v0, v1, v2, v3, v4, v5, v6, v7].drop 7).take (Tryd.prog.cellsOf 2)) = xs[3]? := hf' 3 _ rfl
  rw [cells_cf] at g0
  rw [cells_int] at g1
  rw [cells_nds] at g2
  rw [cells_j64] at g3
  match xs, hxs with
  | [y0, y1, y2, y3], _ =>
  obtain ⟨c0, c1, c2, c3, c4, r0, lc0, lc1, lc2, lc3, lc4⟩ := reads_cf n [v0, v1, v2, v3, v4] y0 g0
  obtain ⟨a1, r1, l1⟩ := reads_int Tryd.underlying3 enc W base spare held n [v5] y1 g1
  obtain ⟨a2, r2⟩ := reads_nodes enc W base spare held n [v6] y2 g2
  obtain ⟨a3, r3, l3⟩ := reads_int Tryd.underlying2 enc W base spare held n [v7] y3 g3
  obtain ⟨a, c, e, _⟩ := Elem.Row.slice r2
  have ecs : cs = #[v0, v1, v2, v3, v4, v5, v6, v7] := by rw [← hcs]
  simp only [List.cons.injEq, and_true] at r0
  obtain ⟨e0, e1, e2, e3, e4⟩ := r0
  have e5 : v5 = .int .i64 a1 := r1
  have e7 : v7 = .int .i64 a3 := r3
  have e6 : v6 = .slice a a2.length c := e
  have r2' : ndE.Row W a2 v6 := r2
  refine ⟨⟨c0, c1, c2, c3, c4, a1, a2, a3⟩, a, a2.length, c, ?_, by rw [← e6]; exact r2', lc0, lc1, lc2, lc3, lc4, l1, l3⟩
  rw [ecs, e0, e1, e2, e3, e4, e5, e6, e7]
end Go.Proofs.YtdienbcjfljjnaaDoor
