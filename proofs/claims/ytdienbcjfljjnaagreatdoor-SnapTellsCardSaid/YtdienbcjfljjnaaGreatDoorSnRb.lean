/- The reference of states: Bytes. -/
import Derived.Test.YtdienbcjfljjnaaGreatDoorSnRm
import Derived.Test.YtdienbcjfljjnaaGreatDoorWireR
import Derived.Test.YtdienbcjfljjnaaGreatDoorSnL
import Derived.Test.YtdienbcjfljjnaaGreatDoorValL
open Go.RowKit Go.Shelf
namespace Go.Proofs.YtdienbcjfljjnaaGreatDoor
open Go Go.Proofs Fm

/-- A node's cells, whole and in parts, and what it is after. -/
theorem nd_op3 {w wr : World} {l : List Nd} {a : Option Addr} {n cap : Nat} (h : ndE.Row w l (.slice a n cap)) (hE : Ext w wr) (i : Nat) (hi : i < l.length) :
    ∃ (b off : Nat), a = some ⟨b, off, none⟩ ∧ b < w.heap.size ∧ ∃ C : List Value, C.length = 16 ∧ (∀ u, u ∈ C → u.oneCell' = true) ∧ (∀ j v, C[j]? = some v → wr.cell? ⟨b, off + i * 16 + j, none⟩ = some v) ∧ NdV w l[i] (.agg C.toArray) ∧
      ∃ (aa : Option Addr) (m c : Nat) (kk nn : Int) (ss : ByteArray) (va : Option Addr) (vm vc : Nat), C = ndCells l[i] (.slice aa m c) (.int .u8 kk) (.int .i64 nn) (.string ss) (.slice va vm vc) ∧ m = l[i].after.length ∧ Lies w l[i].val (.agg #[.int .u8 kk, .int .i64 nn, .string ss, .slice va vm vc]) ∧ intE.Row w l[i].after (.slice aa m c) ∧ ndWf l[i] := by
  obtain ⟨b, off, ha, hb, C, h1, h2, h3, h4, aa, m, c, kk, nn, ss, va, vm, vc, h5, h6, h7⟩ := nd_op2 h hE i hi
  refine ⟨b, off, ha, hb, C, h1, h2, h3, h4, aa, m, c, kk, nn, ss, va, vm, vc, h5, h6, h7, ?_, h4.wf⟩
  subst h5
  obtain ⟨a', m', c', k', N', s', l', e1, e2, -⟩ := h4
  simp only [ndCells] at e1
  injection e1 with e1
  injection e1 with e1
  simp only [List.cons.injEq, and_true] at e1
  obtain ⟨-, -, -, -, -, -, e1, -⟩ := e1
  rw [e1]; exact e2
def preB (s : Sn) : List UInt8 := numsB (nH s) ++ (numB s.tok ++ numB (s.nodes.length : Int))

set_option maxRecDepth 100000 in
set_option maxHeartbeats 8000000 in
theorem rsBytes_any (s : Sn) (hs : snB s = true) (w : World) (v : Value) (hv : SnV w s v) :
    Calls Tryz.prog 12 #[v] w (RetBytes w (snBy s)) := by
  obtain ⟨a, m, c, rfl, hr, hwf⟩ := hv
  obtain rfl : m = s.nodes.length := by obtain ⟨_, _, e, _⟩ := hr.slice; injection e
  have hml : s.nodes.length ≤ 4800 := (snB_iff.1 hs).2.2.1
  have HR := Lib.hid hr
  have HW := Lib.hid hwf
  have l1 := numB_le s.cq
  have l2 := numB_le s.cd
  have l3 := numB_le s.cw
  have l4 := numB_le s.cr
  have l5 := numB_le s.cf
  have l6 := numB_le s.flows
  have l7 := numB_le s.tok
  have l8 := numB_le (s.nodes.length : Int)
  have hl : (0 : Nat) ≤ 1 := by omega
  have h1 := BoxL.new w [.int .i64 s.cq, .int .i64 s.cd, .int .i64 s.cw, .int .i64 s.cr, .int .i64 s.cf, .int .i64 s.flows, .slice a s.nodes.length c, .int .i64 s.tok] 26
  have hE := (Ext.refl w).alloc (.cells #[.int .i64 s.cq, .int .i64 s.cd, .int .i64 s.cw, .int .i64 s.cr, .int .i64 s.cf, .int .i64 s.flows, .slice a s.nodes.length c, .int .i64 s.tok] 26)
  have HAl : Hid (s.nodes.all ndB = true) := Lib.hid (snB_iff.1 hs).2.2.2
  clear hr hwf hs
  go_enter Tryz.func12, Tryz.ntmps12
  go_upto_region 2 with (fail)
  have H1 := Lib.hid h1
  have HEw := Lib.hid hE
  clear h1 hE
  generalize w.alloc _ = W1 at *
  have HS : Hid (∀ W2, Ext W1 W2 → W2.cell? ⟨w.heap.size, 0, none⟩ = some (.int .i64 s.cq) ∧ W2.cell? ⟨w.heap.size, 1, none⟩ = some (.int .i64 s.cd) ∧ W2.cell? ⟨w.heap.size, 2, none⟩ = some (.int .i64 s.cw) ∧ W2.cell? ⟨w.heap.size, 3, none⟩ = some (.int .i64 s.cr) ∧ W2.cell? ⟨w.heap.size, 4, none⟩ = some (.int .i64 s.cf) ∧ W2.cell? ⟨w.heap.size, 5, none⟩ = some (.int .i64 s.flows) ∧ W2.cell? ⟨w.heap.size, 6, none⟩ = some (.slice a s.nodes.length c) ∧ W2.cell? ⟨w.heap.size, 7, none⟩ = some (.int .i64 s.tok)) := Lib.hid (fun W2 h => by
    obtain ⟨x0, x1, x2, x3, x4, x5, x6, x7⟩ := (H1.out.ext h).n8
    exact ⟨x0, x1, x2, x3, x4, x5, x6, x7⟩)
  have HE0 : Hid (Ext W1 W1) := Lib.hid (Ext.refl _)
  have HO0 : Hid (OwnB W1.heap.size W1 (.slice none 0 0) []) := Lib.hid (World.ownsRow_nil _ _ _ _)
  refine wp_region_held_drew (S := (fun w' => w'.cell? ⟨w.heap.size, 0, none⟩ = some (.int .i64 s.cq) ∧ w'.cell? ⟨w.heap.size, 1, none⟩ = some (.int .i64 s.cd) ∧ w'.cell? ⟨w.heap.size, 2, none⟩ = some (.int .i64 s.cw) ∧ w'.cell? ⟨w.heap.size, 3, none⟩ = some (.int .i64 s.cr) ∧ w'.cell? ⟨w.heap.size, 4, none⟩ = some (.int .i64 s.cf) ∧ w'.cell? ⟨w.heap.size, 5, none⟩ = some (.int .i64 s.flows) ∧ w'.cell? ⟨w.heap.size, 6, none⟩ = some (.slice a s.nodes.length c) ∧ w'.cell? ⟨w.heap.size, 7, none⟩ = some (.int .i64 s.tok))) (by kernel_rfl) ?_ (fun hHeld => ?_)
  · (try dsimp only)
    (first | exact HS.out _ HE1.out | exact HS.out _ HE2.out | exact HS.out _ HE3.out | exact HS.out _ HE4.out | exact HS.out _ HE5.out | exact HS.out _ HE6.out | exact HS.out _ HE7.out | exact HS.out _ HE8.out | exact HS.out _ HE0.out | exact HS.out _ HE0.out.drew | exact HS.out _ HE5.out.drew)
  refine take_w 0 (some 7) (v := ?_) (by kernel_rfl) (by kernel_rfl) (by kernel_rfl) (by kernel_rfl) (by kernel_rfl) (fun _ _ _ h => h) (by rfl) ?_ (by assumption) ?_
  rotate_left
  · (intro w hSw; (try dsimp only at hSw); go_simp; try with_reducible rfl)
  try simp only [Act.put, List.setIfInBounds_toArray, List.set_cons_zero, List.set_cons_succ]
  refine take_w 1 (some 8) (v := ?_) (by kernel_rfl) (by kernel_rfl) (by kernel_rfl) (by kernel_rfl) (by kernel_rfl) (fun _ _ _ h => h) (by rfl) ?_ (by assumption) ?_
  rotate_left
  · (intro w hSw; (try dsimp only at hSw); go_simp; try with_reducible rfl)
  try simp only [Act.put, List.setIfInBounds_toArray, List.set_cons_zero, List.set_cons_succ]
  refine take_w 2 (some 9) (v := ?_) (by kernel_rfl) (by kernel_rfl) (by kernel_rfl) (by kernel_rfl) (by kernel_rfl) (fun _ _ _ h => h) (by rfl) ?_ (by assumption) ?_
  rotate_left
  · (intro w hSw; (try dsimp only at hSw); go_simp; try with_reducible rfl)
  try simp only [Act.put, List.setIfInBounds_toArray, List.set_cons_zero, List.set_cons_succ]
  refine take_w 3 (some 10) (v := ?_) (by kernel_rfl) (by kernel_rfl) (by kernel_rfl) (by kernel_rfl) (by kernel_rfl) (fun _ _ _ h => h) (by rfl) ?_ (by assumption) ?_
  rotate_left
  · (intro w hSw; (try dsimp only at hSw); go_simp; try with_reducible rfl)
  try simp only [Act.put, List.setIfInBounds_toArray, List.set_cons_zero, List.set_cons_succ]
  refine take_w 5 (some 12) (v := ?_) (by kernel_rfl) (by kernel_rfl) (by kernel_rfl) (by kernel_rfl) (by kernel_rfl) (fun _ _ _ h => h) (by rfl) ?_ (by assumption) ?_
  rotate_left
  · (intro w hSw; (try dsimp only at hSw); go_simp; try with_reducible rfl)
  try simp only [Act.put, List.setIfInBounds_toArray, List.set_cons_zero, List.set_cons_succ]
  refine take_w 6 (some 13) (v := ?_) (by kernel_rfl) (by kernel_rfl) (by kernel_rfl) (by kernel_rfl) (by kernel_rfl) (fun _ _ _ h => h) (by rfl) ?_ (by assumption) ?_
  rotate_left
  · (intro w hSw; (try dsimp only at hSw); go_simp; try with_reducible rfl)
  try simp only [Act.put, List.setIfInBounds_toArray, List.set_cons_zero, List.set_cons_succ]
  refine take_w 7 (some 14) (v := ?_) (by kernel_rfl) (by kernel_rfl) (by kernel_rfl) (by kernel_rfl) (by kernel_rfl) (fun _ _ _ h => h) (by rfl) ?_ (by assumption) ?_
  rotate_left
  · (intro w hSw; (try dsimp only at hSw); go_simp; try with_reducible rfl)
  try simp only [Act.put, List.setIfInBounds_toArray, List.set_cons_zero, List.set_cons_succ]
  refine take_w 9 (some 16) (v := ?_) (by kernel_rfl) (by kernel_rfl) (by kernel_rfl) (by kernel_rfl) (by kernel_rfl) (fun _ _ _ h => h) (by rfl) ?_ (by assumption) ?_
  rotate_left
  · (intro w hSw; (try dsimp only at hSw); go_simp; try with_reducible rfl)
  try simp only [Act.put, List.setIfInBounds_toArray, List.set_cons_zero, List.set_cons_succ]
  refine take_w 10 (some 17) (v := ?_) (by kernel_rfl) (by kernel_rfl) (by kernel_rfl) (by kernel_rfl) (by kernel_rfl) (fun _ _ _ h => h) (by rfl) ?_ (by assumption) ?_
  rotate_left
  · (intro w hSw; (try dsimp only at hSw); go_simp; try with_reducible rfl)
  try simp only [Act.put, List.setIfInBounds_toArray, List.set_cons_zero, List.set_cons_succ]
  refine take_w 11 (some 18) (v := ?_) (by kernel_rfl) (by kernel_rfl) (by kernel_rfl) (by kernel_rfl) (by kernel_rfl) (fun _ _ _ h => h) (by rfl) ?_ (by assumption) ?_
  rotate_left
  · (intro w hSw; (try dsimp only at hSw); go_simp; try with_reducible rfl)
  try simp only [Act.put, List.setIfInBounds_toArray, List.set_cons_zero, List.set_cons_succ]
  refine take_w 13 (some 20) (v := ?_) (by kernel_rfl) (by kernel_rfl) (by kernel_rfl) (by kernel_rfl) (by kernel_rfl) (fun _ _ _ h => h) (by rfl) ?_ (by assumption) ?_
  rotate_left
  · (intro w hSw; (try dsimp only at hSw); go_simp; try with_reducible rfl)
  try simp only [Act.put, List.setIfInBounds_toArray, List.set_cons_zero, List.set_cons_succ]
  refine take_w 14 (some 21) (v := ?_) (by kernel_rfl) (by kernel_rfl) (by kernel_rfl) (by kernel_rfl) (by kernel_rfl) (fun _ _ _ h => h) (by rfl) ?_ (by assumption) ?_
  rotate_left
  · (intro w hSw; (try dsimp only at hSw); go_simp; try with_reducible rfl)
  try simp only [Act.put, List.setIfInBounds_toArray, List.set_cons_zero, List.set_cons_succ]
  refine take_w 15 (some 22) (v := ?_) (by kernel_rfl) (by kernel_rfl) (by kernel_rfl) (by kernel_rfl) (by kernel_rfl) (fun _ _ _ h => h) (by rfl) ?_ (by assumption) ?_
  rotate_left
  · (intro w hSw; (try dsimp only at hSw); go_simp; try with_reducible rfl)
  try simp only [Act.put, List.setIfInBounds_toArray, List.set_cons_zero, List.set_cons_succ]
  refine take_w 17 (some 24) (v := ?_) (by kernel_rfl) (by kernel_rfl) (by kernel_rfl) (by kernel_rfl) (by kernel_rfl) (fun _ _ _ h => h) (by rfl) ?_ (by assumption) ?_
  rotate_left
  · (intro w hSw; (try dsimp only at hSw); go_simp; try with_reducible rfl)
  try simp only [Act.put, List.setIfInBounds_toArray, List.set_cons_zero, List.set_cons_succ]
  refine take_w 18 (some 25) (v := ?_) (by kernel_rfl) (by kernel_rfl) (by kernel_rfl) (by kernel_rfl) (by kernel_rfl) (fun _ _ _ h => h) (by rfl) ?_ (by assumption) ?_
  rotate_left
  · (intro w hSw; (try dsimp only at hSw); go_simp; try with_reducible rfl)
  try simp only [Act.put, List.setIfInBounds_toArray, List.set_cons_zero, List.set_cons_succ]
  refine take_w 19 (some 26) (v := ?_) (by kernel_rfl) (by kernel_rfl) (by kernel_rfl) (by kernel_rfl) (by kernel_rfl) (fun _ _ _ h => h) (by rfl) ?_ (by assumption) ?_
  rotate_left
  · (intro w hSw; (try dsimp only at hSw); go_simp; try with_reducible rfl)
  try simp only [Act.put, List.setIfInBounds_toArray, List.set_cons_zero, List.set_cons_succ]
  refine ready_one 4 (by kernel_rfl) (by kernel_rfl) (by rfl) (fun Kc hKc => ?_)
  go_simp
  refine (rnumB_any (s.cq) HW.out.1 W1.heap.size _ _ _ (HO0.out.ext (Ext.refl _).drew) (by have := HE0.out.size; exact this) (by have := hl; simp only [List.length_append, List.length_nil]; omega)).mono ?_
  rintro e y1 ⟨v1, rfl, hO, hG, -⟩
  have HE1 := Lib.hid ((HE0.out.trans (Ext.refl _).drew).grown hG (fun b hb => (World.ownsRow.lt HO0.out b hb).1))
  have HO1 := Lib.hid hO
  clear hO hG
  try go_wp2_with fail
  refine hKc.out _ _ ?_ (fun hHeld => ?_)
  · (try dsimp only)
    (first | exact HS.out _ HE1.out | exact HS.out _ HE2.out | exact HS.out _ HE3.out | exact HS.out _ HE4.out | exact HS.out _ HE5.out | exact HS.out _ HE6.out | exact HS.out _ HE7.out | exact HS.out _ HE8.out | exact HS.out _ HE0.out | exact HS.out _ HE0.out.drew | exact HS.out _ HE5.out.drew)
  clear hKc Kc
  try simp only [Act.put, List.setIfInBounds_toArray, List.set_cons_zero, List.set_cons_succ]
  refine ready_one 8 (by kernel_rfl) (by kernel_rfl) (by rfl) (fun Kc hKc => ?_)
  go_simp
  refine (rnumB_any (s.cd) HW.out.2.1 W1.heap.size _ _ _ HO1.out (by have := HE1.out.size; exact this) (by simp only [List.length_append, List.length_nil]; omega)).mono ?_
  rintro e y2 ⟨v2, rfl, hO, hG, -⟩
  have HE2 := Lib.hid (HE1.out.grown hG (fun b hb => (World.ownsRow.lt HO1.out b hb).1))
  have HO2 := Lib.hid hO
  clear hO hG
  try go_wp2_with fail
  refine hKc.out _ _ ?_ (fun hHeld => ?_)
  · (try dsimp only)
    (first | exact HS.out _ HE1.out | exact HS.out _ HE2.out | exact HS.out _ HE3.out | exact HS.out _ HE4.out | exact HS.out _ HE5.out | exact HS.out _ HE6.out | exact HS.out _ HE7.out | exact HS.out _ HE8.out | exact HS.out _ HE0.out | exact HS.out _ HE0.out.drew | exact HS.out _ HE5.out.drew)
  clear hKc Kc
  try simp only [Act.put, List.setIfInBounds_toArray, List.set_cons_zero, List.set_cons_succ]
  refine ready_one 12 (by kernel_rfl) (by kernel_rfl) (by rfl) (fun Kc hKc => ?_)
  go_simp
  refine (rnumB_any (s.cw) HW.out.2.2.1 W1.heap.size _ _ _ HO2.out (by have := HE2.out.size; exact this) (by simp only [List.length_append, List.length_nil]; omega)).mono ?_
  rintro e y3 ⟨v3, rfl, hO, hG, -⟩
  have HE3 := Lib.hid (HE2.out.grown hG (fun b hb => (World.ownsRow.lt HO2.out b hb).1))
  have HO3 := Lib.hid hO
  clear hO hG
  try go_wp2_with fail
  refine hKc.out _ _ ?_ (fun hHeld => ?_)
  · (try dsimp only)
    (first | exact HS.out _ HE1.out | exact HS.out _ HE2.out | exact HS.out _ HE3.out | exact HS.out _ HE4.out | exact HS.out _ HE5.out | exact HS.out _ HE6.out | exact HS.out _ HE7.out | exact HS.out _ HE8.out | exact HS.out _ HE0.out | exact HS.out _ HE0.out.drew | exact HS.out _ HE5.out.drew)
  clear hKc Kc
  try simp only [Act.put, List.setIfInBounds_toArray, List.set_cons_zero, List.set_cons_succ]
  refine ready_one 16 (by kernel_rfl) (by kernel_rfl) (by rfl) (fun Kc hKc => ?_)
  go_simp
  refine (rnumB_any (s.cr) HW.out.2.2.2.1 W1.heap.size _ _ _ HO3.out (by have := HE3.out.size; exact this) (by simp only [List.length_append, List.length_nil]; omega)).mono ?_
  rintro e y4 ⟨v4, rfl, hO, hG, -⟩
  have HE4 := Lib.hid (HE3.out.grown hG (fun b hb => (World.ownsRow.lt HO3.out b hb).1))
  have HO4 := Lib.hid hO
  clear hO hG
  try go_wp2_with fail
  refine hKc.out _ _ ?_ (fun hHeld => ?_)
  · (try dsimp only)
    (first | exact HS.out _ HE1.out | exact HS.out _ HE2.out | exact HS.out _ HE3.out | exact HS.out _ HE4.out | exact HS.out _ HE5.out | exact HS.out _ HE6.out | exact HS.out _ HE7.out | exact HS.out _ HE8.out | exact HS.out _ HE0.out | exact HS.out _ HE0.out.drew | exact HS.out _ HE5.out.drew)
  clear hKc Kc
  try simp only [Act.put, List.setIfInBounds_toArray, List.set_cons_zero, List.set_cons_succ]
  refine ready_one 20 (by kernel_rfl) (by kernel_rfl) (by rfl) (fun Kc hKc => ?_)
  go_simp
  refine (rnumB_any (s.cf) HW.out.2.2.2.2.1 W1.heap.size _ _ _ HO4.out (by have := HE4.out.size; exact this) (by simp only [List.length_append, List.length_nil]; omega)).mono ?_
  rintro e y5 ⟨v5, rfl, hO, hG, -⟩
  have HE5 := Lib.hid (HE4.out.grown hG (fun b hb => (World.ownsRow.lt HO4.out b hb).1))
  have HO5 := Lib.hid hO
  clear hO hG
  try go_wp2_with fail
  refine hKc.out _ _ ?_ (fun hHeld => ?_)
  · (try dsimp only)
    (first | exact HS.out _ HE1.out | exact HS.out _ HE2.out | exact HS.out _ HE3.out | exact HS.out _ HE4.out | exact HS.out _ HE5.out | exact HS.out _ HE6.out | exact HS.out _ HE7.out | exact HS.out _ HE8.out | exact HS.out _ HE0.out | exact HS.out _ HE0.out.drew | exact HS.out _ HE5.out.drew)
  clear hKc Kc
  try simp only [Act.put, List.setIfInBounds_toArray, List.set_cons_zero, List.set_cons_succ]
  refine take_w 21 (some 3) (v := ?_) (by kernel_rfl) (by kernel_rfl) (by kernel_rfl) (by kernel_rfl) (by kernel_rfl) (fun _ _ _ h => h) (by rfl) ?_ (by assumption) ?_
  rotate_left
  · (intro w hSw; (try dsimp only at hSw); go_simp; try with_reducible rfl)
  try simp only [Act.put, List.setIfInBounds_toArray, List.set_cons_zero, List.set_cons_succ]
  refine wpAnyH_done (by kernel_rfl) ?_ _
  go_upto_region 3 with (fail)
  refine wp_region_held_drew (S := (fun w' => w'.cell? ⟨w.heap.size, 0, none⟩ = some (.int .i64 s.cq) ∧ w'.cell? ⟨w.heap.size, 1, none⟩ = some (.int .i64 s.cd) ∧ w'.cell? ⟨w.heap.size, 2, none⟩ = some (.int .i64 s.cw) ∧ w'.cell? ⟨w.heap.size, 3, none⟩ = some (.int .i64 s.cr) ∧ w'.cell? ⟨w.heap.size, 4, none⟩ = some (.int .i64 s.cf) ∧ w'.cell? ⟨w.heap.size, 5, none⟩ = some (.int .i64 s.flows) ∧ w'.cell? ⟨w.heap.size, 6, none⟩ = some (.slice a s.nodes.length c) ∧ w'.cell? ⟨w.heap.size, 7, none⟩ = some (.int .i64 s.tok))) (by kernel_rfl) ?_ (fun hHeld => ?_)
  · (try dsimp only)
    (first | exact HS.out _ HE1.out | exact HS.out _ HE2.out | exact HS.out _ HE3.out | exact HS.out _ HE4.out | exact HS.out _ HE5.out | exact HS.out _ HE6.out | exact HS.out _ HE7.out | exact HS.out _ HE8.out | exact HS.out _ HE0.out | exact HS.out _ HE0.out.drew | exact HS.out _ HE5.out.drew)
  refine take_w 0 (some 28) (v := ?_) (by kernel_rfl) (by kernel_rfl) (by kernel_rfl) (by kernel_rfl) (by kernel_rfl) (fun _ _ _ h => h) (by rfl) ?_ (by assumption) ?_
  rotate_left
  · (intro w hSw; (try dsimp only at hSw); go_simp; try with_reducible rfl)
  try simp only [Act.put, List.setIfInBounds_toArray, List.set_cons_zero, List.set_cons_succ]
  refine take_w 1 (some 29) (v := ?_) (by kernel_rfl) (by kernel_rfl) (by kernel_rfl) (by kernel_rfl) (by kernel_rfl) (fun _ _ _ h => h) (by rfl) ?_ (by assumption) ?_
  rotate_left
  · (intro w hSw; (try dsimp only at hSw); go_simp; try with_reducible rfl)
  try simp only [Act.put, List.setIfInBounds_toArray, List.set_cons_zero, List.set_cons_succ]
  refine take_w 2 (some 30) (v := ?_) (by kernel_rfl) (by kernel_rfl) (by kernel_rfl) (by kernel_rfl) (by kernel_rfl) (fun _ _ _ h => h) (by rfl) ?_ (by assumption) ?_
  rotate_left
  · (intro w hSw; (try dsimp only at hSw); go_simp; try with_reducible rfl)
  try simp only [Act.put, List.setIfInBounds_toArray, List.set_cons_zero, List.set_cons_succ]
  refine take_w 4 (some 32) (v := ?_) (by kernel_rfl) (by kernel_rfl) (by kernel_rfl) (by kernel_rfl) (by kernel_rfl) (fun _ _ _ h => h) (by rfl) ?_ (by assumption) ?_
  rotate_left
  · (intro w hSw; (try dsimp only at hSw); go_simp; try with_reducible rfl)
  try simp only [Act.put, List.setIfInBounds_toArray, List.set_cons_zero, List.set_cons_succ]
  refine take_w 5 (some 33) (v := ?_) (by kernel_rfl) (by kernel_rfl) (by kernel_rfl) (by kernel_rfl) (by kernel_rfl) (fun _ _ _ h => h) (by rfl) ?_ (by assumption) ?_
  rotate_left
  · (intro w hSw; (try dsimp only at hSw); go_simp; try with_reducible rfl)
  try simp only [Act.put, List.setIfInBounds_toArray, List.set_cons_zero, List.set_cons_succ]
  refine take_w 7 (some 35) (v := ?_) (by kernel_rfl) (by kernel_rfl) (by kernel_rfl) (by kernel_rfl) (by kernel_rfl) (fun _ _ _ h => h) (by rfl) ?_ (by assumption) ?_
  rotate_left
  · (intro w hSw; (try dsimp only at hSw); go_simp; try with_reducible rfl)
  try simp only [Act.put, List.setIfInBounds_toArray, List.set_cons_zero, List.set_cons_succ]
  refine take_w 8 (some 36) (v := ?_) (by kernel_rfl) (by kernel_rfl) (by kernel_rfl) (by kernel_rfl) (by kernel_rfl) (fun _ _ _ h => h) (by rfl) ?_ (by assumption) ?_
  rotate_left
  · (intro w hSw; (try dsimp only at hSw); go_simp; try with_reducible rfl)
  try simp only [Act.put, List.setIfInBounds_toArray, List.set_cons_zero, List.set_cons_succ]
  refine take_w 9 (some 37) (v := ?_) (by kernel_rfl) (by kernel_rfl) (by kernel_rfl) (by kernel_rfl) (by kernel_rfl) (fun _ _ _ h => h) (by rfl) ?_ (by assumption) ?_
  rotate_left
  · (intro w hSw; (try dsimp only at hSw); go_simp; try with_reducible rfl)
  try simp only [Act.put, List.setIfInBounds_toArray, List.set_cons_zero, List.set_cons_succ]
  refine ready_one 3 (by kernel_rfl) (by kernel_rfl) (by rfl) (fun Kc hKc => ?_)
  go_simp
  refine (rnumB_any (s.flows) HW.out.2.2.2.2.2.1 W1.heap.size _ _ _ (HO5.out.ext (Ext.refl _).drew) (by have := HE5.out.size; exact this) (by have := hl; simp only [List.length_append, List.length_nil]; omega)).mono ?_
  rintro e y6 ⟨v6, rfl, hO, hG, -⟩
  have HE6 := Lib.hid ((HE5.out.trans (Ext.refl _).drew).grown hG (fun b hb => (World.ownsRow.lt HO5.out b hb).1))
  have HO6 := Lib.hid hO
  clear hO hG
  try go_wp2_with fail
  refine hKc.out _ _ ?_ (fun hHeld => ?_)
  · (try dsimp only)
    (first | exact HS.out _ HE1.out | exact HS.out _ HE2.out | exact HS.out _ HE3.out | exact HS.out _ HE4.out | exact HS.out _ HE5.out | exact HS.out _ HE6.out | exact HS.out _ HE7.out | exact HS.out _ HE8.out | exact HS.out _ HE0.out | exact HS.out _ HE0.out.drew | exact HS.out _ HE5.out.drew)
  clear hKc Kc
  try simp only [Act.put, List.setIfInBounds_toArray, List.set_cons_zero, List.set_cons_succ]
  refine ready_one 6 (by kernel_rfl) (by kernel_rfl) (by rfl) (fun Kc hKc => ?_)
  go_simp
  refine (rnumB_any (s.tok) HW.out.2.2.2.2.2.2 W1.heap.size _ _ _ HO6.out (by have := HE6.out.size; exact this) (by simp only [List.length_append, List.length_nil]; omega)).mono ?_
  rintro e y7 ⟨v7, rfl, hO, hG, -⟩
  have HE7 := Lib.hid (HE6.out.grown hG (fun b hb => (World.ownsRow.lt HO6.out b hb).1))
  have HO7 := Lib.hid hO
  clear hO hG
  try go_wp2_with fail
  refine hKc.out _ _ ?_ (fun hHeld => ?_)
  · (try dsimp only)
    (first | exact HS.out _ HE1.out | exact HS.out _ HE2.out | exact HS.out _ HE3.out | exact HS.out _ HE4.out | exact HS.out _ HE5.out | exact HS.out _ HE6.out | exact HS.out _ HE7.out | exact HS.out _ HE8.out | exact HS.out _ HE0.out | exact HS.out _ HE0.out.drew | exact HS.out _ HE5.out.drew)
  clear hKc Kc
  try simp only [Act.put, List.setIfInBounds_toArray, List.set_cons_zero, List.set_cons_succ]
  refine ready_one 10 (by kernel_rfl) (by kernel_rfl) (by rfl) (fun Kc hKc => ?_)
  go_simp
  refine (rnumB_any ((s.nodes.length : Int)) (by unfold isI64; omega) W1.heap.size _ _ _ HO7.out (by have := HE7.out.size; exact this) (by simp only [List.length_append, List.length_nil]; omega)).mono ?_
  rintro e y8 ⟨v8, rfl, hO, hG, -⟩
  have HE8 := Lib.hid (HE7.out.grown hG (fun b hb => (World.ownsRow.lt HO7.out b hb).1))
  have HO8 := Lib.hid hO
  clear hO hG
  try go_wp2_with fail
  refine hKc.out _ _ ?_ (fun hHeld => ?_)
  · (try dsimp only)
    (first | exact HS.out _ HE1.out | exact HS.out _ HE2.out | exact HS.out _ HE3.out | exact HS.out _ HE4.out | exact HS.out _ HE5.out | exact HS.out _ HE6.out | exact HS.out _ HE7.out | exact HS.out _ HE8.out | exact HS.out _ HE0.out | exact HS.out _ HE0.out.drew | exact HS.out _ HE5.out.drew)
  clear hKc Kc
  try simp only [Act.put, List.setIfInBounds_toArray, List.set_cons_zero, List.set_cons_succ]
  refine take_w 11 (some 3) (v := ?_) (by kernel_rfl) (by kernel_rfl) (by kernel_rfl) (by kernel_rfl) (by kernel_rfl) (fun _ _ _ h => h) (by rfl) ?_ (by assumption) ?_
  rotate_left
  · (intro w hSw; (try dsimp only at hSw); go_simp; try with_reducible rfl)
  try simp only [Act.put, List.setIfInBounds_toArray, List.set_cons_zero, List.set_cons_succ]
  refine wpAnyH_done (by kernel_rfl) ?_ _
  go_upto_region 5 with (fail)
  have HP : Hid (OwnB W1.heap.size y8 v8 (preB s)) := Lib.hid (by simpa [preB, nH, numsB_cons, numsB_nil, List.append_assoc] using HO8.out)
  have hpl : (preB s).length ≤ 100 := by unfold preB; simp only [nH, numsB_cons, numsB_nil, List.length_append, List.length_nil]; omega
  clear HO0 HO1 HO2 HO3 HO4 HO5 HO6 HO7 HO8 HE0 HE1 HE2 HE3 HE4 HE5 HE6 HE7 l1 l2 l3 l4 l5 l6 l7 l8
  go_loopw [3, 4] (fun o i wr => ∃ (j : Nat) (vo : Value), j ≤ s.nodes.length ∧ o = vo ∧ i = .int .i64 (j : Int) ∧ Hid (OwnB W1.heap.size wr vo (preB s ++ nodesBy (s.nodes.take j))) ∧ Hid (Ext W1 wr)) (fun _ i _ => s.nodes.length - (intOf i).toNat)
  case atStart => exact ⟨0, _, by omega, rfl, rfl, Lib.hid (by simpa [nodesBy] using HP.out), HE8⟩
  case round =>
  clear HP HE8
  obtain ⟨j, vo, hj, rfl, rfl, HO, HE⟩ := hrel
  have r6 := (H1.out.ext HE.out).cell 6 _ rfl
  by_cases hlt : j < s.nodes.length
  case neg =>
    have hj2 : ¬ (j : Int) < (s.nodes.length : Int) := by omega
    have HX : Hid (RetBytes w (snBy s) (.returned u3) wr) := Lib.hid ⟨u3, rfl, by
      have e : preB s ++ nodesBy (s.nodes.take j) = snBy s := by
        have e1 : j = s.nodes.length := by omega
        rw [e1, List.take_length]; unfold preB snBy; simp only [List.append_assoc]
      rw [← e]
      exact ⟨ownsRow_base HO.out HEw.out.size, HEw.out.trans HE.out⟩⟩
    clear HO
    go_wp2
    go_ret
    exact HX.out
  have hj0 : (0 : Int) ≤ (j : Int) := by omega
  have hj1 : (j : Int) < (s.nodes.length : Int) := by omega
  obtain ⟨b, off, rfl, hb, C, hC, hC1, hRg, hs, aa, mm, cc, kk, nn, ss, va, vm, vc, hCe, hmm, hl2, hrw, hwn⟩ := nd_op3 HR.out (HEw.out.trans HE.out) j hlt
  have HC := Lib.hid (show wr.rangeAt b (off + j * 16) C from hRg)
  have HC0 := Lib.hid hC
  have HC1 := Lib.hid hC1
  have HCe := Lib.hid hCe
  have HCi : Hid ((Tryz.prog.info? 59).map (·.size) = some C.length) := Lib.hid (by rw [hC]; exact info_ndL)
  have HLv := Lib.hid (hl2.ext HEw.out)
  have HRw := Lib.hid (hrw.ext HEw.out)
  have HWn := Lib.hid hwn
  have HMm := Lib.hid hmm
  have HNb := Lib.hid (List.all_eq_true.1 HAl.out _ (List.getElem_mem hlt))
  clear hC hC1 hRg hs hb hCe hmm hl2 hrw hwn
  go_upto_region 8 with (first | (refine wpList_load_mid rfl _ _ rfl _ _ rfl _ _ HC.out Tryz.underlying59 rfl HCi.out ?_) | (refine wpList_storeBox rfl _ _ _ rfl _ _ _ _ rfl rfl rfl rfl info_ndL rfl HC0.out HC1.out ?_))
  obtain ⟨n, hn⟩ : ∃ n, n = s.nodes[j] := ⟨_, rfl⟩
  rw [← hn] at HCe HLv HRw HWn HMm HNb
  have HNn := Lib.hid hn
  clear hn
  obtain rfl : mm = n.after.length := HMm.out
  clear HMm
  have hid := (idB_iff.1 (ndB_iff.1 HNb.out).1).2.2
  have hnm : n.name.length ≤ 20 := by
    rcases (ndB_iff.1 HNb.out).2.1 with q | q
    · omega
    · exact (nameB_iff.1 q).2.2
  have hE1 := (Ext.refl wr).alloc (.cells C.toArray 59)
  have hX := BoxL.new wr C 59
  generalize wr.alloc (.cells C.toArray 59) = x0 at *
  have hBne : u3.ownBlock ≠ some wr.heap.size := fun e => by have := (World.ownsRow.lt HO.out _ e).2; omega
  have hal : (preB s ++ nodesBy (s.nodes.take j)).length ≤ 200000000 := by
    rw [List.length_append]
    have h1 := nodesBy_le (l := s.nodes.take j) (List.all_eq_true.2 (fun x hx => List.all_eq_true.1 HAl.out x (List.mem_of_mem_take hx)))
    rw [List.length_take] at h1
    omega
  obtain ⟨acc, hacc⟩ : ∃ acc, acc = preB s ++ nodesBy (s.nodes.take j) := ⟨_, rfl⟩
  rw [← hacc] at HO hal
  have HAcc := Lib.hid hacc
  clear hacc r6
  rw [HCe.out] at hX
  unfold ndCells at hX
  have t1l := textB_le n.id
  have t2l := textB_le n.name
  have O0 := Lib.hid (HO.out.ext hE1)
  have E0 := Lib.hid (HE.out.trans hE1)
  have N0 := Lib.hid hBne
  have B0 := Lib.hid hX
  clear hX hBne hE1 HO HE
  have ⟨p0, p1, p2, p3, p4, p5, p6, p7, p8, p9, p10, p11, p12, p13, p14, p15⟩ := B0.out.n16
  go_wp2_with fail
  refine (rtext_any n.id (by omega) x0).mono ?_
  rintro e z1 ⟨t1, rfl, r⟩
  have o1 := O0.out.ext r.2
  have b1 := r.bytes
  have e1 := E0.out.trans r.2
  have z1 := B0.out.ext r.2
  have g1 := z1.lt
  clear r p0 p1 p2 p3 p4 p5 p6 p7 p8 p9 p10 p11 p12 p13 p14 p15
  go_wp2_with (at_builtin; refine appN rfl _ _ rfl rfl o1 rfl b1 (by (try simp only [List.length_append]); omega) e1.size z1 N0.out ?_)
  intro u1 x1 oo nq xx bb
  have O1 : Hid (OwnB W1.heap.size x1 u1 (acc ++ textB n.id)) := Lib.hid (by first | exact oo | simpa only [List.append_assoc] using oo)
  have E1 : Hid (Ext W1 x1) := Lib.hid (e1.then bb)
  have N1 := Lib.hid nq
  have B1 := Lib.hid xx
  clear oo nq xx bb o1 b1 e1 z1 g1 O0 E0 N0 B0
  have ⟨p0, p1, p2, p3, p4, p5, p6, p7, p8, p9, p10, p11, p12, p13, p14, p15⟩ := B1.out.n16
  go_wp2_with fail
  refine (rtext_any n.name (by omega) x1).mono ?_
  rintro e z2 ⟨t2, rfl, r⟩
  have o1 := O1.out.ext r.2
  have b1 := r.bytes
  have e1 := E1.out.trans r.2
  have z1 := B1.out.ext r.2
  have g1 := z1.lt
  clear r p0 p1 p2 p3 p4 p5 p6 p7 p8 p9 p10 p11 p12 p13 p14 p15
  go_wp2_with (at_builtin; refine appN rfl _ _ rfl rfl o1 rfl b1 (by (try simp only [List.length_append]); omega) e1.size z1 N1.out ?_)
  intro u2 x2 oo nq xx bb
  have O2 : Hid (OwnB W1.heap.size x2 u2 (acc ++ textB n.id ++ textB n.name)) := Lib.hid (by first | exact oo | simpa only [List.append_assoc] using oo)
  have E2 : Hid (Ext W1 x2) := Lib.hid (e1.then bb)
  have N2 := Lib.hid nq
  have B2 := Lib.hid xx
  clear oo nq xx bb o1 b1 e1 z1 g1 O1 E1 N1 B1
  obtain ⟨L2, hL2⟩ : ∃ L, L = acc ++ textB n.id ++ textB n.name := ⟨_, rfl⟩
  rw [← hL2] at O2
  have ll2 : L2.length ≤ 200001000 := by rw [hL2]; simp only [List.length_append]; omega
  have HL2 := Lib.hid hL2
  obtain ⟨wo, hwo⟩ : ∃ wo : World, wo = wr := ⟨_, rfl⟩
  subst hwo
  have HSN : Hid (∀ W2, BoxL W2 wo.heap.size [.string (str n.id), .string (str n.name), .int .u8 (n.kind.toNat : Int), .int .i64 n.flow, .int .i64 n.owner, .int .i64 n.place, .slice aa n.after.length cc, .int .i64 n.width, .int .i64 n.quota, .int .u8 (n.stand.toNat : Int), .int .i64 n.fails, .int .i64 n.tok, .int .u8 kk, .int .i64 nn, .string ss, .slice va vm vc] → W2.cell? ⟨wo.heap.size, 0, none⟩ = some (.string (str n.id)) ∧ W2.cell? ⟨wo.heap.size, 1, none⟩ = some (.string (str n.name)) ∧ W2.cell? ⟨wo.heap.size, 2, none⟩ = some (.int .u8 (n.kind.toNat : Int)) ∧ W2.cell? ⟨wo.heap.size, 3, none⟩ = some (.int .i64 n.flow) ∧ W2.cell? ⟨wo.heap.size, 4, none⟩ = some (.int .i64 n.owner) ∧ W2.cell? ⟨wo.heap.size, 5, none⟩ = some (.int .i64 n.place) ∧ W2.cell? ⟨wo.heap.size, 6, none⟩ = some (.slice aa n.after.length cc) ∧ W2.cell? ⟨wo.heap.size, 7, none⟩ = some (.int .i64 n.width) ∧ W2.cell? ⟨wo.heap.size, 8, none⟩ = some (.int .i64 n.quota) ∧ W2.cell? ⟨wo.heap.size, 9, none⟩ = some (.int .u8 (n.stand.toNat : Int)) ∧ W2.cell? ⟨wo.heap.size, 10, none⟩ = some (.int .i64 n.fails) ∧ W2.cell? ⟨wo.heap.size, 11, none⟩ = some (.int .i64 n.tok) ∧ W2.cell? ⟨wo.heap.size, 12, none⟩ = some (.int .u8 kk) ∧ W2.cell? ⟨wo.heap.size, 13, none⟩ = some (.int .i64 nn) ∧ W2.cell? ⟨wo.heap.size, 14, none⟩ = some (.string ss) ∧ W2.cell? ⟨wo.heap.size, 15, none⟩ = some (.slice va vm vc)) := Lib.hid (fun W2 h => h.n16)
  have hwk : IntKind.i64.wrap (n.kind.toNat : Int) = (n.kind.toNat : Int) := IntWalk.i64_in _ (by have := n.kind.toNat_lt; omega)
  have hws : IntKind.i64.wrap (n.stand.toNat : Int) = (n.stand.toNat : Int) := IntWalk.i64_in _ (by have := n.stand.toNat_lt; omega)
  have hml2 : n.after.length ≤ 21 := (ndB_iff.1 HNb.out).2.2.2.2.1
  clear hL2 hal hid hnm t1l t2l
  go_upto_region 10 with (fail)
  refine wp_region_held_drew (S := (fun w' => w'.cell? ⟨wo.heap.size, 0, none⟩ = some (.string (str n.id)) ∧ w'.cell? ⟨wo.heap.size, 1, none⟩ = some (.string (str n.name)) ∧ w'.cell? ⟨wo.heap.size, 2, none⟩ = some (.int .u8 (n.kind.toNat : Int)) ∧ w'.cell? ⟨wo.heap.size, 3, none⟩ = some (.int .i64 n.flow) ∧ w'.cell? ⟨wo.heap.size, 4, none⟩ = some (.int .i64 n.owner) ∧ w'.cell? ⟨wo.heap.size, 5, none⟩ = some (.int .i64 n.place) ∧ w'.cell? ⟨wo.heap.size, 6, none⟩ = some (.slice aa n.after.length cc) ∧ w'.cell? ⟨wo.heap.size, 7, none⟩ = some (.int .i64 n.width) ∧ w'.cell? ⟨wo.heap.size, 8, none⟩ = some (.int .i64 n.quota) ∧ w'.cell? ⟨wo.heap.size, 9, none⟩ = some (.int .u8 (n.stand.toNat : Int)) ∧ w'.cell? ⟨wo.heap.size, 10, none⟩ = some (.int .i64 n.fails) ∧ w'.cell? ⟨wo.heap.size, 11, none⟩ = some (.int .i64 n.tok) ∧ w'.cell? ⟨wo.heap.size, 12, none⟩ = some (.int .u8 kk) ∧ w'.cell? ⟨wo.heap.size, 13, none⟩ = some (.int .i64 nn) ∧ w'.cell? ⟨wo.heap.size, 14, none⟩ = some (.string ss) ∧ w'.cell? ⟨wo.heap.size, 15, none⟩ = some (.slice va vm vc))) (by kernel_rfl) ?_ (fun hHeld => ?_)
  · (try dsimp only)
    (first | exact HSN.out _ B2.out | exact HSN.out _ B3.out | exact HSN.out _ B4.out | exact HSN.out _ B5.out | exact HSN.out _ B6.out | exact HSN.out _ B7.out | exact HSN.out _ B8.out | exact HSN.out _ B9.out | exact HSN.out _ B10.out | exact HSN.out _ B11.out | exact HSN.out _ B12.out | exact HSN.out _ B13.out | exact HSN.out _ B14.out | exact HSN.out _ B15.out | exact HSN.out _ (B2.out.ext (Ext.refl _).drew) | exact HSN.out _ (B8.out.ext (Ext.refl _).drew))
  refine take_w 0 (some 61) (v := ?_) (by kernel_rfl) (by kernel_rfl) (by kernel_rfl) (by kernel_rfl) (by kernel_rfl) (fun _ _ _ h => h) (by rfl) ?_ (by assumption) ?_
  rotate_left
  · (intro w hSw; (try dsimp only at hSw); go_simp; try with_reducible rfl)
  try simp only [Act.put, List.setIfInBounds_toArray, List.set_cons_zero, List.set_cons_succ]
  refine take_w 1 (some 62) (v := ?_) (by kernel_rfl) (by kernel_rfl) (by kernel_rfl) (by kernel_rfl) (by kernel_rfl) (fun _ _ _ h => h) (by rfl) ?_ (by assumption) ?_
  rotate_left
  · (intro w hSw; (try dsimp only at hSw); go_simp; try with_reducible rfl)
  try simp only [Act.put, List.setIfInBounds_toArray, List.set_cons_zero, List.set_cons_succ]
  refine take_w 2 (some 63) (v := ?_) (by kernel_rfl) (by kernel_rfl) (by kernel_rfl) (by kernel_rfl) (by kernel_rfl) (fun _ _ _ h => h) (by rfl) ?_ (by assumption) ?_
  rotate_left
  · (intro w hSw; (try dsimp only at hSw); go_simp; try with_reducible rfl)
  try simp only [Act.put, List.setIfInBounds_toArray, List.set_cons_zero, List.set_cons_succ]
  refine take_w 3 (some 64) (v := ?_) (by kernel_rfl) (by kernel_rfl) (by kernel_rfl) (by kernel_rfl) (by kernel_rfl) (fun _ _ _ h => h) (by rfl) ?_ (by assumption) ?_
  rotate_left
  · (intro w hSw; (try dsimp only at hSw); go_simp; try with_reducible rfl)
  try simp only [Act.put, List.setIfInBounds_toArray, List.set_cons_zero, List.set_cons_succ]
  refine take_w 5 (some 66) (v := ?_) (by kernel_rfl) (by kernel_rfl) (by kernel_rfl) (by kernel_rfl) (by kernel_rfl) (fun _ _ _ h => h) (by rfl) ?_ (by assumption) ?_
  rotate_left
  · (intro w hSw; (try dsimp only at hSw); go_simp; try with_reducible rfl)
  try simp only [Act.put, List.setIfInBounds_toArray, List.set_cons_zero, List.set_cons_succ]
  refine take_w 6 (some 67) (v := ?_) (by kernel_rfl) (by kernel_rfl) (by kernel_rfl) (by kernel_rfl) (by kernel_rfl) (fun _ _ _ h => h) (by rfl) ?_ (by assumption) ?_
  rotate_left
  · (intro w hSw; (try dsimp only at hSw); go_simp; try with_reducible rfl)
  try simp only [Act.put, List.setIfInBounds_toArray, List.set_cons_zero, List.set_cons_succ]
  refine take_w 8 (some 69) (v := ?_) (by kernel_rfl) (by kernel_rfl) (by kernel_rfl) (by kernel_rfl) (by kernel_rfl) (fun _ _ _ h => h) (by rfl) ?_ (by assumption) ?_
  rotate_left
  · (intro w hSw; (try dsimp only at hSw); go_simp; try with_reducible rfl)
  try simp only [Act.put, List.setIfInBounds_toArray, List.set_cons_zero, List.set_cons_succ]
  refine take_w 9 (some 70) (v := ?_) (by kernel_rfl) (by kernel_rfl) (by kernel_rfl) (by kernel_rfl) (by kernel_rfl) (fun _ _ _ h => h) (by rfl) ?_ (by assumption) ?_
  rotate_left
  · (intro w hSw; (try dsimp only at hSw); go_simp; try with_reducible rfl)
  try simp only [Act.put, List.setIfInBounds_toArray, List.set_cons_zero, List.set_cons_succ]
  refine take_w 11 (some 72) (v := ?_) (by kernel_rfl) (by kernel_rfl) (by kernel_rfl) (by kernel_rfl) (by kernel_rfl) (fun _ _ _ h => h) (by rfl) ?_ (by assumption) ?_
  rotate_left
  · (intro w hSw; (try dsimp only at hSw); go_simp; try with_reducible rfl)
  try simp only [Act.put, List.setIfInBounds_toArray, List.set_cons_zero, List.set_cons_succ]
  refine take_w 12 (some 73) (v := ?_) (by kernel_rfl) (by kernel_rfl) (by kernel_rfl) (by kernel_rfl) (by kernel_rfl) (fun _ _ _ h => h) (by rfl) ?_ (by assumption) ?_
  rotate_left
  · (intro w hSw; (try dsimp only at hSw); go_simp; try with_reducible rfl)
  try simp only [Act.put, List.setIfInBounds_toArray, List.set_cons_zero, List.set_cons_succ]
  refine take_w 14 (some 75) (v := ?_) (by kernel_rfl) (by kernel_rfl) (by kernel_rfl) (by kernel_rfl) (by kernel_rfl) (fun _ _ _ h => h) (by rfl) ?_ (by assumption) ?_
  rotate_left
  · (intro w hSw; (try dsimp only at hSw); go_simp; try with_reducible rfl)
  try simp only [Act.put, List.setIfInBounds_toArray, List.set_cons_zero, List.set_cons_succ]
  refine take_w 15 (some 76) (v := ?_) (by kernel_rfl) (by kernel_rfl) (by kernel_rfl) (by kernel_rfl) (by kernel_rfl) (fun _ _ _ h => h) (by rfl) ?_ (by assumption) ?_
  rotate_left
  · (intro w hSw; (try dsimp only at hSw); go_simp; try with_reducible rfl)
  try simp only [Act.put, List.setIfInBounds_toArray, List.set_cons_zero, List.set_cons_succ]
  refine take_w 16 (some 77) (v := ?_) (by kernel_rfl) (by kernel_rfl) (by kernel_rfl) (by kernel_rfl) (by kernel_rfl) (fun _ _ _ h => h) (by rfl) ?_ (by assumption) ?_
  rotate_left
  · (intro w hSw; (try dsimp only at hSw); go_simp; try with_reducible rfl)
  try simp only [Act.put, List.setIfInBounds_toArray, List.set_cons_zero, List.set_cons_succ]
  refine ready_one 4 (by kernel_rfl) (by kernel_rfl) (by rfl) (fun Kc hKc => ?_)
  go_simp
  refine (rnumB_any ((n.kind.toNat : Int)) (isI64_u8 _) W1.heap.size _ _ _ (O2.out.ext (Ext.refl _).drew) (by have := E2.out.size; exact this) (by omega)).mono ?_
  rintro e x3 ⟨u3, rfl, hO, hG, hAt⟩
  have E3 := Lib.hid ((E2.out.trans (Ext.refl _).drew).grown hG (fun b hb => (World.ownsRow.lt O2.out b hb).1))
  have N3 : Hid (u3.ownBlock ≠ some wo.heap.size) := Lib.hid (fun q => by
    rcases hAt with e | ⟨b, e, hb⟩
    · rw [e] at q; exact N2.out q
    · rw [e] at q; injection q with q; have := (B2.out.ext (Ext.refl _).drew).lt; omega)
  have B3 := Lib.hid ((B2.out.ext (Ext.refl _).drew).kept hG N2.out)
  obtain ⟨L3, hL⟩ : ∃ L, L = L2 ++ numB ((n.kind.toNat : Int)) := ⟨_, rfl⟩
  rw [← hL] at hO
  have ll3 : L3.length ≤ 200001300 := by
    have := numB_le ((n.kind.toNat : Int))
    rw [hL, List.length_append]; omega
  have HL3 := Lib.hid hL
  have O3 := Lib.hid hO
  clear hO hG hL hAt
  try go_wp2_with fail
  refine hKc.out _ _ ?_ (fun hHeld => ?_)
  · (try dsimp only)
    (first | exact HSN.out _ B2.out | exact HSN.out _ B3.out | exact HSN.out _ B4.out | exact HSN.out _ B5.out | exact HSN.out _ B6.out | exact HSN.out _ B7.out | exact HSN.out _ B8.out | exact HSN.out _ B9.out | exact HSN.out _ B10.out | exact HSN.out _ B11.out | exact HSN.out _ B12.out | exact HSN.out _ B13.out | exact HSN.out _ B14.out | exact HSN.out _ B15.out | exact HSN.out _ (B2.out.ext (Ext.refl _).drew) | exact HSN.out _ (B8.out.ext (Ext.refl _).drew))
  clear hKc Kc
  try simp only [Act.put, List.setIfInBounds_toArray, List.set_cons_zero, List.set_cons_succ]
  refine ready_one 7 (by kernel_rfl) (by kernel_rfl) (by rfl) (fun Kc hKc => ?_)
  go_simp
  refine (rnumB_any (n.flow) HWn.out.2.2.1 W1.heap.size _ _ _ (O3.out) (by have := E3.out.size; exact this) (by omega)).mono ?_
  rintro e x4 ⟨u4, rfl, hO, hG, hAt⟩
  have E4 := Lib.hid ((E3.out).grown hG (fun b hb => (World.ownsRow.lt O3.out b hb).1))
  have N4 : Hid (u4.ownBlock ≠ some wo.heap.size) := Lib.hid (fun q => by
    rcases hAt with e | ⟨b, e, hb⟩
    · rw [e] at q; exact N3.out q
    · rw [e] at q; injection q with q; have := (B3.out).lt; omega)
  have B4 := Lib.hid ((B3.out).kept hG N3.out)
  obtain ⟨L4, hL⟩ : ∃ L, L = L3 ++ numB (n.flow) := ⟨_, rfl⟩
  rw [← hL] at hO
  have ll4 : L4.length ≤ 200001400 := by
    have := numB_le (n.flow)
    rw [hL, List.length_append]; omega
  have HL4 := Lib.hid hL
  have O4 := Lib.hid hO
  clear hO hG hL hAt
  try go_wp2_with fail
  refine hKc.out _ _ ?_ (fun hHeld => ?_)
  · (try dsimp only)
    (first | exact HSN.out _ B2.out | exact HSN.out _ B3.out | exact HSN.out _ B4.out | exact HSN.out _ B5.out | exact HSN.out _ B6.out | exact HSN.out _ B7.out | exact HSN.out _ B8.out | exact HSN.out _ B9.out | exact HSN.out _ B10.out | exact HSN.out _ B11.out | exact HSN.out _ B12.out | exact HSN.out _ B13.out | exact HSN.out _ B14.out | exact HSN.out _ B15.out | exact HSN.out _ (B2.out.ext (Ext.refl _).drew) | exact HSN.out _ (B8.out.ext (Ext.refl _).drew))
  clear hKc Kc
  try simp only [Act.put, List.setIfInBounds_toArray, List.set_cons_zero, List.set_cons_succ]
  refine ready_one 10 (by kernel_rfl) (by kernel_rfl) (by rfl) (fun Kc hKc => ?_)
  go_simp
  refine (rnumB_any (n.owner) HWn.out.2.2.2.1 W1.heap.size _ _ _ (O4.out) (by have := E4.out.size; exact this) (by omega)).mono ?_
  rintro e x5 ⟨u5, rfl, hO, hG, hAt⟩
  have E5 := Lib.hid ((E4.out).grown hG (fun b hb => (World.ownsRow.lt O4.out b hb).1))
  have N5 : Hid (u5.ownBlock ≠ some wo.heap.size) := Lib.hid (fun q => by
    rcases hAt with e | ⟨b, e, hb⟩
    · rw [e] at q; exact N4.out q
    · rw [e] at q; injection q with q; have := (B4.out).lt; omega)
  have B5 := Lib.hid ((B4.out).kept hG N4.out)
  obtain ⟨L5, hL⟩ : ∃ L, L = L4 ++ numB (n.owner) := ⟨_, rfl⟩
  rw [← hL] at hO
  have ll5 : L5.length ≤ 200001500 := by
    have := numB_le (n.owner)
    rw [hL, List.length_append]; omega
  have HL5 := Lib.hid hL
  have O5 := Lib.hid hO
  clear hO hG hL hAt
  try go_wp2_with fail
  refine hKc.out _ _ ?_ (fun hHeld => ?_)
  · (try dsimp only)
    (first | exact HSN.out _ B2.out | exact HSN.out _ B3.out | exact HSN.out _ B4.out | exact HSN.out _ B5.out | exact HSN.out _ B6.out | exact HSN.out _ B7.out | exact HSN.out _ B8.out | exact HSN.out _ B9.out | exact HSN.out _ B10.out | exact HSN.out _ B11.out | exact HSN.out _ B12.out | exact HSN.out _ B13.out | exact HSN.out _ B14.out | exact HSN.out _ B15.out | exact HSN.out _ (B2.out.ext (Ext.refl _).drew) | exact HSN.out _ (B8.out.ext (Ext.refl _).drew))
  clear hKc Kc
  try simp only [Act.put, List.setIfInBounds_toArray, List.set_cons_zero, List.set_cons_succ]
  refine ready_one 13 (by kernel_rfl) (by kernel_rfl) (by rfl) (fun Kc hKc => ?_)
  go_simp
  refine (rnumB_any (n.place) HWn.out.2.2.2.2.1 W1.heap.size _ _ _ (O5.out) (by have := E5.out.size; exact this) (by omega)).mono ?_
  rintro e x6 ⟨u6, rfl, hO, hG, hAt⟩
  have E6 := Lib.hid ((E5.out).grown hG (fun b hb => (World.ownsRow.lt O5.out b hb).1))
  have N6 : Hid (u6.ownBlock ≠ some wo.heap.size) := Lib.hid (fun q => by
    rcases hAt with e | ⟨b, e, hb⟩
    · rw [e] at q; exact N5.out q
    · rw [e] at q; injection q with q; have := (B5.out).lt; omega)
  have B6 := Lib.hid ((B5.out).kept hG N5.out)
  obtain ⟨L6, hL⟩ : ∃ L, L = L5 ++ numB (n.place) := ⟨_, rfl⟩
  rw [← hL] at hO
  have ll6 : L6.length ≤ 200001600 := by
    have := numB_le (n.place)
    rw [hL, List.length_append]; omega
  have HL6 := Lib.hid hL
  have O6 := Lib.hid hO
  clear hO hG hL hAt
  try go_wp2_with fail
  refine hKc.out _ _ ?_ (fun hHeld => ?_)
  · (try dsimp only)
    (first | exact HSN.out _ B2.out | exact HSN.out _ B3.out | exact HSN.out _ B4.out | exact HSN.out _ B5.out | exact HSN.out _ B6.out | exact HSN.out _ B7.out | exact HSN.out _ B8.out | exact HSN.out _ B9.out | exact HSN.out _ B10.out | exact HSN.out _ B11.out | exact HSN.out _ B12.out | exact HSN.out _ B13.out | exact HSN.out _ B14.out | exact HSN.out _ B15.out | exact HSN.out _ (B2.out.ext (Ext.refl _).drew) | exact HSN.out _ (B8.out.ext (Ext.refl _).drew))
  clear hKc Kc
  try simp only [Act.put, List.setIfInBounds_toArray, List.set_cons_zero, List.set_cons_succ]
  refine ready_one 17 (by kernel_rfl) (by kernel_rfl) (by rfl) (fun Kc hKc => ?_)
  go_simp
  refine (rnumB_any ((n.after.length : Int)) (by unfold isI64; omega) W1.heap.size _ _ _ (O6.out) (by have := E6.out.size; exact this) (by omega)).mono ?_
  rintro e x7 ⟨u7, rfl, hO, hG, hAt⟩
  have E7 := Lib.hid ((E6.out).grown hG (fun b hb => (World.ownsRow.lt O6.out b hb).1))
  have N7 : Hid (u7.ownBlock ≠ some wo.heap.size) := Lib.hid (fun q => by
    rcases hAt with e | ⟨b, e, hb⟩
    · rw [e] at q; exact N6.out q
    · rw [e] at q; injection q with q; have := (B6.out).lt; omega)
  have B7 := Lib.hid ((B6.out).kept hG N6.out)
  obtain ⟨L7, hL⟩ : ∃ L, L = L6 ++ numB ((n.after.length : Int)) := ⟨_, rfl⟩
  rw [← hL] at hO
  have ll7 : L7.length ≤ 200001700 := by
    have := numB_le ((n.after.length : Int))
    rw [hL, List.length_append]; omega
  have HL7 := Lib.hid hL
  have O7 := Lib.hid hO
  clear hO hG hL hAt
  try go_wp2_with fail
  refine hKc.out _ _ ?_ (fun hHeld => ?_)
  · (try dsimp only)
    (first | exact HSN.out _ B2.out | exact HSN.out _ B3.out | exact HSN.out _ B4.out | exact HSN.out _ B5.out | exact HSN.out _ B6.out | exact HSN.out _ B7.out | exact HSN.out _ B8.out | exact HSN.out _ B9.out | exact HSN.out _ B10.out | exact HSN.out _ B11.out | exact HSN.out _ B12.out | exact HSN.out _ B13.out | exact HSN.out _ B14.out | exact HSN.out _ B15.out | exact HSN.out _ (B2.out.ext (Ext.refl _).drew) | exact HSN.out _ (B8.out.ext (Ext.refl _).drew))
  clear hKc Kc
  try simp only [Act.put, List.setIfInBounds_toArray, List.set_cons_zero, List.set_cons_succ]
  refine take_w 18 (some 3) (v := ?_) (by kernel_rfl) (by kernel_rfl) (by kernel_rfl) (by kernel_rfl) (by kernel_rfl) (fun _ _ _ h => h) (by rfl) ?_ (by assumption) ?_
  rotate_left
  · (intro w hSw; (try dsimp only at hSw); go_simp; try with_reducible rfl)
  try simp only [Act.put, List.setIfInBounds_toArray, List.set_cons_zero, List.set_cons_succ]
  refine wpAnyH_done (by kernel_rfl) ?_ _
  clear O2 E2 N2 B2 O3 E3 N3 B3 O4 E4 N4 B4 O5 E5 N5 B5 O6 E6 N6 B6 ll2 ll3 ll4 ll5 ll6
  go_wp2_with fail
  go_loopw [3, 6] (fun o i wr => ∃ (k : Nat) (vo : Value) (L : List UInt8), k ≤ n.after.length ∧ o = vo ∧ i = .int .i64 (k : Int) ∧ Hid (L = L7 ++ numsB (n.after.take k)) ∧ L.length ≤ 200001800 + 10 * k ∧ Hid (OwnB W1.heap.size wr vo L) ∧ Hid (Ext W1 wr) ∧ Hid (vo.ownBlock ≠ some wo.heap.size) ∧ Hid (BoxL wr wo.heap.size [.string (str n.id), .string (str n.name), .int .u8 (n.kind.toNat : Int), .int .i64 n.flow, .int .i64 n.owner, .int .i64 n.place, .slice aa n.after.length cc, .int .i64 n.width, .int .i64 n.quota, .int .u8 (n.stand.toNat : Int), .int .i64 n.fails, .int .i64 n.tok, .int .u8 kk, .int .i64 nn, .string ss, .slice va vm vc])) (fun _ i _ => n.after.length - (intOf i).toNat)
  case atStart => exact ⟨0, _, L7, by omega, rfl, rfl, Lib.hid (by simp [numsB_nil]), by omega, O7, E7, N7, B7⟩
  case round =>
    obtain ⟨k, vo, L8, hk, rfl, rfl, HL8, ll8, O8, E8, N8, B8⟩ := hrel
    clear O7 E7 N7 B7 ll7
    have ⟨p0, p1, p2, p3, p4, p5, p6, p7, p8, p9, p10, p11, p12, p13, p14, p15⟩ := B8.out.n16
    by_cases hlk : k < n.after.length
    case pos =>
      have hk0 : (0 : Int) ≤ (k : Int) := by omega
      have hk1 : (k : Int) < (n.after.length : Int) := by omega
      obtain ⟨b2, of2, rfl, -, hcell, hy64⟩ := int_at HRw.out E8.out k hlk
      obtain ⟨y, hy⟩ : ∃ y, y = n.after[k] := ⟨_, rfl⟩
      rw [← hy] at hcell hy64
      have HY := Lib.hid hy
      have HY64 := Lib.hid hy64
      clear hy hy64
      go_wp2_with fail
      refine (rnumB_any y HY64.out W1.heap.size _ _ _ O8.out (by have := E8.out.size; exact this) (by omega)).mono ?_
      rintro e x9 ⟨u9, rfl, hO, hG, hAt⟩
      have E9 := Lib.hid (E8.out.grown hG (fun b hb => (World.ownsRow.lt O8.out b hb).1))
      have N9 : Hid (u9.ownBlock ≠ some wo.heap.size) := Lib.hid (fun q => by
        rcases hAt with e | ⟨b, e, hb⟩
        · rw [e] at q; exact N8.out q
        · rw [e] at q; injection q with q; have := B8.out.lt; omega)
      have B9 := Lib.hid (B8.out.kept hG N8.out)
      have O9 := Lib.hid hO
      have HLn : Hid (L8 ++ numB y = L7 ++ numsB (n.after.take (k + 1))) := Lib.hid (by
        rw [HL8.out, List.take_succ_eq_append_getElem hlk, ← HY.out, numsB_append, numsB_one, List.append_assoc])
      have lln : (L8 ++ numB y).length ≤ 200001800 + 10 * (k + 1) := by
        have := numB_le y
        rw [List.length_append]; omega
      generalize L8 ++ numB y = L9 at *
      clear hO hG hAt HL8 ll8 O8 E8 N8 B8 p0 p1 p2 p3 p4 p5 p6 p7 p8 p9 p10 p11 p12 p13 p14 p15 hcell HY HY64
      go_wp2
      go_roundw
      case rel => exact ⟨k + 1, _, L9, by omega, rfl, by go_num, HLn, lln, O9, E9, N9, B9⟩
      case measure => simp [intOf]; omega
    case neg =>
    have hk2 : ¬ (k : Int) < (n.after.length : Int) := by omega
    have HL8' : Hid (L8 = L7 ++ numsB n.after) := Lib.hid (by
      rw [HL8.out, List.take_of_length_le (by omega)])
    have ll8' : L8.length ≤ 200001000 + 1100 := by omega
    clear HL8 ll8
    have ll8 := ll8'
    clear ll8' p0 p1 p2 p3 p4 p5 p6 p7 p8 p9 p10 p11 p12 p13 p14 p15
    obtain ⟨u8, hu8⟩ : ∃ u, u = u3 := ⟨_, rfl⟩
    subst hu8
    have ⟨p0, p1, p2, p3, p4, p5, p6, p7, p8, p9, p10, p11, p12, p13, p14, p15⟩ := B8.out.n16
    go_upto_region 15 with (fail)
    clear hk2 p0 p1 p2 p3 p4 p5 p6 p7 p8 p9 p10 p11 p12 p13 p14 p15 hlk
    refine wp_region_held_drew (S := (fun w' => w'.cell? ⟨wo.heap.size, 0, none⟩ = some (.string (str n.id)) ∧ w'.cell? ⟨wo.heap.size, 1, none⟩ = some (.string (str n.name)) ∧ w'.cell? ⟨wo.heap.size, 2, none⟩ = some (.int .u8 (n.kind.toNat : Int)) ∧ w'.cell? ⟨wo.heap.size, 3, none⟩ = some (.int .i64 n.flow) ∧ w'.cell? ⟨wo.heap.size, 4, none⟩ = some (.int .i64 n.owner) ∧ w'.cell? ⟨wo.heap.size, 5, none⟩ = some (.int .i64 n.place) ∧ w'.cell? ⟨wo.heap.size, 6, none⟩ = some (.slice aa n.after.length cc) ∧ w'.cell? ⟨wo.heap.size, 7, none⟩ = some (.int .i64 n.width) ∧ w'.cell? ⟨wo.heap.size, 8, none⟩ = some (.int .i64 n.quota) ∧ w'.cell? ⟨wo.heap.size, 9, none⟩ = some (.int .u8 (n.stand.toNat : Int)) ∧ w'.cell? ⟨wo.heap.size, 10, none⟩ = some (.int .i64 n.fails) ∧ w'.cell? ⟨wo.heap.size, 11, none⟩ = some (.int .i64 n.tok) ∧ w'.cell? ⟨wo.heap.size, 12, none⟩ = some (.int .u8 kk) ∧ w'.cell? ⟨wo.heap.size, 13, none⟩ = some (.int .i64 nn) ∧ w'.cell? ⟨wo.heap.size, 14, none⟩ = some (.string ss) ∧ w'.cell? ⟨wo.heap.size, 15, none⟩ = some (.slice va vm vc))) (by kernel_rfl) ?_ (fun hHeld => ?_)
    · (try dsimp only)
      (first | exact HSN.out _ B2.out | exact HSN.out _ B3.out | exact HSN.out _ B4.out | exact HSN.out _ B5.out | exact HSN.out _ B6.out | exact HSN.out _ B7.out | exact HSN.out _ B8.out | exact HSN.out _ B9.out | exact HSN.out _ B10.out | exact HSN.out _ B11.out | exact HSN.out _ B12.out | exact HSN.out _ B13.out | exact HSN.out _ B14.out | exact HSN.out _ B15.out | exact HSN.out _ (B2.out.ext (Ext.refl _).drew) | exact HSN.out _ (B8.out.ext (Ext.refl _).drew))
    refine take_w 0 (some 93) (v := ?_) (by kernel_rfl) (by kernel_rfl) (by kernel_rfl) (by kernel_rfl) (by kernel_rfl) (fun _ _ _ h => h) (by rfl) ?_ (by assumption) ?_
    rotate_left
    · (intro w hSw; (try dsimp only at hSw); go_simp; try with_reducible rfl)
    try simp only [Act.put, List.setIfInBounds_toArray, List.set_cons_zero, List.set_cons_succ]
    refine take_w 1 (some 94) (v := ?_) (by kernel_rfl) (by kernel_rfl) (by kernel_rfl) (by kernel_rfl) (by kernel_rfl) (fun _ _ _ h => h) (by rfl) ?_ (by assumption) ?_
    rotate_left
    · (intro w hSw; (try dsimp only at hSw); go_simp; try with_reducible rfl)
    try simp only [Act.put, List.setIfInBounds_toArray, List.set_cons_zero, List.set_cons_succ]
    refine take_w 2 (some 95) (v := ?_) (by kernel_rfl) (by kernel_rfl) (by kernel_rfl) (by kernel_rfl) (by kernel_rfl) (fun _ _ _ h => h) (by rfl) ?_ (by assumption) ?_
    rotate_left
    · (intro w hSw; (try dsimp only at hSw); go_simp; try with_reducible rfl)
    try simp only [Act.put, List.setIfInBounds_toArray, List.set_cons_zero, List.set_cons_succ]
    refine take_w 4 (some 97) (v := ?_) (by kernel_rfl) (by kernel_rfl) (by kernel_rfl) (by kernel_rfl) (by kernel_rfl) (fun _ _ _ h => h) (by rfl) ?_ (by assumption) ?_
    rotate_left
    · (intro w hSw; (try dsimp only at hSw); go_simp; try with_reducible rfl)
    try simp only [Act.put, List.setIfInBounds_toArray, List.set_cons_zero, List.set_cons_succ]
    refine take_w 5 (some 98) (v := ?_) (by kernel_rfl) (by kernel_rfl) (by kernel_rfl) (by kernel_rfl) (by kernel_rfl) (fun _ _ _ h => h) (by rfl) ?_ (by assumption) ?_
    rotate_left
    · (intro w hSw; (try dsimp only at hSw); go_simp; try with_reducible rfl)
    try simp only [Act.put, List.setIfInBounds_toArray, List.set_cons_zero, List.set_cons_succ]
    refine take_w 7 (some 100) (v := ?_) (by kernel_rfl) (by kernel_rfl) (by kernel_rfl) (by kernel_rfl) (by kernel_rfl) (fun _ _ _ h => h) (by rfl) ?_ (by assumption) ?_
    rotate_left
    · (intro w hSw; (try dsimp only at hSw); go_simp; try with_reducible rfl)
    try simp only [Act.put, List.setIfInBounds_toArray, List.set_cons_zero, List.set_cons_succ]
    refine take_w 8 (some 101) (v := ?_) (by kernel_rfl) (by kernel_rfl) (by kernel_rfl) (by kernel_rfl) (by kernel_rfl) (fun _ _ _ h => h) (by rfl) ?_ (by assumption) ?_
    rotate_left
    · (intro w hSw; (try dsimp only at hSw); go_simp; try with_reducible rfl)
    try simp only [Act.put, List.setIfInBounds_toArray, List.set_cons_zero, List.set_cons_succ]
    refine take_w 9 (some 102) (v := ?_) (by kernel_rfl) (by kernel_rfl) (by kernel_rfl) (by kernel_rfl) (by kernel_rfl) (fun _ _ _ h => h) (by rfl) ?_ (by assumption) ?_
    rotate_left
    · (intro w hSw; (try dsimp only at hSw); go_simp; try with_reducible rfl)
    try simp only [Act.put, List.setIfInBounds_toArray, List.set_cons_zero, List.set_cons_succ]
    refine take_w 11 (some 104) (v := ?_) (by kernel_rfl) (by kernel_rfl) (by kernel_rfl) (by kernel_rfl) (by kernel_rfl) (fun _ _ _ h => h) (by rfl) ?_ (by assumption) ?_
    rotate_left
    · (intro w hSw; (try dsimp only at hSw); go_simp; try with_reducible rfl)
    try simp only [Act.put, List.setIfInBounds_toArray, List.set_cons_zero, List.set_cons_succ]
    refine take_w 12 (some 105) (v := ?_) (by kernel_rfl) (by kernel_rfl) (by kernel_rfl) (by kernel_rfl) (by kernel_rfl) (fun _ _ _ h => h) (by rfl) ?_ (by assumption) ?_
    rotate_left
    · (intro w hSw; (try dsimp only at hSw); go_simp; try with_reducible rfl)
    try simp only [Act.put, List.setIfInBounds_toArray, List.set_cons_zero, List.set_cons_succ]
    refine take_w 14 (some 107) (v := ?_) (by kernel_rfl) (by kernel_rfl) (by kernel_rfl) (by kernel_rfl) (by kernel_rfl) (fun _ _ _ h => h) (by rfl) ?_ (by assumption) ?_
    rotate_left
    · (intro w hSw; (try dsimp only at hSw); go_simp; try with_reducible rfl)
    try simp only [Act.put, List.setIfInBounds_toArray, List.set_cons_zero, List.set_cons_succ]
    refine take_w 15 (some 108) (v := ?_) (by kernel_rfl) (by kernel_rfl) (by kernel_rfl) (by kernel_rfl) (by kernel_rfl) (fun _ _ _ h => h) (by rfl) ?_ (by assumption) ?_
    rotate_left
    · (intro w hSw; (try dsimp only at hSw); go_simp; try with_reducible rfl)
    try simp only [Act.put, List.setIfInBounds_toArray, List.set_cons_zero, List.set_cons_succ]
    refine ready_one 3 (by kernel_rfl) (by kernel_rfl) (by rfl) (fun Kc hKc => ?_)
    go_simp
    refine (rnumB_any (n.width) HWn.out.2.2.2.2.2.1 W1.heap.size _ _ _ (O8.out.ext (Ext.refl _).drew) (by have := E8.out.size; exact this) (by omega)).mono ?_
    rintro e x9 ⟨u9, rfl, hO, hG, hAt⟩
    have E9 := Lib.hid ((E8.out.trans (Ext.refl _).drew).grown hG (fun b hb => (World.ownsRow.lt O8.out b hb).1))
    have N9 : Hid (u9.ownBlock ≠ some wo.heap.size) := Lib.hid (fun q => by
      rcases hAt with e | ⟨b, e, hb⟩
      · rw [e] at q; exact N8.out q
      · rw [e] at q; injection q with q; have := (B8.out.ext (Ext.refl _).drew).lt; omega)
    have B9 := Lib.hid ((B8.out.ext (Ext.refl _).drew).kept hG N8.out)
    obtain ⟨L9, hL⟩ : ∃ L, L = L8 ++ numB (n.width) := ⟨_, rfl⟩
    rw [← hL] at hO
    have ll9 : L9.length ≤ 200002900 := by
      have := numB_le (n.width)
      rw [hL, List.length_append]; omega
    have HL9 := Lib.hid hL
    have O9 := Lib.hid hO
    clear hO hG hL hAt
    try go_wp2_with fail
    refine hKc.out _ _ ?_ (fun hHeld => ?_)
    · (try dsimp only)
      (first | exact HSN.out _ B2.out | exact HSN.out _ B3.out | exact HSN.out _ B4.out | exact HSN.out _ B5.out | exact HSN.out _ B6.out | exact HSN.out _ B7.out | exact HSN.out _ B8.out | exact HSN.out _ B9.out | exact HSN.out _ B10.out | exact HSN.out _ B11.out | exact HSN.out _ B12.out | exact HSN.out _ B13.out | exact HSN.out _ B14.out | exact HSN.out _ B15.out | exact HSN.out _ (B2.out.ext (Ext.refl _).drew) | exact HSN.out _ (B8.out.ext (Ext.refl _).drew))
    clear hKc Kc
    try simp only [Act.put, List.setIfInBounds_toArray, List.set_cons_zero, List.set_cons_succ]
    refine ready_one 6 (by kernel_rfl) (by kernel_rfl) (by rfl) (fun Kc hKc => ?_)
    go_simp
    refine (rnumB_any (n.quota) HWn.out.2.2.2.2.2.2.1 W1.heap.size _ _ _ (O9.out) (by have := E9.out.size; exact this) (by omega)).mono ?_
    rintro e x10 ⟨u10, rfl, hO, hG, hAt⟩
    have E10 := Lib.hid ((E9.out).grown hG (fun b hb => (World.ownsRow.lt O9.out b hb).1))
    have N10 : Hid (u10.ownBlock ≠ some wo.heap.size) := Lib.hid (fun q => by
      rcases hAt with e | ⟨b, e, hb⟩
      · rw [e] at q; exact N9.out q
      · rw [e] at q; injection q with q; have := (B9.out).lt; omega)
    have B10 := Lib.hid ((B9.out).kept hG N9.out)
    obtain ⟨L10, hL⟩ : ∃ L, L = L9 ++ numB (n.quota) := ⟨_, rfl⟩
    rw [← hL] at hO
    have ll10 : L10.length ≤ 200003000 := by
      have := numB_le (n.quota)
      rw [hL, List.length_append]; omega
    have HL10 := Lib.hid hL
    have O10 := Lib.hid hO
    clear hO hG hL hAt
    try go_wp2_with fail
    refine hKc.out _ _ ?_ (fun hHeld => ?_)
    · (try dsimp only)
      (first | exact HSN.out _ B2.out | exact HSN.out _ B3.out | exact HSN.out _ B4.out | exact HSN.out _ B5.out | exact HSN.out _ B6.out | exact HSN.out _ B7.out | exact HSN.out _ B8.out | exact HSN.out _ B9.out | exact HSN.out _ B10.out | exact HSN.out _ B11.out | exact HSN.out _ B12.out | exact HSN.out _ B13.out | exact HSN.out _ B14.out | exact HSN.out _ B15.out | exact HSN.out _ (B2.out.ext (Ext.refl _).drew) | exact HSN.out _ (B8.out.ext (Ext.refl _).drew))
    clear hKc Kc
    try simp only [Act.put, List.setIfInBounds_toArray, List.set_cons_zero, List.set_cons_succ]
    refine ready_one 10 (by kernel_rfl) (by kernel_rfl) (by rfl) (fun Kc hKc => ?_)
    go_simp
    refine (rnumB_any ((n.stand.toNat : Int)) (isI64_u8 _) W1.heap.size _ _ _ (O10.out) (by have := E10.out.size; exact this) (by omega)).mono ?_
    rintro e x11 ⟨u11, rfl, hO, hG, hAt⟩
    have E11 := Lib.hid ((E10.out).grown hG (fun b hb => (World.ownsRow.lt O10.out b hb).1))
    have N11 : Hid (u11.ownBlock ≠ some wo.heap.size) := Lib.hid (fun q => by
      rcases hAt with e | ⟨b, e, hb⟩
      · rw [e] at q; exact N10.out q
      · rw [e] at q; injection q with q; have := (B10.out).lt; omega)
    have B11 := Lib.hid ((B10.out).kept hG N10.out)
    obtain ⟨L11, hL⟩ : ∃ L, L = L10 ++ numB ((n.stand.toNat : Int)) := ⟨_, rfl⟩
    rw [← hL] at hO
    have ll11 : L11.length ≤ 200003100 := by
      have := numB_le ((n.stand.toNat : Int))
      rw [hL, List.length_append]; omega
    have HL11 := Lib.hid hL
    have O11 := Lib.hid hO
    clear hO hG hL hAt
    try go_wp2_with fail
    refine hKc.out _ _ ?_ (fun hHeld => ?_)
    · (try dsimp only)
      (first | exact HSN.out _ B2.out | exact HSN.out _ B3.out | exact HSN.out _ B4.out | exact HSN.out _ B5.out | exact HSN.out _ B6.out | exact HSN.out _ B7.out | exact HSN.out _ B8.out | exact HSN.out _ B9.out | exact HSN.out _ B10.out | exact HSN.out _ B11.out | exact HSN.out _ B12.out | exact HSN.out _ B13.out | exact HSN.out _ B14.out | exact HSN.out _ B15.out | exact HSN.out _ (B2.out.ext (Ext.refl _).drew) | exact HSN.out _ (B8.out.ext (Ext.refl _).drew))
    clear hKc Kc
    try simp only [Act.put, List.setIfInBounds_toArray, List.set_cons_zero, List.set_cons_succ]
    refine ready_one 13 (by kernel_rfl) (by kernel_rfl) (by rfl) (fun Kc hKc => ?_)
    go_simp
    refine (rnumB_any (n.fails) HWn.out.2.2.2.2.2.2.2.1 W1.heap.size _ _ _ (O11.out) (by have := E11.out.size; exact this) (by omega)).mono ?_
    rintro e x12 ⟨u12, rfl, hO, hG, hAt⟩
    have E12 := Lib.hid ((E11.out).grown hG (fun b hb => (World.ownsRow.lt O11.out b hb).1))
    have N12 : Hid (u12.ownBlock ≠ some wo.heap.size) := Lib.hid (fun q => by
      rcases hAt with e | ⟨b, e, hb⟩
      · rw [e] at q; exact N11.out q
      · rw [e] at q; injection q with q; have := (B11.out).lt; omega)
    have B12 := Lib.hid ((B11.out).kept hG N11.out)
    obtain ⟨L12, hL⟩ : ∃ L, L = L11 ++ numB (n.fails) := ⟨_, rfl⟩
    rw [← hL] at hO
    have ll12 : L12.length ≤ 200003200 := by
      have := numB_le (n.fails)
      rw [hL, List.length_append]; omega
    have HL12 := Lib.hid hL
    have O12 := Lib.hid hO
    clear hO hG hL hAt
    try go_wp2_with fail
    refine hKc.out _ _ ?_ (fun hHeld => ?_)
    · (try dsimp only)
      (first | exact HSN.out _ B2.out | exact HSN.out _ B3.out | exact HSN.out _ B4.out | exact HSN.out _ B5.out | exact HSN.out _ B6.out | exact HSN.out _ B7.out | exact HSN.out _ B8.out | exact HSN.out _ B9.out | exact HSN.out _ B10.out | exact HSN.out _ B11.out | exact HSN.out _ B12.out | exact HSN.out _ B13.out | exact HSN.out _ B14.out | exact HSN.out _ B15.out | exact HSN.out _ (B2.out.ext (Ext.refl _).drew) | exact HSN.out _ (B8.out.ext (Ext.refl _).drew))
    clear hKc Kc
    try simp only [Act.put, List.setIfInBounds_toArray, List.set_cons_zero, List.set_cons_succ]
    refine ready_one 16 (by kernel_rfl) (by kernel_rfl) (by rfl) (fun Kc hKc => ?_)
    go_simp
    refine (rnumB_any (n.tok) HWn.out.2.2.2.2.2.2.2.2.1 W1.heap.size _ _ _ (O12.out) (by have := E12.out.size; exact this) (by omega)).mono ?_
    rintro e x13 ⟨u13, rfl, hO, hG, hAt⟩
    have E13 := Lib.hid ((E12.out).grown hG (fun b hb => (World.ownsRow.lt O12.out b hb).1))
    have N13 : Hid (u13.ownBlock ≠ some wo.heap.size) := Lib.hid (fun q => by
      rcases hAt with e | ⟨b, e, hb⟩
      · rw [e] at q; exact N12.out q
      · rw [e] at q; injection q with q; have := (B12.out).lt; omega)
    have B13 := Lib.hid ((B12.out).kept hG N12.out)
    obtain ⟨L13, hL⟩ : ∃ L, L = L12 ++ numB (n.tok) := ⟨_, rfl⟩
    rw [← hL] at hO
    have ll13 : L13.length ≤ 200003300 := by
      have := numB_le (n.tok)
      rw [hL, List.length_append]; omega
    have HL13 := Lib.hid hL
    have O13 := Lib.hid hO
    clear hO hG hL hAt
    try go_wp2_with fail
    refine hKc.out _ _ ?_ (fun hHeld => ?_)
    · (try dsimp only)
      (first | exact HSN.out _ B2.out | exact HSN.out _ B3.out | exact HSN.out _ B4.out | exact HSN.out _ B5.out | exact HSN.out _ B6.out | exact HSN.out _ B7.out | exact HSN.out _ B8.out | exact HSN.out _ B9.out | exact HSN.out _ B10.out | exact HSN.out _ B11.out | exact HSN.out _ B12.out | exact HSN.out _ B13.out | exact HSN.out _ B14.out | exact HSN.out _ B15.out | exact HSN.out _ (B2.out.ext (Ext.refl _).drew) | exact HSN.out _ (B8.out.ext (Ext.refl _).drew))
    clear hKc Kc
    try simp only [Act.put, List.setIfInBounds_toArray, List.set_cons_zero, List.set_cons_succ]
    refine take_w 17 (some 3) (v := ?_) (by kernel_rfl) (by kernel_rfl) (by kernel_rfl) (by kernel_rfl) (by kernel_rfl) (fun _ _ _ h => h) (by rfl) ?_ (by assumption) ?_
    rotate_left
    · (intro w hSw; (try dsimp only at hSw); go_simp; try with_reducible rfl)
    try simp only [Act.put, List.setIfInBounds_toArray, List.set_cons_zero, List.set_cons_succ]
    refine wpAnyH_done (by kernel_rfl) ?_ _
    have hv24 := right_bytes (ndB_iff.1 HNb.out).2.2.2.2.2.2.2
    have ⟨p0, p1, p2, p3, p4, p5, p6, p7, p8, p9, p10, p11, p12, p13, p14, p15⟩ := B13.out.n16
    go_wp2_with fail
    refine (rbytes_any n.val x13 _ (Lies.ext E13.out HLv.out) (by omega)).mono ?_
    rintro e z1 ⟨t1, rfl, r⟩
    have o1 := O13.out.ext r.2
    have b1 := r.bytes
    have e1 := E13.out.trans r.2
    have z1 := B13.out.ext r.2
    have g1 := z1.lt
    clear r p0 p1 p2 p3 p4 p5 p6 p7 p8 p9 p10 p11 p12 p13 p14 p15
    go_wp2_with (at_builtin; refine appN rfl _ _ rfl rfl o1 rfl b1 (by omega) e1.size z1 N13.out ?_)
    intro uE xE oo nq xx bb
    have e2 : preB s ++ nodesBy (s.nodes.take (j + 1)) = L13 ++ bytesT n.val := by
      have e3 : nodesBy (s.nodes.take (j + 1)) = nodesBy (s.nodes.take j) ++ ndBy n := by
        rw [List.take_succ_eq_append_getElem hlt, ← HNn.out]; unfold nodesBy; simp
      rw [e3, HL13.out, HL12.out, HL11.out, HL10.out, HL9.out, HL8'.out, HL7.out, HL6.out, HL5.out, HL4.out, HL3.out, HL2.out, HAcc.out]
      unfold ndBy nF nL
      simp only [numsB_cons, numsB_nil, List.append_assoc, List.append_nil]
    have HOn : Hid (OwnB W1.heap.size xE uE (preB s ++ nodesBy (s.nodes.take (j + 1)))) := Lib.hid (by rw [e2]; exact oo)
    have HEn : Hid (Ext W1 xE) := Lib.hid (e1.then bb)
    clear oo nq xx bb o1 b1 e1 z1 g1 e2
    go_wp2
    go_roundw
    case rel => exact ⟨j + 1, _, by omega, rfl, by go_num, HOn, HEn⟩
    case measure => simp [intOf]; omega
end Go.Proofs.YtdienbcjfljjnaaGreatDoor
