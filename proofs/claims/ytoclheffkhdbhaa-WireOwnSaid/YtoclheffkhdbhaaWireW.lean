/- The chapter's examples: 'awake' of foremanlaw07 answers true. -/
import Derived.Test.YtoclheffkhdbhaaWireC
import Derived.LoopTactic
open Go.RowKit Go.Shelf
namespace Go.Proofs.Ytoclheffkhdbhaa
open Go Go.Proofs Fm

def awB (w : World) : World := ((((((w.alloc (.cells #[.int .u8 0] 5)).alloc (.cells #[.int .u8 1] 5)).alloc (.cells #[.int .u8 2] 5)).alloc (.cells #[.int .u8 126] 5)).alloc
  (.cells #[.int .u8 128, .int .u8 1] 5)).alloc (.cells #[.int .u8 129, .int .u8 1] 5)).alloc
  (.cells #[.int .u8 255, .int .u8 255, .int .u8 255, .int .u8 255, .int .u8 255, .int .u8 255, .int .u8 255, .int .u8 255, .int .u8 255, .int .u8 1] 5)
def awT (B : Nat) : Array Value := #[.int .i64 0, .slice (some ⟨B, 0, none⟩) 1 1, .int .i64 (-1), .slice (some ⟨B + 1, 0, none⟩) 1 1, .int .i64 1, .slice (some ⟨B + 1 + 1, 0, none⟩) 1 1,
  .int .i64 63, .slice (some ⟨B + 1 + 1 + 1, 0, none⟩) 1 1, .int .i64 64, .slice (some ⟨B + 1 + 1 + 1 + 1, 0, none⟩) 2 2, .int .i64 (-65), .slice (some ⟨B + 1 + 1 + 1 + 1 + 1, 0, none⟩) 2 2,
  .int .i64 (-9223372036854775808), .slice (some ⟨B + 1 + 1 + 1 + 1 + 1 + 1, 0, none⟩) 10 10]
def awW (w : World) : World := (awB w).alloc (.cells (awT w.heap.size) 44)
theorem awB_size (w : World) : (awB w).heap.size = w.heap.size + 7 := by simp [awB]
theorem awW_ext (w : World) : Ext w (awW w) := by
  unfold awW awB
  repeat (refine Ext.alloc ?_ _)
  exact Ext.refl w
theorem awW_size (w : World) : (awW w).heap.size = w.heap.size + 8 := by simp [awW, awB_size]
theorem awW_cell (w : World) (j : Nat) (u : Value) (h : (awT w.heap.size)[j]? = some u) : (awW w).cell? ⟨w.heap.size + 7, j, none⟩ = some u := by
  have := cell_of_row (awW w) (w.heap.size + 7) j (awT w.heap.size) 44 (0, 0) (by rw [← awB_size w]; exact heap_alloc_new (awB w) _)
  rw [this]; exact h

theorem awW_case (w : World) (k : Nat) (hk : k < 7) : ∃ (n : Int) (v : Value) (bs : List UInt8), (awW w).cell? ⟨w.heap.size + 7, 2 * k, none⟩ = some (.int .i64 n) ∧ (awW w).cell? ⟨w.heap.size + 7, 2 * k + 1, none⟩ = some v ∧
    Bytes (awW w) v bs ∧ isI64 n ∧ numB n = bs := by
  have : k = 0 ∨ k = 1 ∨ k = 2 ∨ k = 3 ∨ k = 4 ∨ k = 5 ∨ k = 6 := by omega
  rcases this with rfl | rfl | rfl | rfl | rfl | rfl | rfl
  · refine ⟨0, _, [0], awW_cell w _ _ rfl, awW_cell w _ _ rfl, ?_, by unfold isI64; omega, by decide⟩
    refine (bytes_new w #[.int .u8 0] 5 1 _ [0] (by simp) rfl rfl (by decide)).ext ?_
    unfold awW awB
    repeat (first | exact Ext.refl _ | refine Ext.alloc ?_ _)
  · refine ⟨(-1), _, [1], awW_cell w _ _ rfl, awW_cell w _ _ rfl, ?_, by unfold isI64; omega, by decide⟩
    refine (bytes_new (w.alloc (.cells #[.int .u8 0] 5)) #[.int .u8 1] 5 1 _ [1] (by simp) rfl rfl (by decide)).ext ?_
    unfold awW awB
    repeat (first | exact Ext.refl _ | refine Ext.alloc ?_ _)
  · refine ⟨1, _, [2], awW_cell w _ _ rfl, awW_cell w _ _ rfl, ?_, by unfold isI64; omega, by decide⟩
    refine (bytes_new ((w.alloc (.cells #[.int .u8 0] 5)).alloc (.cells #[.int .u8 1] 5)) #[.int .u8 2] 5 1 _ [2] (by simp) rfl rfl (by decide)).ext ?_
    unfold awW awB
    repeat (first | exact Ext.refl _ | refine Ext.alloc ?_ _)
  · refine ⟨63, _, [126], awW_cell w _ _ rfl, awW_cell w _ _ rfl, ?_, by unfold isI64; omega, by decide⟩
    refine (bytes_new (((w.alloc (.cells #[.int .u8 0] 5)).alloc (.cells #[.int .u8 1] 5)).alloc (.cells #[.int .u8 2] 5)) #[.int .u8 126] 5 1 _ [126] (by simp) rfl rfl (by decide)).ext ?_
    unfold awW awB
    repeat (first | exact Ext.refl _ | refine Ext.alloc ?_ _)
  · refine ⟨64, _, [128, 1], awW_cell w _ _ rfl, awW_cell w _ _ rfl, ?_, by unfold isI64; omega, by decide⟩
    refine (bytes_new ((((w.alloc (.cells #[.int .u8 0] 5)).alloc (.cells #[.int .u8 1] 5)).alloc (.cells #[.int .u8 2] 5)).alloc (.cells #[.int .u8 126] 5)) #[.int .u8 128, .int .u8 1] 5 2 _ [128, 1] (by simp) rfl rfl (by decide)).ext ?_
    unfold awW awB
    repeat (first | exact Ext.refl _ | refine Ext.alloc ?_ _)
  · refine ⟨(-65), _, [129, 1], awW_cell w _ _ rfl, awW_cell w _ _ rfl, ?_, by unfold isI64; omega, by decide⟩
    refine (bytes_new (((((w.alloc (.cells #[.int .u8 0] 5)).alloc (.cells #[.int .u8 1] 5)).alloc (.cells #[.int .u8 2] 5)).alloc (.cells #[.int .u8 126] 5)).alloc (.cells #[.int .u8 128, .int .u8 1] 5)) #[.int .u8 129, .int .u8 1] 5 2 _ [129, 1] (by simp) rfl rfl (by decide)).ext ?_
    unfold awW awB
    repeat (first | exact Ext.refl _ | refine Ext.alloc ?_ _)
  · refine ⟨(-9223372036854775808), _, [255, 255, 255, 255, 255, 255, 255, 255, 255, 1], awW_cell w _ _ rfl, awW_cell w _ _ rfl, ?_, by unfold isI64; omega, by decide⟩
    refine (bytes_new ((((((w.alloc (.cells #[.int .u8 0] 5)).alloc (.cells #[.int .u8 1] 5)).alloc (.cells #[.int .u8 2] 5)).alloc (.cells #[.int .u8 126] 5)).alloc (.cells #[.int .u8 128, .int .u8 1] 5)).alloc (.cells #[.int .u8 129, .int .u8 1] 5)) #[.int .u8 255, .int .u8 255, .int .u8 255, .int .u8 255, .int .u8 255, .int .u8 255, .int .u8 255, .int .u8 255, .int .u8 255, .int .u8 1] 5 10 _ [255, 255, 255, 255, 255, 255, 255, 255, 255, 1] (by simp) rfl rfl (by decide)).ext ?_
    unfold awW awB
    repeat (first | exact Ext.refl _ | refine Ext.alloc ?_ _)

set_option maxRecDepth 100000 in
set_option maxHeartbeats 2000000 in
theorem awake07 (w : World) : Calls Try.prog 8 #[] w fun e w' => e = .returned (.bool true) ∧ Ext w w' := by
  go_enter Try.func8, Try.ntmps8
  go_wp2
  obtain ⟨W0, hW0⟩ : ∃ W0, W0 = awW w := ⟨_, rfl⟩
  have hE0 := awW_ext w
  have hc0 := awW_case w
  have hz0 := awW_size w
  unfold awW awB awT at hW0
  rw [← hW0]
  rw [show awW w = W0 from by rw [hW0]; rfl] at hE0 hc0 hz0
  clear hW0
  generalize hBB : w.heap.size + 1 + 1 + 1 + 1 + 1 + 1 + 1 = B
  rw [show w.heap.size + 7 = B from by omega] at hc0
  have hBz : B < W0.heap.size := by omega
  clear hBB hz0
  go_loopw [31] (fun i wr => ∃ k : Nat, k ≤ 7 ∧ i = .int .i64 k ∧ Ext W0 wr) (fun i _ => 7 - (intOf i).toNat)
  case atStart => exact ⟨0, by omega, rfl, Ext.refl _⟩
  case round =>
    obtain ⟨k, hk, rfl, hE⟩ := hrel
    by_cases hlt : k < 7
    · obtain ⟨n, v, bs, h1, h2, hb, hn, hbs⟩ := hc0 k hlt
      have g1 := (hE.cell (p := ⟨B, 2 * k, none⟩) hBz).trans h1
      rw [Nat.mul_comm] at g1
      have g2 := (hE.cell (p := ⟨B, 2 * k + 1, none⟩) hBz).trans h2
      rw [Nat.mul_comm] at g2
      have gb := hb.ext hE
      have hnum := takeN_num hn []
      rw [List.append_nil, hbs] at hnum
      obtain ⟨a0, c0, hv, _⟩ := id hb
      subst hv
      have HNB := Lib.hid hbs; clear hbs
      have HNUM := Lib.hid hnum; clear hnum
      clear hc0 h1 h2 hb
      have hk7 : (k : Int) < 7 := by omega
      go_wp2_with fail
      refine (takeNum_any _ bs _ (gb.ext ((Ext.refl wr).alloc _))).mono ?_
      intro e w1 hp
      unfold TakeNumPost at hp
      rw [HNUM.out] at hp
      obtain ⟨nq, rfl, rfl⟩ := hp
      go_wp2_with fail
      obtain ⟨WA, hWA⟩ : ∃ WA, WA = (wr.alloc (.cells #[.int .i64 n, .slice a0 bs.length c0] 44)).drewN nq := ⟨_, rfl⟩
      have hAr : WA.heap[wr.heap.size]? = some (.cells #[.int .i64 n, .slice a0 bs.length c0] 44) := by rw [hWA]; exact heap_alloc_new wr _
      have hA0 : WA.cell? ⟨wr.heap.size, 0, none⟩ = some (.int .i64 n) := by rw [cell_of_row _ _ 0 _ _ (0, 0) hAr]; rfl
      have hA1 : WA.cell? ⟨wr.heap.size, 1, none⟩ = some (.slice a0 bs.length c0) := by rw [cell_of_row _ _ 1 _ _ (0, 0) hAr]; rfl
      have hAE : Ext wr WA := by rw [hWA]; exact ((Ext.refl wr).alloc _).drewN _
      rw [← hWA]
      clear hWA g1 g2
      have gA := gb.ext hAE
      have hTz : wr.heap.size < WA.heap.size := (Array.getElem?_eq_some_iff.1 hAr).1
      have hln := len_bytes (gA.drop (k := bs.length) (Nat.le_refl _))
      rw [show (bs.drop bs.length).length = 0 by simp] at hln
      clear hAr
      generalize hT : wr.heap.size = T at *
      clear hT
      go_region_held3 (fun w' => w'.cell? ⟨T, 0, none⟩ = some (.int .i64 n) ∧ w'.cell? ⟨T, 1, none⟩ = some (.slice a0 bs.length c0)) (first | exact ⟨hA0, hA1⟩ | exact ⟨q0, q1⟩)
        (first
          | (go_at_call 11; refine (num_any _ [] _ (Bytes.nil _) (by simp) n hn).mono ?_; rintro e w5 ⟨v5, rfl, hr5, hE5⟩; have q0 := (hE5.cell (p := ⟨T, 0, none⟩) hTz).trans hA0; have q1 := (hE5.cell (p := ⟨T, 1, none⟩) hTz).trans hA1; have b1 := OwnBytes.bytes ⟨hr5, hE5⟩; have b2 := Bytes.ext (w := WA.drew) gA hE5)
          | (go_at_call 10; refine (same_true b1 b2 HNB.out).mono ?_; rintro e w6 ⟨rfl, rfl⟩))
      go_wp2
      go_roundw
      case rel => exact ⟨k + 1, by omega, by go_num, hE.trans (hAE.trans ((Ext.refl WA).drew.trans hE5))⟩
      case measure => simp [intOf]; omega
    · obtain rfl : k = 7 := by omega
      have hE9 := hE0.trans hE
      clear hc0 hE hE0 hBz
      have t1 : takeN [128, 0] = none := by decide
      have t2 : takeT [6, 97, 98] 9 = none := by decide
      have t3 : takeT [4, 97, 98] 1 = none := by decide
      have T1 := Lib.hid t1; clear t1
      have T2 := Lib.hid t2; clear t2
      have T3 := Lib.hid t3; clear t3
      go_wp2_with fail
      refine (takeNum_any _ [128, 0] _ (bytes_new _ _ _ _ _ _ rfl rfl rfl (by decide))).mono ?_
      intro e w1 hp
      unfold TakeNumPost at hp
      rw [T1.out] at hp
      obtain ⟨rfl, rfl⟩ := hp
      go_wp2_with fail
      refine (takeText_any _ [6, 97, 98] 9 (by unfold isI64; omega) _ (bytes_new _ _ _ _ _ _ (by simp) rfl rfl (by decide))).mono ?_
      intro e w2 hp
      unfold TakeTextPost at hp
      rw [T2.out] at hp
      obtain ⟨n2, rfl, rfl⟩ := hp
      go_wp2_with fail
      refine (takeText_any _ [4, 97, 98] 1 (by unfold isI64; omega) _ (bytes_new _ _ _ _ _ _ (by simp) rfl rfl (by decide))).mono ?_
      intro e w3 hp
      unfold TakeTextPost at hp
      rw [T3.out] at hp
      obtain ⟨n3, rfl, rfl⟩ := hp
      go_wp2_with fail
      refine (text_any _ [] [97, 98] _ (Bytes.nil _) (by simp) (by simp)).mono ?_
      rintro e w4 ⟨v4, rfl, hr4, hE4⟩
      have b4 := OwnBytes.bytes ⟨hr4, hE4⟩
      have b5 : Bytes (w4.alloc (.cells #[.int .u8 4, .int .u8 97, .int .u8 98] 5)) (.slice (some ⟨w4.heap.size, 0, none⟩) 3 3) [4, 97, 98] := bytes_new _ _ _ _ _ _ rfl rfl rfl (by decide)
      have b6 := b4.ext ((Ext.refl w4).alloc (.cells #[.int .u8 4, .int .u8 97, .int .u8 98] 5))
      have he : [] ++ textB [97, 98] = [4, 97, 98] := by decide
      have HE := Lib.hid he; clear he
      go_wp2_with fail
      refine (same_true b6 b5 HE.out).mono ?_
      rintro e w5 ⟨rfl, rfl⟩
      go_wp2
      go_ret
      refine ⟨rfl, Ext.alloc (Ext.trans ?_ hE4) _⟩
      repeat (first | exact hE9 | refine Ext.drewN ?_ _ | refine Ext.alloc ?_ _)
end Go.Proofs.Ytoclheffkhdbhaa
