/- Walks: snap's reader: all. -/
import Derived.Test.YtdienbcjfljjnaaDoorSnF
import Derived.Test.YtdienbcjfljjnaaDoorTake
open Go.RowKit Go.Shelf
namespace Go.Proofs.YtdienbcjfljjnaaDoor
open Go Go.Proofs Fm

/-- What taking one number in comes to. -/
def All1 (w0 w : World) (R : Nat) (f : Fld) (s : Option (List UInt8)) (e : Ending) (w' : World) : Prop :=
  e = .returned (.tuple #[]) ∧ ∃ w1, RdS w0 w1 R (numR f.lo f.hi s).2 ∧ w.grownBy w1 (some R) ∧ w' = w1.setCell ⟨f.b, f.off, none⟩ (.int .i64 (numR f.lo f.hi s).1)

set_option maxRecDepth 100000 in
set_option maxHeartbeats 4000000 in
theorem all1_any (f : Fld) {w0 w : World} {R TB : Nat} {s : Option (List UInt8)} (h : RdS w0 w R s) (hT : w.cell? ⟨TB, 0, none⟩ = some (.pointer (some ⟨R, 0, none⟩))) (hTl : TB < w.heap.size) (hTR : TB ≠ R)
    (u : Value) (hc : w.cell? ⟨f.b, f.off, none⟩ = some u) (hfz : w.frozen? ⟨f.b, f.off, none⟩ = false) (hb : f.b < w.heap.size) (hbR : f.b ≠ R) (hBT : f.b ≠ TB) :
    Calls Tryd.prog 79 #[.agg #[.pointer (some ⟨f.b, f.off, none⟩), .int .i64 f.lo, .int .i64 f.hi], .pointer (some ⟨TB, 0, none⟩)] w (All1 w0 w R f s) := by
  have HX : Hid (∀ e w', e = .returned (.tuple #[]) → (∃ w1, RdS w0 w1 R (numR f.lo f.hi s).2 ∧ w.grownBy w1 (some R) ∧ w' = w1.setCell ⟨f.b, f.off, none⟩ (.int .i64 (numR f.lo f.hi s).1)) → All1 w0 w R f s e w') := Lib.hid (fun e w' a b => ⟨a, b⟩)
  have hRl := h.lt
  have h1 := BoxL.new w [.pointer (some ⟨f.b, f.off, none⟩), .int .i64 f.lo, .int .i64 f.hi] 118
  have hE := (Ext.refl w).alloc (.cells #[.pointer (some ⟨f.b, f.off, none⟩), .int .i64 f.lo, .int .i64 f.hi] 118)
  have hz : (w.alloc (.cells #[.pointer (some ⟨f.b, f.off, none⟩), .int .i64 f.lo, .int .i64 f.hi] 118)).heap.size = w.heap.size + 1 := by simp
  generalize f.b = B at *
  generalize f.off = O at *
  generalize f.lo = L at *
  generalize f.hi = H at *
  go_enter Tryd.func79, Tryd.ntmps79
  go_upto_region 1 with (fail)
  generalize w.alloc (.cells #[.pointer (some ⟨B, O, none⟩), .int .i64 L, .int .i64 H] 118) = W1 at *
  have hE0 := hE.drew
  have hD := (Ext.refl W1).drew
  have h1 := h1.ext hD
  have HE0 : Hid (Ext w W1.drew) := Lib.hid hE0
  have HR0 : Hid (RdS w0 W1.drew R s) := Lib.hid (h.then hE0)
  have HC0 : Hid (W1.drew.cell? ⟨B, O, none⟩ = some u) := Lib.hid ((hE0.cell (p := ⟨B, O, none⟩) hb).trans hc)
  have HF0 : Hid (W1.drew.frozen? ⟨B, O, none⟩ = false) := Lib.hid ((hE0.frozen (p := ⟨B, O, none⟩) hb).trans hfz)
  have HS0 : Hid (W1.drew.cell? ⟨w.heap.size, 0, none⟩ = some (.pointer (some ⟨B, O, none⟩)) ∧ W1.drew.cell? ⟨w.heap.size, 1, none⟩ = some (.int .i64 L) ∧ W1.drew.cell? ⟨w.heap.size, 2, none⟩ = some (.int .i64 H) ∧ W1.drew.cell? ⟨TB, 0, none⟩ = some (.pointer (some ⟨R, 0, none⟩))) := Lib.hid ⟨h1.cell 0 _ rfl, h1.cell 1 _ rfl, h1.cell 2 _ rfl, (hE0.cell (p := ⟨TB, 0, none⟩) hTl).trans hT⟩
  have hsz := hE0.size
  have hqz : w.heap.size < W1.drew.heap.size := h1.lt
  have hTz : TB < W1.drew.heap.size := Nat.lt_of_lt_of_le hTl hsz
  have hBz : B < W1.drew.heap.size := Nat.lt_of_lt_of_le hb hsz
  have hqR : w.heap.size ≠ R := by omega
  clear hE hE0 hD h1 h hT hc hfz hz
  refine wp_region_held_drew (S := (fun w' => w'.cell? ⟨w.heap.size, 0, none⟩ = some (.pointer (some ⟨B, O, none⟩)) ∧ w'.cell? ⟨w.heap.size, 1, none⟩ = some (.int .i64 L) ∧ w'.cell? ⟨w.heap.size, 2, none⟩ = some (.int .i64 H) ∧ w'.cell? ⟨TB, 0, none⟩ = some (.pointer (some ⟨R, 0, none⟩)))) (by kernel_rfl) ?_ (fun hHeld => ?_)
  · (try dsimp only)
    (first | exact HS0.out | exact HS1.out | exact HS2.out)
  refine take_w 0 (some 3) (v := ?_) (by kernel_rfl) (by kernel_rfl) (by kernel_rfl) (by kernel_rfl) (by kernel_rfl) (fun _ _ _ h => h) (by rfl) ?_ (by assumption) ?_
  rotate_left
  · (intro w hSw; (try dsimp only at hSw); go_simp; try with_reducible rfl)
  try simp only [Act.put, List.setIfInBounds_toArray, List.set_cons_zero, List.set_cons_succ]
  refine take_w 1 (some 4) (v := ?_) (by kernel_rfl) (by kernel_rfl) (by kernel_rfl) (by kernel_rfl) (by kernel_rfl) (fun _ _ _ h => h) (by rfl) ?_ (by assumption) ?_
  rotate_left
  · (intro w hSw; (try dsimp only at hSw); go_simp; try with_reducible rfl)
  try simp only [Act.put, List.setIfInBounds_toArray, List.set_cons_zero, List.set_cons_succ]
  refine take_w 2 (some 5) (v := ?_) (by kernel_rfl) (by kernel_rfl) (by kernel_rfl) (by kernel_rfl) (by kernel_rfl) (fun _ _ _ h => h) (by rfl) ?_ (by assumption) ?_
  rotate_left
  · (intro w hSw; (try dsimp only at hSw); go_simp; try with_reducible rfl)
  try simp only [Act.put, List.setIfInBounds_toArray, List.set_cons_zero, List.set_cons_succ]
  refine take_w 3 (some 6) (v := ?_) (by kernel_rfl) (by kernel_rfl) (by kernel_rfl) (by kernel_rfl) (by kernel_rfl) (fun _ _ _ h => h) (by rfl) ?_ (by assumption) ?_
  rotate_left
  · (intro w hSw; (try dsimp only at hSw); go_simp; try with_reducible rfl)
  try simp only [Act.put, List.setIfInBounds_toArray, List.set_cons_zero, List.set_cons_succ]
  refine take_w 4 (some 7) (v := ?_) (by kernel_rfl) (by kernel_rfl) (by kernel_rfl) (by kernel_rfl) (by kernel_rfl) (fun _ _ _ h => h) (by rfl) ?_ (by assumption) ?_
  rotate_left
  · (intro w hSw; (try dsimp only at hSw); go_simp; try with_reducible rfl)
  try simp only [Act.put, List.setIfInBounds_toArray, List.set_cons_zero, List.set_cons_succ]
  refine take_w 5 (some 8) (v := ?_) (by kernel_rfl) (by kernel_rfl) (by kernel_rfl) (by kernel_rfl) (by kernel_rfl) (fun _ _ _ h => h) (by rfl) ?_ (by assumption) ?_
  rotate_left
  · (intro w hSw; (try dsimp only at hSw); go_simp; try with_reducible rfl)
  try simp only [Act.put, List.setIfInBounds_toArray, List.set_cons_zero, List.set_cons_succ]
  refine take_w 6 (some 9) (v := ?_) (by kernel_rfl) (by kernel_rfl) (by kernel_rfl) (by kernel_rfl) (by kernel_rfl) (fun _ _ _ h => h) (by rfl) ?_ (by assumption) ?_
  rotate_left
  · (intro w hSw; (try dsimp only at hSw); go_simp; try with_reducible rfl)
  try simp only [Act.put, List.setIfInBounds_toArray, List.set_cons_zero, List.set_cons_succ]
  refine ready_one 7 (by kernel_rfl) (by kernel_rfl) (by rfl) (fun Kc hKc => ?_)
  go_simp
  refine (snum_any L H HR0.out).mono ?_
  rintro e y1 ⟨rfl, hr1, hg1⟩
  have HR1 := Lib.hid hr1
  have HG1 := Lib.hid (grown_trans (grown_ext HE0.out (some R)) hg1)
  have HS1 : Hid (y1.cell? ⟨w.heap.size, 0, none⟩ = some (.pointer (some ⟨B, O, none⟩)) ∧ y1.cell? ⟨w.heap.size, 1, none⟩ = some (.int .i64 L) ∧ y1.cell? ⟨w.heap.size, 2, none⟩ = some (.int .i64 H) ∧ y1.cell? ⟨TB, 0, none⟩ = some (.pointer (some ⟨R, 0, none⟩))) := Lib.hid (by
    obtain ⟨a0, a1, a2, a3⟩ := HS0.out
    exact ⟨(hg1.cell_far ⟨w.heap.size, 0, none⟩ hqz (fun e => hqR (by injection e))).trans a0, (hg1.cell_far ⟨w.heap.size, 1, none⟩ hqz (fun e => hqR (by injection e))).trans a1, (hg1.cell_far ⟨w.heap.size, 2, none⟩ hqz (fun e => hqR (by injection e))).trans a2, (hg1.cell_far ⟨TB, 0, none⟩ hTz (fun e => hTR (by injection e))).trans a3⟩)
  have c1 := (hg1.cell_far ⟨B, O, none⟩ hBz (fun e => hbR (by injection e))).trans HC0.out
  have f1 := (hg1.frozen_far ⟨B, O, none⟩ hBz (fun e => hbR (by injection e))).trans HF0.out
  clear hr1 hg1
  try go_wp2_with fail
  refine hKc.out _ _ ?_ (fun hHeld => ?_)
  · (try dsimp only)
    (first | exact HS0.out | exact HS1.out | exact HS2.out)
  clear hKc Kc
  try simp only [Act.put, List.setIfInBounds_toArray, List.set_cons_zero, List.set_cons_succ]
  refine take_w 8 (some 11) (v := ?_) (by kernel_rfl) (by kernel_rfl) (by kernel_rfl) (by kernel_rfl) (by kernel_rfl) (fun _ _ _ h => h) (by rfl) ?_ (by assumption) ?_
  rotate_left
  · (intro w hSw; (try dsimp only at hSw); go_simp; try with_reducible rfl)
  try simp only [Act.put, List.setIfInBounds_toArray, List.set_cons_zero, List.set_cons_succ]
  refine ready_one 9 (by kernel_rfl) (by kernel_rfl) (by rfl) (fun Kc hKc => ?_)
  go_simp
  have HS2 : Hid ((y1.setCell ⟨B, O, none⟩ (.int .i64 (numR L H s).1)).cell? ⟨w.heap.size, 0, none⟩ = some (.pointer (some ⟨B, O, none⟩)) ∧ (y1.setCell ⟨B, O, none⟩ (.int .i64 (numR L H s).1)).cell? ⟨w.heap.size, 1, none⟩ = some (.int .i64 L) ∧ (y1.setCell ⟨B, O, none⟩ (.int .i64 (numR L H s).1)).cell? ⟨w.heap.size, 2, none⟩ = some (.int .i64 H) ∧ (y1.setCell ⟨B, O, none⟩ (.int .i64 (numR L H s).1)).cell? ⟨TB, 0, none⟩ = some (.pointer (some ⟨R, 0, none⟩))) := Lib.hid (by
    obtain ⟨a0, a1, a2, a3⟩ := HS1.out
    exact ⟨(World.cell?_setCell_other y1 _ _ _ (fun e => by injection e with e _ _; omega)).trans a0, (World.cell?_setCell_other y1 _ _ _ (fun e => by injection e with e _ _; omega)).trans a1, (World.cell?_setCell_other y1 _ _ _ (fun e => by injection e with e _ _; omega)).trans a2, (World.cell?_setCell_other y1 _ _ _ (fun e => hBT (by injection e with e _ _))).trans a3⟩)
  try go_wp2_with fail
  refine hKc.out _ _ ?_ (fun hHeld => ?_)
  · (try dsimp only)
    (first | exact HS0.out | exact HS1.out | exact HS2.out)
  clear hKc Kc
  try simp only [Act.put, List.setIfInBounds_toArray, List.set_cons_zero, List.set_cons_succ]
  refine wpAnyH_done (by kernel_rfl) ?_ _

  have HP := Lib.hid (HX.out _ _ rfl ⟨y1, HR1.out, HG1.out, rfl⟩)
  clear HX HR0 HR1 HG1 HS0 HS1 HS2 HC0 HF0 c1 f1
  go_wp2
  exact bodyPost_end (by simp [results, Tryd.results79, go_sem]) rfl HP.out

set_option maxRecDepth 100000 in
set_option maxHeartbeats 4000000 in
theorem all_any {w0 w : World} {R : Nat} {s : Option (List UInt8)} (fs : List Fld) (FB : Nat) (J : List Int → World → Prop) (hr : RdS w0 w R s) (h0 : J [] w) (hl : fs.length ≤ 1000) (hFR : FB ≠ R) (hF : FRow w FB fs)
    (hext : ∀ ns a b, J ns a → Ext a b → J ns b)
    (hstep : ∀ ns a b n f, J ns a → fs[ns.length]? = some f → a.grownBy b (some R) → isI64 n → J (ns ++ [n]) (b.setCell ⟨f.b, f.off, none⟩ (.int .i64 n)))
    (hcell : ∀ ns a f, J ns a → f ∈ fs → ∃ u, a.cell? ⟨f.b, f.off, none⟩ = some u ∧ a.frozen? ⟨f.b, f.off, none⟩ = false)
    (hfs : ∀ f, f ∈ fs → f.b ≠ R ∧ w0.heap.size ≤ f.b ∧ f.b < w.heap.size ∧ f.b ≠ FB) :
    Calls Tryd.prog 40 #[.pointer (some ⟨R, 0, none⟩), .slice (some ⟨FB, 0, none⟩) fs.length fs.length] w fun e w' => e = .returned (.tuple #[]) ∧ RdS w0 w' R (allR (fs.map bnd) s).2 ∧ J (allR (fs.map bnd) s).1 w' := by
  have hE0 := (Ext.refl w).alloc (.cells #[.pointer (some ⟨R, 0, none⟩)] 75)
  have h3 := BoxL.new w [.pointer (some ⟨R, 0, none⟩)] 75
  have HR0 := Lib.hid (hr.then hE0)
  have HJ0 := Lib.hid (hext _ _ _ h0 hE0)
  have HF0 := Lib.hid (hF.ext hE0)
  have HC0 := Lib.hid (h3.cell 0 _ rfl)
  have hRl := hr.lt
  have hRo := hr.old
  have hz0 : (w.alloc (.cells #[.pointer (some ⟨R, 0, none⟩)] 75)).heap.size = w.heap.size + 1 := by simp
  have HX1 := Lib.hid hext
  have HX2 := Lib.hid hstep
  have HX3 := Lib.hid hcell
  have HX4 := Lib.hid hfs
  have HS0 := Lib.hid (show w.heap.size < (w.alloc (.cells #[.pointer (some ⟨R, 0, none⟩)] 75)).heap.size by omega)
  have HXF : Hid (∀ (j : Nat) (hj : j < fs.length), allR ((fs.take (j + 1)).map bnd) s = ((allR ((fs.take j).map bnd) s).1 ++ [(numR fs[j].lo fs[j].hi (allR ((fs.take j).map bnd) s).2).1], (numR fs[j].lo fs[j].hi (allR ((fs.take j).map bnd) s).2).2)) := Lib.hid (fun j hj => by
    rw [List.take_add_one, List.getElem?_eq_getElem hj, Option.toList_some, List.map_append, List.map_cons, List.map_nil, allR_snoc]; rfl)
  clear hr h0 hF hext hstep hcell hfs h3 hE0
  go_enter Tryd.func40, Tryd.ntmps40
  go_wp2_with fail
  generalize w.alloc (.cells #[.pointer (some ⟨R, 0, none⟩)] 75) = W0 at *
  go_loopw [10] (fun i wr => ∃ j : Nat, j ≤ fs.length ∧ i = .int .i64 j ∧ Hid (wr.cell? ⟨w.heap.size, 0, none⟩ = some (.pointer (some ⟨R, 0, none⟩))) ∧ Hid (FRow wr FB fs) ∧ Hid (RdS w0 wr R (allR ((fs.take j).map bnd) s).2) ∧ Hid (J (allR ((fs.take j).map bnd) s).1 wr) ∧ w.heap.size < wr.heap.size) (fun i _ => fs.length - (intOf i).toNat)
  case atStart => exact ⟨0, by omega, rfl, HC0, HF0, HR0, HJ0, HS0.out⟩
  case round =>
    clear HC0 HF0 HR0 HJ0 HS0 hz0
    obtain ⟨j, hj, rfl, HC, HF, HR, HJ, hz⟩ := hrel
    by_cases hlt : j < fs.length
    · obtain ⟨c0, c1, c2⟩ := HF.out.three j hlt
      have hj0 : (0 : Int) ≤ (j : Int) := by omega
      have HM := Lib.hid (List.getElem_mem hlt)
      obtain ⟨g1, g2, g3, g4⟩ := HX4.out _ HM.out
      have HFb := Lib.hid HF.out.1
      have HXj := Lib.hid (HXF.out j hlt)
      have HLj : Hid (fs[(allR ((fs.take j).map bnd) s).1.length]? = some fs[j]) := Lib.hid (by rw [allR_len, List.length_map, List.length_take, Nat.min_eq_left (by omega)]; exact List.getElem?_eq_getElem hlt)
      generalize allR ((fs.take j).map bnd) s = AJ at *
      go_wp2_with fail
      have hE1 := (Ext.refl wr).alloc (.cells #[.pointer (some ⟨fs[j].b, fs[j].off, none⟩), .int .i64 fs[j].lo, .int .i64 fs[j].hi] 118)
      generalize wr.alloc (.cells #[.pointer (some ⟨fs[j].b, fs[j].off, none⟩), .int .i64 fs[j].lo, .int .i64 fs[j].hi] 118) = W1 at *
      have hz1 := hE1.size
      have HJ1 := Lib.hid (HX1.out _ _ _ HJ.out hE1)
      obtain ⟨u, hu, huf⟩ := HX3.out _ _ _ HJ1.out HM.out
      have HF1 := Lib.hid (HF.out.ext hE1)
      have HC1 := Lib.hid ((hE1.cell (p := ⟨w.heap.size, 0, none⟩) hz).trans HC.out)
      have hFz := HFb.out
      refine (all1_any fs[j] (HR.out.then hE1) HC1.out (by omega) (by omega) u hu huf (by omega) g1 (by omega)).mono ?_
      rintro e w2 ⟨rfl, w3, hr3, hg3, rfl⟩
      have hg4 := setOne_grown w3 fs[j].b fs[j].off (.int .i64 (numR fs[j].lo fs[j].hi AJ.2).1)
      have hz3 := hg3.size
      have HR2 := Lib.hid (hr3.kept hg4 (fun k hk => by injection hk with hk; omega))
      have HJ2 := Lib.hid (HX2.out AJ.1 W1 w3 (numR fs[j].lo fs[j].hi AJ.2).1 fs[j] HJ1.out HLj.out hg3 (numR_i64 _ _ _))
      have HF2 := Lib.hid ((HF1.out.kept hg3 (fun e => hFR (by injection e with e; exact e.symm))).kept hg4 (fun e => g4 (by injection e)))
      have HC2 := Lib.hid ((hg4.cell_far ⟨w.heap.size, 0, none⟩ (by show w.heap.size < w3.heap.size; omega) (fun e => by injection e with e; have e : w.heap.size = fs[j].b := e; omega)).trans ((hg3.cell_far ⟨w.heap.size, 0, none⟩ (by show w.heap.size < W1.heap.size; omega) (fun e => by injection e with e; have e : w.heap.size = R := e; omega)).trans HC1.out))
      have hz4 := hg4.size
      have hzn : w.heap.size < (w3.setCell ⟨fs[j].b, fs[j].off, none⟩ (.int .i64 (numR fs[j].lo fs[j].hi AJ.2).1)).heap.size := by omega
      generalize w3.setCell ⟨fs[j].b, fs[j].off, none⟩ (.int .i64 (numR fs[j].lo fs[j].hi AJ.2).1) = W4 at *
      clear hr3 hg3 hg4 hu huf hE1 c0 c1 c2 HC HF HR HJ HC1 HF1 HJ1 g1 g2 g3 g4
      go_wp2
      go_roundw
      case rel => exact ⟨j + 1, by omega, by go_num, HC2, HF2, by rw [HXj.out]; exact HR2, by rw [HXj.out]; exact HJ2, hzn⟩
      case measure => simp [intOf]; omega
    · have hjn : j = fs.length := by omega
      have hQ : RdS w0 wr R (allR (fs.map bnd) s).2 ∧ J (allR (fs.map bnd) s).1 wr := by
        have a := HR.out
        have b := HJ.out
        rw [hjn, List.take_length] at a b
        exact ⟨a, b⟩
      have HQ := Lib.hid hQ
      clear hQ hjn HC HF HR HJ
      go_wp2
      exact bodyPost_end (by simp [results, Tryd.results40, go_sem]) rfl ⟨rfl, HQ.out⟩
end Go.Proofs.YtdienbcjfljjnaaDoor
