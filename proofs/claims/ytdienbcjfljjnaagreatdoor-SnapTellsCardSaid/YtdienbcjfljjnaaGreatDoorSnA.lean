/- Walks of package snap: head, first, last, fit, fits, Right. -/
import Derived.Test.YtdienbcjfljjnaaGreatDoorSnH
import Derived.Test.YtdienbcjfljjnaaGreatDoorSnRm
import Derived.Test.YtdienbcjfljjnaaGreatDoorWireR
import Derived.StillTailTactics
import Derived.BigQuiet
open Go.RowKit Go.Shelf
namespace Go.Proofs.YtdienbcjfljjnaaGreatDoor
open Go Go.Proofs Fm

set_option maxRecDepth 100000 in
set_option maxHeartbeats 2000000 in
theorem headN_any (b : Nat) (w : World) : Calls Tryz.prog 33 #[.pointer (some ⟨b, 0, none⟩)] w (FdsNew w (headF b)) := by
  have HX := Lib.hid (fun w2 h => FdsNew.new w w2 (headF b) 111 h (by show _ ≤ 1000; simp [headF]))
  go_enter Tryz.func33, Tryz.ntmps33
  go_wp2_with fail
  go_still_tail 24, (by kernel_rfl)
  change wpList _ _ _ _ _ w.drew
  have HE := Lib.hid (Ext.refl w).drew
  generalize w.drew = w2 at *
  go_wp2
  go_ret
  exact HX.out w2 HE.out
set_option maxRecDepth 100000 in
set_option maxHeartbeats 2000000 in
theorem firstN_any (n k : Nat) (w : World) : Calls Tryz.prog 79 #[.pointer (some ⟨n, 0, none⟩), .pointer (some ⟨k, 0, none⟩)] w (FdsNew w (firstF n k)) := by
  have HX := Lib.hid (fun w2 h => FdsNew.new w w2 (firstF n k) 111 h (by show _ ≤ 1000; simp [firstF]))
  go_enter Tryz.func79, Tryz.ntmps79
  go_wp2_with fail
  go_still_tail 16, (by kernel_rfl)
  change wpList _ _ _ _ _ w.drew
  have HE := Lib.hid (Ext.refl w).drew
  generalize w.drew = w2 at *
  go_wp2
  go_ret
  exact HX.out w2 HE.out
set_option maxRecDepth 100000 in
set_option maxHeartbeats 2000000 in
theorem lastN_any (n k : Nat) (w : World) : Calls Tryz.prog 80 #[.pointer (some ⟨n, 0, none⟩), .pointer (some ⟨k, 0, none⟩)] w (FdsNew w (lastF n k)) := by
  have HX := Lib.hid (fun w2 h => FdsNew.new w w2 (lastF n k) 111 h (by show _ ≤ 1000; simp [lastF]))
  go_enter Tryz.func80, Tryz.ntmps80
  go_wp2_with fail
  go_still_tail 16, (by kernel_rfl)
  change wpList _ _ _ _ _ w.drew
  have HE := Lib.hid (Ext.refl w).drew
  generalize w.drew = w2 at *
  go_wp2
  go_ret
  exact HX.out w2 HE.out

theorem head_any (b : Nat) (w : World) : Calls Tryz.prog 33 #[.pointer (some ⟨b, 0, none⟩)] w (FdsPost w (headF b)) := (headN_any b w).mono fun _ _ h => h.post
theorem first_any (n k : Nat) (w : World) : Calls Tryz.prog 79 #[.pointer (some ⟨n, 0, none⟩), .pointer (some ⟨k, 0, none⟩)] w (FdsPost w (firstF n k)) := (firstN_any n k w).mono fun _ _ h => h.post
theorem last_any (n k : Nat) (w : World) : Calls Tryz.prog 80 #[.pointer (some ⟨n, 0, none⟩), .pointer (some ⟨k, 0, none⟩)] w (FdsPost w (lastF n k)) := (lastN_any n k w).mono fun _ _ h => h.post
theorem inB_lo {lo hi n : Int} (h : n < lo) : inB lo hi n = false := by unfold inB; simp; omega
theorem inB_hi {lo hi n : Int} (h : hi < n) : inB lo hi n = false := by unfold inB; simp; omega
theorem inB_in {lo hi n : Int} (h0 : ¬ n < lo) (h : ¬ hi < n) : inB lo hi n = true := by unfold inB; simp; omega

set_option maxRecDepth 100000 in
set_option maxHeartbeats 2000000 in
theorem fit1_any (f : Fld) (n : Int) (w : World) (hc : w.cell? ⟨f.b, f.off, none⟩ = some (.int .i64 n)) (hb : f.b < w.heap.size) :
    Calls Tryz.prog 83 #[.agg #[.pointer (some ⟨f.b, f.off, none⟩), .int .i64 f.lo, .int .i64 f.hi]] w fun e w' => e = .returned (.bool (!inB f.lo f.hi n)) ∧ Ext w w' := by
  have h1 := BoxL.new w [.pointer (some ⟨f.b, f.off, none⟩), .int .i64 f.lo, .int .i64 f.hi] 111
  have hE := (Ext.refl w).alloc (.cells #[.pointer (some ⟨f.b, f.off, none⟩), .int .i64 f.lo, .int .i64 f.hi] 111)
  have c := (hE.cell (p := ⟨f.b, f.off, none⟩) hb).trans hc
  clear hc hb
  by_cases hlo : n < f.lo
  case pos =>
    have HX := Lib.hid (inB_lo (hi := f.hi) hlo)
    have f1 : decide (n < f.lo) = true := by simpa using hlo
    clear hlo
    generalize f.b = B at *
    generalize f.off = O at *
    generalize f.lo = L at *
    generalize f.hi = H at *
    go_enter Tryz.func83, Tryz.ntmps83
    go_wp2_with fail
    generalize w.alloc (.cells #[.pointer (some ⟨B, O, none⟩), .int .i64 L, .int .i64 H] 111) = W1 at *
    have p0 := h1.cell 0 _ rfl
    have p1 := h1.cell 1 _ rfl
    have p2 := h1.cell 2 _ rfl
    go_quiet (fail)
    go_wp2
    go_ret
    exact ⟨by rw [HX.out]; rfl, by first | exact hE | exact hE.drew | exact hE.drewN _⟩
  case neg =>
  have f1 : decide (n < f.lo) = false := by simpa using hlo
  have HX : Hid (inB f.lo f.hi n = !decide (f.hi < n)) := Lib.hid (by
    by_cases h : f.hi < n
    · rw [inB_hi h]; simp [h]
    · rw [inB_in hlo h]; simp [h])
  clear hlo
  generalize f.b = B at *
  generalize f.off = O at *
  generalize f.lo = L at *
  generalize f.hi = H at *
  go_enter Tryz.func83, Tryz.ntmps83
  go_wp2_with fail
  generalize w.alloc (.cells #[.pointer (some ⟨B, O, none⟩), .int .i64 L, .int .i64 H] 111) = W1 at *
  have p0 := h1.cell 0 _ rfl
  have p1 := h1.cell 1 _ rfl
  have p2 := h1.cell 2 _ rfl
  go_quiet (fail)
  go_wp2
  go_ret
  exact ⟨by rw [HX.out]; simp, by first | exact hE | exact hE.drew | exact hE.drewN _⟩

set_option maxHeartbeats 1000000 in
theorem fit_any (fs : List Fld) (ns : List Int) (w : World) (v : Value) (hr : fdE.Row w fs v) (hp : Pts w fs ns) :
    Calls Tryz.prog 36 #[v] w fun e w' => e = .returned (.bool (fitB (fs.map bnd) ns)) ∧ Ext w w' := by
  have HC : Hid (Calls Tryz.prog 82 #[v, .func (.func 83) #[] #[]] w fun e w' => e = .returned (.bool (!fitB (fs.map bnd) ns)) ∧ Ext w w') := Lib.hid (by
    refine (hasFd_any fs 83 Tryz.call83 #[] (fun i => if h : i < fs.length ∧ i < ns.length then !inB fs[i].lo fs[i].hi (ns[i]'h.2) else false) w v hr (fun i hi w' hE => ?_)).mono ?_
    · have hn : i < ns.length := by rw [hp.1]; exact hi
      obtain ⟨a, b, c⟩ := (hp.ext hE).2 i hi hn
      simp only [dif_pos (show i < fs.length ∧ i < ns.length from ⟨hi, hn⟩)]
      exact fit1_any fs[i] ns[i] w' a b
    · rintro e w' ⟨b, rfl, hb, hE⟩
      refine ⟨?_, hE⟩
      congr 2
      have hfa := fitB_any fs ns hp.1
      rw [Bool.eq_iff_iff, hb, Bool.not_eq_true', ← Bool.not_eq_true, hfa]
      constructor
      · rintro ⟨i, hi, hq⟩ h
        have hn : i < ns.length := by rw [hp.1]; exact hi
        simp only [dif_pos (show i < fs.length ∧ i < ns.length from ⟨hi, hn⟩)] at hq
        rw [h i hi hn] at hq
        cases hq
      · intro h
        rw [Classical.not_forall] at h
        obtain ⟨i, h⟩ := h
        rw [Classical.not_forall] at h
        obtain ⟨hi, h⟩ := h
        rw [Classical.not_forall] at h
        obtain ⟨hn, h⟩ := h
        refine ⟨i, hi, ?_⟩
        simp only [dif_pos (show i < fs.length ∧ i < ns.length from ⟨hi, hn⟩)]
        simpa using h)
  obtain ⟨a, c, rfl, -⟩ := hr.slice
  clear hr hp
  generalize fitB (fs.map bnd) ns = q at *
  go_enter Tryz.func36, Tryz.ntmps36
  go_wp2_with fail
  refine HC.out.mono ?_
  rintro e w1 ⟨rfl, hE⟩
  go_wp2
  go_ret
  exact ⟨by simp, hE⟩

theorem place1_any (i : Int) (w : World) : Calls Tryz.prog 85 #[.int .i64 i] w fun e w' => e = .returned (.bool (!inB 0 4799 i)) ∧ Ext w w' := by
  by_cases h0 : i < 0
  · have HX := Lib.hid (inB_lo (hi := 4799) h0)
    go_enter Tryz.func85, Tryz.ntmps85
    go_wp2
    go_ret
    exact ⟨by rw [HX.out]; rfl, Ext.refl w⟩
  by_cases h1 : 4799 < i
  · have HX := Lib.hid (inB_hi (lo := 0) h1)
    have h2 : (4800 : Int) ≤ i := by omega
    have h3 : 0 ≤ i := by omega
    go_enter Tryz.func85, Tryz.ntmps85
    go_wp2
    go_ret
    exact ⟨by rw [HX.out]; rfl, Ext.refl w⟩
  have HX := Lib.hid (inB_in h0 h1)
  have h2 : ¬ (4800 : Int) ≤ i := by omega
  have h3 : 0 ≤ i := by omega
  go_enter Tryz.func85, Tryz.ntmps85
  go_wp2
  go_ret
  exact ⟨by rw [HX.out]; rfl, Ext.refl w⟩
end Go.Proofs.YtdienbcjfljjnaaGreatDoor
