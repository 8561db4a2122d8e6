/- What the reference of paths reads, step by step: plain facts. No program is imported. -/
import Derived.Test.YtbciamploeejiaaGreatDoorTake
import Derived.Test.YtbciamploeejiaaGreatDoorIdC
import Derived.Test.YtbciamploeejiaaGreatDoorPlQ
import Derived.RangeFuncBox
import Derived.Test.YtbciamploeejiaaGreatDoorPlO
import Derived.Maps.OwnSet
import Derived.Maps.OwnOps
import Derived.Maps.Views
import Derived.StringKeys
import Derived.DeepKeys4
import Derived.Test.YtbciamploeejiaaGreatDoorProg
import Derived.Carry
import Derived.LoopTactic
import Derived.Deep.AppendLies
import Derived.Deep.RegionLaw
import Derived.Deep.RegionHeld3
import Derived.BigQuiet
import Derived.Deep.QuietTactic
open Go.RowKit Go.Shelf
namespace Go.Proofs.YtbciamploeejiaaGreatDoor
open Go Go.Proofs Fm

theorem inforank : (Tryz.prog.info? 52).map (fun i => (i.zero, i.size, i.bytes)) = some (some (.agg #[.int .i64 0, .int .i64 0, .int .i64 0, .string { data := #[] }]), 4, 40) := by kernel_rfl
theorem elemrank : ElemOf Tryz.prog 48 52 (.agg #[.int .i64 0, .int .i64 0, .int .i64 0, .string { data := #[] }]) 4 40 := ⟨Tryz.underlying48, inforank, rfl, by decide⟩
theorem rk_assert (x : Value) (w : World) : (Instr.typeAssert (.iface 52 x) 20 52 false).run Tryz.prog w = .ok x w := by kernel_rfl
set_option maxRecDepth 100000 in
set_option maxHeartbeats 4000000 in
theorem qpush_any {base n B : Nat} {v : Value} {a : Nat → Rk} (w0 w : World) (hE0 : Ext w0 w) (hb : w0.heap.size ≤ base) (hbw : base ≤ w.heap.size) (hq : HpQ 52 base w B v a n) (r : Rk) (hn : n < 100000) :
    Calls Tryz.prog 166 #[.pointer (some ⟨B, 0, none⟩), .iface 52 (rkV r)] w fun e' w' => e' = .returned (.tuple #[]) ∧ ∃ v', HpQ 52 base w' B v' (updA a n r) (n + 1) ∧ Ext w0 w' := by
  obtain ⟨m, c, rfl⟩ : ∃ m c, v = .slice m n c := by
    rcases hq.row.2 with ⟨e1, e2⟩ | ⟨g, cap, cur, e1, _⟩
    · exact ⟨none, 0, by rw [e1, e2]⟩
    · exact ⟨_, _, e1⟩
  have HQ := Lib.hid hq
  have HE0 := Lib.hid hE0
  have HBW := Lib.hid hbw
  have HB0 := Lib.hid hb
  have hc := hq.box.cell 0 _ rfl
  have hBl := hq.box.lt
  have hfr := hq.box.free 0
  have hta := rk_assert
  clear hq hb hbw hE0
  go_enter Tryz.func166, Tryz.ntmps166
  unfold rkV
  refine wp_region_held_drew (S := fun _ => True) (by kernel_rfl) trivial (fun hHeld => ?_)
  refine take_w 0 (some 4) (v := ?_) (by kernel_rfl) (by kernel_rfl) (by kernel_rfl) (by kernel_rfl) (by kernel_rfl) (fun _ _ _ h => h) (by rfl) ?_ (by assumption) ?_
  rotate_left
  · (intro w hSw; go_simp; try with_reducible rfl)
  try simp only [Act.put, List.setIfInBounds_toArray, List.set_cons_zero, List.set_cons_succ]
  refine take_w 1 (some 5) (v := ?_) (by kernel_rfl) (by kernel_rfl) (by kernel_rfl) (by kernel_rfl) (by kernel_rfl) (fun _ _ _ h => h) (by rfl) ?_ (by assumption) ?_
  rotate_left
  · (intro w hSw; go_simp; try with_reducible rfl)
  try simp only [Act.put, List.setIfInBounds_toArray, List.set_cons_zero, List.set_cons_succ]
  refine take_w 2 (some 6) (v := ?_) (by kernel_rfl) (by kernel_rfl) (by kernel_rfl) (by kernel_rfl) (by kernel_rfl) (fun _ _ _ h => h) (by rfl) ?_ (by assumption) ?_
  rotate_left
  · (intro w hSw; go_simp; try with_reducible rfl)
  try simp only [Act.put, List.setIfInBounds_toArray, List.set_cons_zero, List.set_cons_succ]
  refine take_w 3 (some 7) (v := ?_) (by kernel_rfl) (by kernel_rfl) (by kernel_rfl) (by kernel_rfl) (by kernel_rfl) (fun _ _ _ h => h) (by rfl) ?_ (by assumption) ?_
  rotate_left
  · (intro w hSw; go_simp; try with_reducible rfl)
  try simp only [Act.put, List.setIfInBounds_toArray, List.set_cons_zero, List.set_cons_succ]
  refine take_w 5 (some 9) (v := ?_) (by kernel_rfl) (by kernel_rfl) (by kernel_rfl) (by kernel_rfl) (by kernel_rfl) (fun _ _ _ h => h) (by rfl) ?_ (by assumption) ?_
  rotate_left
  · (intro w hSw; go_simp; try with_reducible rfl)
  try simp only [Act.put, List.setIfInBounds_toArray, List.set_cons_zero, List.set_cons_succ]
  refine take_w 6 (some 10) (v := ?_) (by kernel_rfl) (by kernel_rfl) (by kernel_rfl) (by kernel_rfl) (by kernel_rfl) (fun _ _ _ h => h) (by rfl) ?_ (by assumption) ?_
  rotate_left
  · (intro w hSw; go_simp; try with_reducible rfl)
  try simp only [Act.put, List.setIfInBounds_toArray, List.set_cons_zero, List.set_cons_succ]
  refine ready_two 4 7 (by kernel_rfl) (by kernel_rfl) (by kernel_rfl) (by rfl) (by rfl) (fun Kc hKc => ?_) (fun Kc hKc => ?_)
  case' refine_1 =>
    go_simp
    refine hKc.out _ _ trivial (fun _ => ?_)
    clear hKc Kc
    try simp only [Act.put, List.setIfInBounds_toArray, List.set_cons_zero, List.set_cons_succ]
    refine ready_one 7 (by kernel_rfl) (by kernel_rfl) (by rfl) (fun Kc hKc => ?_)
    go_simp
    refine hKc.out _ _ trivial (fun _ => ?_)
    clear hKc Kc
  case' refine_2 =>
    go_simp
    refine hKc.out _ _ trivial (fun _ => ?_)
    clear hKc Kc
    try simp only [Act.put, List.setIfInBounds_toArray, List.set_cons_zero, List.set_cons_succ]
    refine ready_one 4 (by kernel_rfl) (by kernel_rfl) (by rfl) (fun Kc hKc => ?_)
    go_simp
    refine hKc.out _ _ trivial (fun _ => ?_)
    clear hKc Kc
  all_goals
    try simp only [Act.put, List.setIfInBounds_toArray, List.set_cons_zero, List.set_cons_succ]
    have hE1 : Ext w ((w.alloc (.cells #[.int .i64 r.fails, .int .i64 r.up, .int .i64 r.place, .string (str r.id)] 52)).drew) := ((Ext.refl w).alloc _).drew
    have hQ1 := HQ.out.ext hE1
    have hRg : ((w.alloc (.cells #[.int .i64 r.fails, .int .i64 r.up, .int .i64 r.place, .string (str r.id)] 52)).drew).rangeAt w.heap.size 0 (rkC r) := (World.rangeAt_drew _ _ _ _).2 (rangeAt_new w (rkC r) 52)
    have hz1 := hE1.size
    generalize (w.alloc (.cells #[.int .i64 r.fails, .int .i64 r.up, .int .i64 r.place, .string (str r.id)] 52)).drew = W1 at *
    generalize w.heap.size = z at *
    have hsrc : Src Tryz.prog 4 48 (.slice (some ⟨z, 0, none⟩) 1 1) 1 (rkC r) W1 := Src.ofSlice W1 Tryz.underlying48 _ _ _ _ (by simp [rkC]) (fun j u hu => by rw [Addr.add_lit]; exact hRg j u hu) (rkC_one r)
    refine ready_one 8 (by kernel_rfl) (by kernel_rfl) (by rfl) (fun Kc hKc => ?_)
    refine wp_appendS (.tmp 8) (.tmp 11) 48 (by rfl) elemrank base (.slice m n c) n (cellsA a n) (by rfl) hQ1.row _ 1 (rkC r) (by rfl) hsrc (by unfold maxLen; omega) (by omega) (by have := HBW.out; omega) ?_
    intro A C w5 hown hg hat
    refine hKc.out _ _ trivial (fun _ => ?_)
    clear hKc Kc
    have hne5 : (Value.slice A (n + 1) C).ownBlock ≠ some B := by
      rcases hat with h | h
      · rw [h]; exact HQ.out.apart
      · rw [h]; intro e; injection e with e; omega
    have hB5 : BoxL w5 B [.slice m n c] := hQ1.box.kept hg HQ.out.apart
    have hc5 := hB5.cell 0 _ rfl
    have hf5 := hB5.free 0
    have HF : Hid (HpQ 52 base (w5.setCell ⟨B, 0, none⟩ (.slice A (n + 1) C)) B (.slice A (n + 1) C) (updA a n r) (n + 1) ∧ Ext w0 (w5.setCell ⟨B, 0, none⟩ (.slice A (n + 1) C))) := Lib.hid ⟨⟨hB5.set 0 (by simp) _, (RkRow.more hown).kept (setOne_grown w5 B 0 _) (.inr hne5), hne5, HQ.out.low⟩,
      (((HE0.out.trans hE1).grown hg (fun k hk => Nat.le_trans HB0.out (World.ownsRow.lt hQ1.row k hk).1)).setCell (p := ⟨B, 0, none⟩) (Nat.le_trans HB0.out HQ.out.low) _)⟩
    clear hown hg hat hne5 hB5 hsrc hRg hQ1 hE1 HQ hc hfr
    try simp only [Act.put, List.setIfInBounds_toArray]
    refine take_w 9 (some 13) (v := ?_) (by kernel_rfl) (by kernel_rfl) (by kernel_rfl) (by kernel_rfl) (by kernel_rfl) (fun _ _ _ h => h) (by rfl) ?_ (by assumption) ?_
    rotate_left
    · (intro w hSw; go_simp; try with_reducible rfl)
    try simp only [Act.put]
    refine take_w 10 (some 14) (v := ?_) (by kernel_rfl) (by kernel_rfl) (by kernel_rfl) (by kernel_rfl) (by kernel_rfl) (fun _ _ _ h => h) (by rfl) ?_ (by assumption) ?_
    rotate_left
    · (intro w hSw; go_simp; try with_reducible rfl)
    try simp only [Act.put]
    refine ready_one 11 (by kernel_rfl) (by kernel_rfl) (by rfl) (fun Kc hKc => ?_)
    go_simp
    refine hKc.out _ _ trivial (fun _ => ?_)
    clear hKc Kc
    try simp only [Act.put, List.setIfInBounds_toArray, List.set_cons_zero, List.set_cons_succ]
    refine wpAnyH_done (by kernel_rfl) ?_ _
    go_end0
    exact ⟨rfl, _, HF.out.1, HF.out.2⟩
set_option maxRecDepth 100000 in
set_option maxHeartbeats 4000000 in
theorem push_heap {base n B : Nat} {v : Value} {a : Nat → Rk} (w0 w : World) (hw : KW w0) (hE0 : Ext w0 w) (hb : w0.heap.size ≤ base) (hbw : base ≤ w.heap.size) (hq : HpQ 52 base w B v a n) (hf : FitA a n) (r : Rk) (hr : FitR r) (hn : n < 100000) :
    Calls Tryz.prog 42 #[.iface 44 (.pointer (some ⟨B, 0, none⟩)), .iface 52 (rkV r)] w fun e' w' => e' = .returned (.tuple #[]) ∧ ∃ v', HpQ 52 base w' B v' (upF ltR (updA a n r) n) (n + 1) ∧ Ext w0 w' := by
  have HC := Lib.hid (qpush_any w0 w hE0 hb hbw hq r hn)
  have HW := Lib.hid hw
  have HB0 := Lib.hid hb
  have HF := Lib.hid (hf.upd hr)
  have n1 := nil_push ⟨B, 0, none⟩
  have m1 := meth_push ⟨B, 0, none⟩
  have n2 := nil_len ⟨B, 0, none⟩
  clear hq hw hE0 hb hbw hf
  go_enter Tryz.func42, Tryz.ntmps42
  go_wp2_with fail
  refine HC.out.mono ?_
  rintro e' w1 ⟨rfl, v', hq1, hE1⟩
  obtain ⟨g, cap, rfl, -, -⟩ := hq1.row.form (by omega)
  have m2 := meth_len B w1 _ (hq1.box.cell 0 _ rfl)
  have HQ1 := Lib.hid hq1
  have HE1 := Lib.hid hE1
  clear hq1 hE1 m1 n1
  go_wp2_with fail
  refine (rowlen_any _ _ _ w1).mono ?_
  rintro e' w2 ⟨rfl, rfl⟩
  have hx : ((n + 1 : Nat) : Int) - 1 = (n : Int) := by omega
  go_wp2_with fail
  refine (up_heap w0 w1 HW.out HE1.out HB0.out HQ1.out HF.out n (by omega) (by omega)).mono ?_
  rintro e' w2 ⟨rfl, hq2, -, hE2⟩
  have HQ2 := Lib.hid hq2
  have HE2 := Lib.hid hE2
  clear hq2 hE2
  go_wp2
  go_end0
  exact ⟨rfl, _, HQ2.out, HE2.out⟩
theorem sizeof_rank : ∀ w, (sizeOf (Tryz.prog.elem 48)).run Tryz.prog w = .ok 4 w := fun _ => by kernel_rfl
theorem slice_rank_to (a : Option Addr) (len cap k : Nat) (h1 : k ≤ cap) (w : World) :
    (Instr.slice 48 (.slice a len cap) none (some (.int .i64 (k : Int))) none).run Tryz.prog w = .ok (.slice a k cap) w := by
  rw [run_slice_h (ht := by kernel_rfl) (h0 := by omega) (h2 := by omega), sizeof_rank]
  cases a <;> simp [Result.andThen, sliced, Addr.add]
set_option maxRecDepth 100000 in
set_option maxHeartbeats 4000000 in
theorem qpop_any {base g cap n B : Nat} {a : Nat → Rk} (w0 w : World) (hE0 : Ext w0 w) (hb : w0.heap.size ≤ base) (hq : HpQ 52 base w B (.slice (some ⟨g, 0, none⟩) (n + 1) cap) a (n + 1)) (hn : n < 100000) (hcap : n ≤ cap) :
    Calls Tryz.prog 165 #[.pointer (some ⟨B, 0, none⟩)] w fun e' w' => e' = .returned (.iface 52 (rkV (a n))) ∧ HpQ 52 base w' B (.slice (some ⟨g, 0, none⟩) n cap) a n ∧ Far2 B g w w' ∧ Ext w0 w' := by
  have h1 := hq.row.at (i := n) (by omega)
  have hgl := World.ownsRow.lt hq.row g rfl
  obtain ⟨x, hx⟩ : ∃ x, x = a n := ⟨_, rfl⟩
  have HA := Lib.hid hx
  rw [← hx] at h1 ⊢
  have c0 : w.cell? ⟨g, n * 4, none⟩ = some (.int .i64 x.fails) := h1 0 _ rfl
  have c1 : w.cell? ⟨g, n * 4 + 1, none⟩ = some (.int .i64 x.up) := h1 1 _ rfl
  have c2 : w.cell? ⟨g, n * 4 + 2, none⟩ = some (.int .i64 x.place) := h1 2 _ rfl
  have c3 : w.cell? ⟨g, n * 4 + 3, none⟩ = some (.string (str x.id)) := h1 3 _ rfl
  have hc := hq.box.cell 0 _ rfl
  have hf := hq.box.free 0
  have hBl := hq.box.lt
  have hxx : ((n + 1 : Nat) : Int) - 1 = (n : Int) := by omega
  have HQ := Lib.hid hq
  have HE0 := Lib.hid hE0
  have HB0 := Lib.hid hb
  have hs := slice_rank_to (some ⟨g, 0, none⟩) (n + 1) cap n hcap
  clear h1 hx hq hE0 hb
  go_enter Tryz.func165, Tryz.ntmps165
  go_upto_region 3 with (fail)
  have hb1 := BoxL.new w [.int .i64 x.fails, .int .i64 x.up, .int .i64 x.place, .string (str x.id)] 52
  have hE1 : Ext w (w.alloc (.cells #[.int .i64 x.fails, .int .i64 x.up, .int .i64 x.place, .string (str x.id)] 52)) := (Ext.refl w).alloc _
  have hQ1 := HQ.out.ext hE1
  have hF1 : Far2 B g w (w.alloc (.cells #[.int .i64 x.fails, .int .i64 x.up, .int .i64 x.place, .string (str x.id)] 52)) := Far2.of hE1.grownBy (.inr (.inr rfl))
  have hz : w.heap.size ≠ B := by omega
  generalize w.alloc (.cells #[.int .i64 x.fails, .int .i64 x.up, .int .i64 x.place, .string (str x.id)] 52) = W1 at *
  have hc := hQ1.box.cell 0 _ rfl
  have hf := hQ1.box.free 0
  have k0 := hb1.cell 0 _ rfl
  have k1 := hb1.cell 1 _ rfl
  have k2 := hb1.cell 2 _ rfl
  have k3 := hb1.cell 3 _ rfl
  have hz2 : ¬ B = w.heap.size := fun h => hz h.symm
  have hp := hQ1.row.pop
  have hne : (Value.slice (some ⟨g, 0, none⟩) n cap).ownBlock ≠ some B := HQ.out.apart
  have HF : Hid (HpQ 52 base (W1.setCell ⟨B, 0, none⟩ (.slice (some ⟨g, 0, none⟩) n cap)) B (.slice (some ⟨g, 0, none⟩) n cap) a n ∧ Far2 B g w (W1.setCell ⟨B, 0, none⟩ (.slice (some ⟨g, 0, none⟩) n cap)) ∧ Ext w0 (W1.setCell ⟨B, 0, none⟩ (.slice (some ⟨g, 0, none⟩) n cap))) := Lib.hid
    ⟨⟨hQ1.box.set 0 (by simp) _, hp.kept (setOne_grown W1 B 0 _) (.inr hne), hne, HQ.out.low⟩, hF1.trans (Far2.of (setOne_grown W1 B 0 _) (.inl rfl)), (HE0.out.trans hE1).setCell (p := ⟨B, 0, none⟩) (Nat.le_trans HB0.out HQ.out.low) _⟩
  clear hQ1 hF1 hE1 hp hb1 hne c0 c1 c2 c3
  go_wp2
  go_ret
  exact ⟨rfl, HF.out⟩
set_option maxRecDepth 100000 in
set_option maxHeartbeats 4000000 in
theorem pop_heap {base g cap n B : Nat} {a : Nat → Rk} (w0 w : World) (hw : KW w0) (hE0 : Ext w0 w) (hb : w0.heap.size ≤ base) (hq : HpQ 52 base w B (.slice (some ⟨g, 0, none⟩) (n + 1) cap) a (n + 1)) (hf : FitA a (n + 1)) (hn : n < 100000) (hcap : n ≤ cap) :
    Calls Tryz.prog 30 #[.iface 44 (.pointer (some ⟨B, 0, none⟩))] w fun e' w' => e' = .returned (.iface 52 (rkV (a 0))) ∧ HpQ 52 base w' B (.slice (some ⟨g, 0, none⟩) n cap) (downF ltR n (swp a 0 n) 0) n ∧ Far2 B g w w' ∧ Ext w0 w' := by
  have hout : downF ltR n (swp a 0 n) 0 n = a 0 := by rw [(downF_same ltR n 0 (swp a 0 n) (by omega)).out n (Nat.le_refl _), swp_r]
  have hgb := (World.ownsRow.lt hq.row g rfl).1
  have HG := Lib.hid (show w0.heap.size ≤ g by omega)
  have HO := Lib.hid hout
  have HQ := Lib.hid hq
  have HE0 := Lib.hid hE0
  have HB0 := Lib.hid hb
  have HW := Lib.hid hw
  have HF := Lib.hid (hf.swp (i := 0) (j := n) (by omega) (by omega))
  have n1 := nil_len ⟨B, 0, none⟩
  have n2 := nil_swap ⟨B, 0, none⟩
  have n3 := nil_pop ⟨B, 0, none⟩
  have m3 := meth_pop ⟨B, 0, none⟩
  have m1 := meth_len B w _ (hq.box.cell 0 _ rfl)
  have m2 := meth_swap B w _ (hq.box.cell 0 _ rfl)
  have hxx : ((n + 1 : Nat) : Int) - 1 = (n : Int) := by omega
  have HS := Lib.hid (rowswap_any w hq 0 n (by omega) (by omega))
  clear hout hq hE0 hb hw hf hgb
  go_enter Tryz.func30, Tryz.ntmps30
  go_wp2_with fail
  refine (rowlen_any _ _ _ w).mono ?_
  rintro e' w2 ⟨rfl, rfl⟩
  go_wp2_with fail
  refine HS.out.mono ?_
  rintro e' w1 ⟨rfl, hq1, hg1⟩
  have HQ1 := Lib.hid hq1
  have HF1 := Lib.hid (show Far2 B g w w1 from Far2.of hg1 (.inr (.inl rfl)))
  have HE1 := Lib.hid (show Ext w0 w1 from HE0.out.grown hg1 (fun q e => by cases e; exact HG.out))
  clear hq1 hg1 m1 m2 n1 n2
  go_wp2_with fail
  refine (down_heap (N := n + 1) (n := n) w0 w1 HW.out HE1.out HB0.out HQ1.out HF.out (by omega) (by omega) (by omega)).mono ?_
  rintro e' w2 ⟨⟨v, rfl⟩, hq2, hF2, hE2⟩
  have HP := Lib.hid (qpop_any w0 w2 hE2 HB0.out hq2 hn hcap)
  have HF2 := Lib.hid (HF1.out.trans hF2)
  clear hq2 hF2 hE2
  go_wp2_with fail
  refine HP.out.mono ?_
  rintro e' w3 ⟨rfl, hq3, hF3, hE3⟩
  have HQ3 := Lib.hid hq3
  have HE3 := Lib.hid hE3
  have HF3 := Lib.hid (HF2.out.trans hF3)
  clear hq3 hF3 hE3
  go_wp2
  go_ret
  exact ⟨by rw [← HO.out]; rfl, HQ3.out, HF3.out, HE3.out⟩
end Go.Proofs.YtbciamploeejiaaGreatDoor

open Go.RowKit Go.Shelf
namespace Go.Proofs.YtbciamploeejiaaGreatDoor
open Go Go.Proofs Fm
attribute [local go_sem] Oper.semAt_some

/-- Places as numbers. -/
def natsI (l : List Nat) : List Int := l.map (fun (o : Nat) => (o : Int))
theorem natsI_len (l : List Nat) : (natsI l).length = l.length := List.length_map _
theorem ownsRow_sl {W : World} {base size k : Nat} {e : TypeId} {v : Value} {xs : List Value} (h : W.ownsRow base e size v k xs) : ∃ A c, v = .slice A k c := by
  rcases h.2 with ⟨rfl, h0⟩ | ⟨g, cap, _, rfl, _⟩
  · exact ⟨none, 0, by rw [h0]⟩
  · exact ⟨_, _, rfl⟩
/-- The rounds of AppendSeq. -/
def CRnd (w : World) (pre : List Nat) (W : World) : Prop := (∃ v, Boxed W w.heap.size 22 v ∧ W.ownsRow w.heap.size 3 1 v (natsI pre).length ((natsI pre).map (Value.int .i64)) ∧ (fun (_ : List Nat) (_ : Value) => True) pre v) ∧ Below w.heap.size w W
theorem CRnd.own (w : World) (B : Nat) (hB : w.heap.size ≤ B) : OwnFrom B (CRnd w) :=
  OwnFrom.and (Own.from (holdsRow_own w.heap.size w.heap.size 22 3 1 (fun pre => (natsI pre).length) (fun pre => (natsI pre).map (Value.int .i64)) (fun _ _ => True)) _) (ownFrom_below (Nat.le_refl _) hB)
end Go.Proofs.YtbciamploeejiaaGreatDoor

namespace Go.Proofs.YtbciamploeejiaaGreatDoor
open Go Go.Proofs Fm Go.RowKit

/-- A key's bytes. -/
def kb (f o : Int) (s : List UInt8) : List UInt8 := keyBytes [.int .i64 f, .int .i64 o, .string s]
end Go.Proofs.YtbciamploeejiaaGreatDoor

open Go.RowKit Go.Shelf
namespace Fm
open Go Go.RowKit
/-- A node of a row, whole. -/
theorem nd_rangeC {w wr : World} {l : List Nd} {a : Option Addr} {n cap : Nat} (h : ndE.Row w l (.slice a n cap)) (hE : Ext w wr) (i : Nat) (hi : i < l.length) :
    ∃ (b off : Nat) (Cs : List Value) (aa : Option Addr) (ma ca : Nat) (k0 n0 : Int) (s0 : ByteArray) (a0 : Option Addr) (m0 c0 : Nat), a = some ⟨b, off, none⟩ ∧ b < w.heap.size ∧ Cs = ndCells l[i] (.slice aa ma ca) (.int .u8 k0) (.int .i64 n0) (.string s0) (.slice a0 m0 c0) ∧ wr.rangeAt b (off + i * 16) Cs ∧ NdV w l[i] (.agg Cs.toArray) ∧
      Cs.length = 16 ∧ (∀ u, u ∈ Cs → u.oneCell' = true) := by
  obtain ⟨g, off, rfl, hb, aa, ma, ca, K', N', S', D', ⟨c0, c1, c2, c3, c4, c5, c6, c7, c8, c9, c10, c11, c12, c13, c14, c15⟩, hnv⟩ := nd_at16 h hE i hi
  obtain ⟨k0, n0, s0, a0, m0, d0, rfl, rfl, rfl, rfl⟩ := hnv.four
  refine ⟨g, off, _, aa, ma, ca, k0, n0, s0, a0, m0, d0, rfl, hb, rfl, ?_, hnv, rfl, ?_⟩
  · intro j v hv
    match j, hv with
    | 0, hv => (injection hv with hv; rw [← hv]; exact c0)
    | 1, hv => (injection hv with hv; rw [← hv]; exact c1)
    | 2, hv => (injection hv with hv; rw [← hv]; exact c2)
    | 3, hv => (injection hv with hv; rw [← hv]; exact c3)
    | 4, hv => (injection hv with hv; rw [← hv]; exact c4)
    | 5, hv => (injection hv with hv; rw [← hv]; exact c5)
    | 6, hv => (injection hv with hv; rw [← hv]; exact c6)
    | 7, hv => (injection hv with hv; rw [← hv]; exact c7)
    | 8, hv => (injection hv with hv; rw [← hv]; exact c8)
    | 9, hv => (injection hv with hv; rw [← hv]; exact c9)
    | 10, hv => (injection hv with hv; rw [← hv]; exact c10)
    | 11, hv => (injection hv with hv; rw [← hv]; exact c11)
    | 12, hv => (injection hv with hv; rw [← hv]; exact c12)
    | 13, hv => (injection hv with hv; rw [← hv]; exact c13)
    | 14, hv => (injection hv with hv; rw [← hv]; exact c14)
    | 15, hv => (injection hv with hv; rw [← hv]; exact c15)
    | j + 16, hv => cases hv
  · intro u hu
    simp only [ndCells, List.mem_cons, List.not_mem_nil, or_false] at hu
    rcases hu with rfl | rfl | rfl | rfl | rfl | rfl | rfl | rfl | rfl | rfl | rfl | rfl | rfl | rfl | rfl | rfl <;> rfl
end Fm
namespace Go.Proofs.YtbciamploeejiaaGreatDoor
open Go Go.Proofs Fm
attribute [local go_sem] Oper.semAt_some

theorem sizenode_C : (Tryz.prog.info? 38).map (·.size) = some 16 := by kernel_rfl
end Go.Proofs.YtbciamploeejiaaGreatDoor

open Go.RowKit Go.Shelf
namespace Fm
open Go Go.RowKit
theorem deepF_rngR {nd : List Nd} (hO : RightO nd) (hl : nd.length ≤ 1000000) (ow : Int) : 0 ≤ deepF nd ow ∧ deepF nd ow ≤ 1000001 := by
  unfold deepF
  cases hp : placeF nd ow with
  | false => simp
  | true =>
    obtain ⟨h0, h1⟩ : 0 ≤ ow ∧ ow < nd.length := by unfold placeF at hp; simpa using hp
    have := chainO_len hO ow.toNat (by omega)
    rw [if_pos rfl]
    omega
end Fm
namespace Go.Proofs.YtbciamploeejiaaGreatDoor
open Go Go.Proofs Fm

theorem rankF_at {l : List Nd} {i : Nat} (hi : i < l.length) : rankF l i = ⟨l[i].fails, -(deepF l (i : Int)), (i : Int), l[i].id⟩ := by unfold rankF; rw [nthF_at hi]
set_option maxRecDepth 100000 in
set_option maxHeartbeats 4000000 in
theorem ranked_any (l : List Nd) (hO : RightO l) (hl : l.length ≤ 1000000) (i : Nat) (hi : i < l.length) (w : World) (v : Value) (h : ndE.Row w l v) :
    Calls Tryz.prog 24 #[v, .int .i64 (i : Int)] w fun e w' => e = .returned (rkV (rankF l i)) ∧ Ext w w' := by
  obtain ⟨a, c, rfl, hc1, hc2⟩ := h.slice
  have HD := Lib.hid (fun X (hX : Ext w X) => deep_any l i hO X _ (h.ext hX))
  have hdr := deepF_rngR hO hl i
  have HX := Lib.hid (rankF_at hi)
  obtain ⟨b, off, rfl, hb, aa, ma, ca, kk, N, s, d, ⟨x0, -, -, -, -, -, -, -, -, -, x10, -⟩, hnv⟩ := nd_at16 h (Ext.refl w) i hi
  obtain ⟨fl, hfl⟩ : ∃ fl, fl = l[i].fails := ⟨_, rfl⟩
  obtain ⟨id, hid⟩ : ∃ id, id = l[i].id := ⟨_, rfl⟩
  rw [← hfl] at x10 HX
  rw [← hid] at x0 HX
  have hSC : ∀ X, Ext w X → (X.cell? ⟨b, off + i * 16, none⟩ = some (.string (str id)) ∧ X.cell? ⟨b, off + i * 16 + 10, none⟩ = some (.int .i64 fl)) := fun X hX => ⟨(hX.cell (p := ⟨b, off + i * 16, none⟩) hb).trans x0, (hX.cell (p := ⟨b, off + i * 16 + 10, none⟩) hb).trans x10⟩
  have hi0 : (0 : Int) ≤ (i : Int) := by omega
  have hi1 : (i : Int) < (l.length : Int) := by omega
  clear hfl hid hnv x0 x10 h
  go_enter Tryz.func24, Tryz.ntmps24
  go_upto_region 1 with (fail)
  have hB := BoxL.new w [.int .i64 0, .int .i64 0, .int .i64 0, .string { data := #[] }] 52
  have hE1 : Ext w (w.alloc (.cells #[.int .i64 0, .int .i64 0, .int .i64 0, .string { data := #[] }] 52)) := (Ext.refl w).alloc _
  have hz : b ≠ w.heap.size := by omega
  have hwB : w.heap.size ≤ w.heap.size := Nat.le_refl _
  have HE1 := Lib.hid hE1
  obtain ⟨W1, hW1⟩ : ∃ W1, W1 = w.alloc (.cells #[.int .i64 0, .int .i64 0, .int .i64 0, .string { data := #[] }] 52) := ⟨_, rfl⟩
  rw [← hW1] at hB HE1 ⊢
  obtain ⟨Bx, hBx⟩ : ∃ Bx, Bx = w.heap.size := ⟨_, rfl⟩
  rw [← hBx] at hB ⊢
  have HBx := Lib.hid (show w.heap.size ≤ Bx by omega)
  have HSC : Hid (∀ X, Ext W1 X → (X.cell? ⟨b, off + i * 16, none⟩ = some (.string (str id)) ∧ X.cell? ⟨b, off + i * 16 + 10, none⟩ = some (.int .i64 fl))) := Lib.hid (fun X hX => hSC X (HE1.out.trans hX))
  have hzb : b ≠ Bx := by omega
  have HB := Lib.hid hB
  have ED := Lib.hid (Ext.refl W1).drew
  clear hE1 hB hSC hW1 hBx hz hwB hb
  generalize deepF l (i : Int) = dp at *
  go_region_held3 (fun X => X.cell? ⟨b, off + i * 16, none⟩ = some (.string (str id)) ∧ X.cell? ⟨b, off + i * 16 + 10, none⟩ = some (.int .i64 fl))
    ((first | exact HSC.out _ ED.out | exact HSC.out _ E1.out | (refine ⟨?_, ?_⟩ <;> go_simp)))
    ((go_at_call 18; refine (HD.out _ (HE1.out.trans ED.out)).mono ?_; rintro e w4 ⟨rfl, hE4⟩; have E1 := Lib.hid (ED.out.trans hE4); clear hE4;
      have HB4 := HB.out.ext E1.out; have z0 := HB4.cell 0 _ rfl; have z1 := HB4.cell 1 _ rfl; have z2 := HB4.cell 2 _ rfl; have z3 := HB4.cell 3 _ rfl; have y0 := HB4.free 0; have y1 := HB4.free 1; have y2 := HB4.free 2; have y3 := HB4.free 3; have HS1 := HSC.out _ E1.out; obtain ⟨HS1, HS2⟩ := HS1; clear HB4))
  have hneg : IntKind.i64.wrap (-dp) = -dp := IntWalk.i64_in _ (by omega)
  rw [hneg]
  go_wp2
  exact bodyPost_ret (v := .agg #[.int .i64 fl, .int .i64 (-dp), .int .i64 (i : Int), .string (str id)]) (by simp [results, Tryz.results24, go_sem, z0, z1, z2, z3]) rfl ⟨by rw [HX.out]; rfl, ((((HE1.out.trans E1.out).setCell (p := ⟨Bx, 0, none⟩) HBx.out _).setCell (p := ⟨Bx, 1, none⟩) HBx.out _).setCell (p := ⟨Bx, 2, none⟩) HBx.out _).setCell (p := ⟨Bx, 3, none⟩) HBx.out _⟩
set_option maxRecDepth 100000 in
set_option maxHeartbeats 4000000 in
theorem ahead_any (l : List Nd) (hO : RightO l) (hl : l.length ≤ 1000000) (hid : ∀ n, n ∈ l → n.id.length ≤ 1000000) (i k : Int) (w : World) (hw : KW w) (v : Value) (h : ndE.Row w l v) :
    Calls Tryz.prog 9 #[v, .int .i64 i, .int .i64 k] w fun e w' => e = .returned (.bool (aheadF l i k)) ∧ Ext w w' := by
  have HP1 := Lib.hid (rdplace_any l i w _ h)
  have HP2 := Lib.hid (fun X (hX : Ext w X) => rdplace_any l k X _ (h.ext hX))
  have HX := Lib.hid (show aheadF l i k = (placeF l i && (placeF l k && ltR (rankF l i.toNat) (rankF l k.toNat))) from rfl)
  cases hp1 : placeF l i with
  | false =>
    rw [hp1] at HP1 HX
    obtain ⟨a, c, rfl, hc1, hc2⟩ := h.slice
    clear hp1 h
    go_enter Tryz.func9, Tryz.ntmps9
    go_wp2_with fail
    refine HP1.out.mono ?_
    rintro e w1 ⟨rfl, rfl⟩
    go_wp2
    go_ret
    exact ⟨by rw [HX.out]; rfl, Ext.refl w⟩
  | true =>
    cases hp2 : placeF l k with
    | false =>
      rw [hp1] at HP1 HX
      rw [hp2] at HP2 HX
      obtain ⟨a, c, rfl, hc1, hc2⟩ := h.slice
      clear hp1 hp2 h
      go_enter Tryz.func9, Tryz.ntmps9
      go_wp2_with fail
      refine HP1.out.mono ?_
      rintro e w1 ⟨rfl, rfl⟩
      go_wp2_with fail
      refine (HP2.out w (Ext.refl w)).mono ?_
      rintro e w1 ⟨rfl, rfl⟩
      go_wp2
      go_ret
      exact ⟨by rw [HX.out]; rfl, Ext.refl w⟩
    | true =>
      obtain ⟨i0, i1⟩ := placeF_both.1 hp1
      obtain ⟨k0, k1⟩ := placeF_both.1 hp2
      obtain ⟨i, rfl⟩ : ∃ j : Nat, (j : Int) = i := ⟨i.toNat, by omega⟩
      obtain ⟨k, rfl⟩ : ∃ j : Nat, (j : Int) = k := ⟨k.toNat, by omega⟩
      have hi : i < l.length := by omega
      have hk : k < l.length := by omega
      rw [hp1] at HP1 HX
      rw [hp2] at HP2 HX
      have HR1 := Lib.hid (fun X (hX : Ext w X) => ranked_any l hO hl i hi X _ (h.ext hX))
      have HR2 := Lib.hid (fun X (hX : Ext w X) => ranked_any l hO hl k hk X _ (h.ext hX))
      have HT := Lib.hid (fun X (hX : Ext w X) => than_any (rankF l i) (rankF l k) (by rw [rankF_at hi]; exact hid _ (List.getElem_mem hi)) (by rw [rankF_at hk]; exact hid _ (List.getElem_mem hk)) X (hw.ext hX))
      have HX := Lib.hid (show aheadF l i k = decide (thanR (rankF l i) (rankF l k) < 0) by rw [HX.out]; rfl)
      obtain ⟨a, c, rfl, hc1, hc2⟩ := h.slice
      clear hp1 hp2 h hw hid
      go_enter Tryz.func9, Tryz.ntmps9
      go_wp2_with fail
      refine HP1.out.mono ?_
      rintro e w1 ⟨rfl, rfl⟩
      go_wp2_with fail
      refine (HP2.out w (Ext.refl w)).mono ?_
      rintro e w1 ⟨rfl, rfl⟩
      go_wp2_with fail
      refine (HR1.out w (Ext.refl w)).mono ?_
      rintro e w2 ⟨rfl, hE2⟩
      have HE2 := Lib.hid hE2
      clear hE2
      go_wp2_with fail
      refine (HR2.out w2 HE2.out).mono ?_
      rintro e w3 ⟨rfl, hE3⟩
      have HE3 := Lib.hid (HE2.out.trans hE3)
      clear hE3
      go_wp2_with fail
      refine (HT.out w3 HE3.out).mono ?_
      rintro e w4 ⟨rfl, hE4⟩
      have HE4 := Lib.hid (HE3.out.trans hE4)
      clear hE4
      go_wp2
      go_ret
      exact ⟨by rw [HX.out]; rfl, HE4.out⟩
/-- Between two rounds of queued. -/
structure QSt (l : List Nd) (base : Nat) (B : Nat) (wr : World) (v : Value) (a : Nat → Rk) (n j : Nat) : Prop where
  hq : HpQ 52 base wr B v a n
  hp : Hp ltR a n
  mem : ∀ x, (∃ k, k < n ∧ a k = x) ↔ ∃ i, i < j ∧ readyB l i = true ∧ x = rankF l i
  inj : ∀ i k, i < n → k < n → a i = a k → i = k
  fit : FitA a n
theorem rankF_inj {l : List Nd} {i k : Nat} (h : rankF l i = rankF l k) : i = k := by
  have : (i : Int) = (k : Int) := congrArg Rk.place h
  omega
theorem QSt.skip {l : List Nd} {base B : Nat} {wr : World} {v : Value} {a : Nat → Rk} {n j : Nat} (h : QSt l base B wr v a n j) (hr : readyB l j = false) : QSt l base B wr v a n (j + 1) := by
  refine ⟨h.hq, h.hp, fun x => ?_, h.inj, h.fit⟩
  rw [h.mem x]
  constructor
  · rintro ⟨i, h1, h2, h3⟩; exact ⟨i, by omega, h2, h3⟩
  · rintro ⟨i, h1, h2, h3⟩
    refine ⟨i, ?_, h2, h3⟩
    by_cases e : i = j
    · subst e; rw [hr] at h2; cases h2
    · omega
theorem QSt.more {l : List Nd} {base B : Nat} {wr w' : World} {v v' : Value} {a : Nat → Rk} {n j : Nat} (h : QSt l base B wr v a n j) (hr : readyB l j = true) (hf : FitR (rankF l j))
    (hq : HpQ 52 base w' B v' (upF ltR (updA a n (rankF l j)) n) (n + 1)) : QSt l base B w' v' (upF ltR (updA a n (rankF l j)) n) (n + 1) (j + 1) := by
  have hs : Same (updA a n (rankF l j)) (upF ltR (updA a n (rankF l j)) n) (n + 1) := upF_same ltR n _ (by omega)
  have hm : ∀ x, (∃ k, k < n + 1 ∧ updA a n (rankF l j) k = x) ↔ ∃ i, i < j + 1 ∧ readyB l i = true ∧ x = rankF l i := fun x => by
    constructor
    · rintro ⟨k, hk, rfl⟩
      by_cases e : k = n
      · subst e; exact ⟨j, by omega, hr, updA_same _ _ _⟩
      · rw [updA_far _ e]
        obtain ⟨i, h1, h2, h3⟩ := (h.mem (a k)).1 ⟨k, by omega, rfl⟩
        exact ⟨i, by omega, h2, h3⟩
    · rintro ⟨i, h1, h2, rfl⟩
      by_cases e : i = j
      · subst e; exact ⟨n, by omega, updA_same _ _ _⟩
      · obtain ⟨k, hk, hk2⟩ := (h.mem (rankF l i)).2 ⟨i, by omega, h2, rfl⟩
        exact ⟨k, by omega, by rw [updA_far _ (by omega)]; exact hk2⟩
  refine ⟨hq, push_hp ltR_good (fun k hk1 hk2 => ?_), fun x => (hs.mem x).trans (hm x), hs.inj (fun i k hi hk e => ?_), (h.fit.upd hf).of hs⟩
  · rw [updA_far _ (by omega), updA_far _ (by omega)]
    exact h.hp k hk1 hk2
  · by_cases e1 : i = n
    · by_cases e2 : k = n
      · omega
      · exfalso
        rw [e1, updA_same, updA_far _ e2] at e
        obtain ⟨q, h1, h2, h3⟩ := (h.mem (a k)).1 ⟨k, by omega, rfl⟩
        have := rankF_inj (e.trans h3)
        omega
    · by_cases e2 : k = n
      · exfalso
        rw [e2, updA_same, updA_far _ e1] at e
        obtain ⟨q, h1, h2, h3⟩ := (h.mem (a i)).1 ⟨i, by omega, rfl⟩
        have := rankF_inj (e.symm.trans h3)
        omega
      · rw [updA_far _ e1, updA_far _ e2] at e
        exact h.inj i k (by omega) (by omega) e
theorem QSt.ext {l : List Nd} {base B : Nat} {wr w' : World} {v : Value} {a : Nat → Rk} {n j : Nat} (h : QSt l base B wr v a n j) (hE : Ext wr w') : QSt l base B w' v a n j := ⟨h.hq.ext hE, h.hp, h.mem, h.inj, h.fit⟩
set_option maxRecDepth 100000 in
set_option maxHeartbeats 4000000 in
theorem queued_any (l : List Nd) (hO : RightO l) (hl : l.length ≤ 1000) (hid : ∀ n, n ∈ l → n.id.length ≤ 1000000) (w : World) (hw : KW w) (v : Value) (h : ndE.Row w l v) :
    Calls Tryz.prog 21 #[v] w fun e w' => ∃ (B : Nat) (u : Value) (a : Nat → Rk) (n : Nat), e = .returned (.pointer (some ⟨B, 0, none⟩)) ∧ QSt l B B w' u a n l.length ∧ w.heap.size ≤ B ∧ n ≤ l.length ∧ Ext w w' := by
  have HR := Lib.hid h
  have HW := Lib.hid hw
  have HRk := Lib.hid (fun (j : Nat) (hj : j < l.length) X (hX : Ext w X) => ranked_any l hO (by omega) j hj X _ (h.ext hX))
  have HFit : Hid (∀ j : Nat, j < l.length → FitR (rankF l j)) := Lib.hid (fun j hj => by
    have hdr := deepF_rngR hO (by omega) (j : Int)
    rw [rankF_at hj]
    obtain ⟨a, c, rfl, -, -⟩ := h.slice
    obtain ⟨b, off, -, -, aa, ma, ca, kk, N, s, d, -, hnv⟩ := nd_at16 h (Ext.refl w) j hj
    have hwf := hnv.wf
    exact ⟨hwf.2.2.2.2.2.2.2.1, by show isI64 (-(deepF l j)); unfold isI64; omega, by show isI64 (j : Int); unfold isI64; omega, hid _ (List.getElem_mem hj)⟩)
  obtain ⟨a, c, rfl, hc1, hc2⟩ := h.slice
  have HL := Lib.hid hl
  clear h hw hid
  go_enter Tryz.func21, Tryz.ntmps21
  go_wp2_with fail
  have hB := BoxL.new w [.slice none 0 0] 50
  have hE1 : Ext w (w.alloc (.cells #[.slice none 0 0] 50)) := (Ext.refl w).alloc _
  have hQ1 : QSt l w.heap.size w.heap.size (w.alloc (.cells #[.slice none 0 0] 50)) (.slice none 0 0) (fun _ => ⟨0, 0, 0, []⟩) 0 0 :=
    ⟨⟨hB, World.ownsRow_nil _ _ _ _, by simp [Value.ownBlock], Nat.le_refl _⟩, fun k hk1 hk2 => by omega, fun x => ⟨fun ⟨k, hk, _⟩ => by omega, fun ⟨i, hi, _⟩ => by omega⟩, fun i k hi => by omega, fun i hi => by omega⟩
  have HQ1 := Lib.hid hQ1
  have HE1 := Lib.hid hE1
  obtain ⟨W1, hW1⟩ : ∃ W1, W1 = w.alloc (.cells #[.slice none 0 0] 50) := ⟨_, rfl⟩
  rw [← hW1] at HQ1 HE1 ⊢
  obtain ⟨B, hB'⟩ : ∃ B, B = w.heap.size := ⟨_, rfl⟩
  rw [← hB'] at HQ1 ⊢
  clear hB hE1 hQ1 hW1
  have HB := Lib.hid hB'
  clear hB'
  obtain ⟨LN, hLN⟩ : ∃ LN, LN = l.length := ⟨_, rfl⟩
  rw [← hLN] at hc1 hl ⊢
  have HLN := Lib.hid hLN
  have HR := Lib.hid (show ndE.Row w l (.slice a LN c) by rw [HLN.out]; exact HR.out)
  rw [← hLN] at HRk
  clear hLN
  go_loopw [10] (fun i wr => ∃ (j n : Nat) (u : Value) (q : Nat → Rk), j ≤ LN ∧ n ≤ j ∧ i = .int .i64 (j : Int) ∧ Hid (Ext w wr) ∧ Hid (QSt l B B wr u q n j)) (fun i _ => LN - (intOf i).toNat)
  case atStart => exact ⟨0, 0, _, _, by omega, by omega, rfl, HE1, HQ1⟩
  case round =>
    clear HQ1 HE1
    obtain ⟨j, n, u, q, hj, hnj, rfl, HE, HQ⟩ := hrel
    by_cases hlt : j < LN
    case neg =>
      have HX := Lib.hid (show QSt l B B wr u q n l.length by rw [← HLN.out, show LN = j by omega]; exact HQ.out)
      go_wp2
      go_ret
      exact ⟨B, u, q, n, rfl, HX.out, by have := HB.out; omega, by have := HLN.out; omega, HE.out⟩
    have hi' : j < l.length := by have := HLN.out; omega
    obtain ⟨g, off, Cs, aa, ma, ca, k0, n0, s0, a0, m0, c0, rfl, hb, hCs, hrg, hnv, hl16, hone⟩ := nd_rangeC HR.out HE.out j hi'
    have HRg := Lib.hid hrg
    have HLn : Hid ((Tryz.prog.info? 38).map (·.size) = some Cs.length) := Lib.hid (by rw [hl16]; exact sizenode_C)
    have HL16 := Lib.hid hl16
    have HN1 := Lib.hid hone
    have HCo : Hid (Cs[9]? = some (.int .u8 (l[j].stand.toNat : Int))) := Lib.hid (by rw [hCs]; rfl)
    clear hrg hnv hCs hl16 hone
    have hj0 : (0 : Int) ≤ (j : Int) := by omega
    have hj1 : (j : Int) < (LN : Int) := by omega
    go_upto_region 5 with (first | (refine wpList_load_mid rfl _ _ rfl _ _ rfl _ _ HRg.out Tryz.underlying38 rfl HLn.out ?_) | (refine wpList_storeBox rfl _ _ _ rfl _ _ _ _ rfl rfl rfl rfl sizenode_C rfl HL16.out HN1.out ?_))
    have hE1 := (Ext.refl wr).alloc (.cells Cs.toArray 38)
    have hB1 := BoxL.new wr Cs 38
    have HQ1 := Lib.hid (HQ.out.ext hE1)
    have HE1 := Lib.hid (HE.out.trans hE1)
    generalize wr.alloc (.cells Cs.toArray 38) = W2 at *
    generalize wr.heap.size = NB at *
    have q9 := hB1.cell 9 _ HCo.out
    clear hE1 hB1 HQ HE HRg HLn HN1 HCo HL16
    have hk := u8_is (k := l[j].stand) 1
    rw [show (((1 : UInt8).toNat : Nat) : Int) = 1 from rfl] at hk
    have HY := Lib.hid (show readyB l j = decide (l[j].stand = 1) by unfold readyB; rw [nthF_at hi'])
    obtain ⟨st, hst⟩ : ∃ st, st = l[j].stand := ⟨_, rfl⟩
    rw [← hst] at hk HY q9
    clear hst
    by_cases hs : st = 1
    case neg =>
      have hk' : ((st.toNat : Int) == 1) = false := by rw [hk]; simpa using hs
      have HQ2 := Lib.hid (HQ1.out.skip (by rw [HY.out]; simpa using hs))
      clear hk hs HQ1
      go_wp2_with fail
      go_roundw
      case rel => exact ⟨j + 1, n, u, q, by omega, by omega, by go_num, HE1, HQ2⟩
      case measure => simp [intOf]; omega
    have hk' : ((st.toNat : Int) == 1) = true := by rw [hk]; simpa using hs
    have HY := Lib.hid (show readyB l j = true by rw [HY.out]; simpa using hs)
    clear hk hs
    go_wp2_with fail
    refine (HRk.out j hlt W2 HE1.out).mono ?_
    rintro e w3 ⟨rfl, hE3⟩
    have HE3 := Lib.hid (HE1.out.trans hE3)
    have HQ3 := Lib.hid (HQ1.out.ext hE3)
    clear hE3 HE1 HQ1 q9
    go_wp2_with fail
    refine (push_heap w w3 HW.out HE3.out (by have := HB.out; omega) (by have := HE3.out.size; have := HB.out; omega) HQ3.out.hq HQ3.out.fit (rankF l j) (HFit.out j hi') (by omega)).mono ?_
    rintro e w4 ⟨rfl, v', hq', hE4⟩
    have HE4 := Lib.hid hE4
    have HQ4 := Lib.hid (HQ3.out.more HY.out (HFit.out j hi') hq')
    clear hE4 hq' HQ3 HE3
    go_wp2_with fail
    go_roundw
    case rel => exact ⟨j + 1, n + 1, _, _, by omega, by omega, by go_num, HE4, HQ4⟩
    case measure => simp [intOf]; omega
end Go.Proofs.YtbciamploeejiaaGreatDoor

namespace Fm
open Go Go.RowKit

theorem itoa_small {n : Nat} (h : n < 10) : Lib.itoa (n : Int) = [UInt8.ofNat (48 + n)] := by
  rw [itoa_decD (by omega), Int.toNat_natCast, Lib.decDigits_one h]
theorem itoa_0 : Lib.itoa 0 = [48] := itoa_small (n := 0) (by omega)
theorem itoa_1 : Lib.itoa 1 = [49] := itoa_small (n := 1) (by omega)
def stA0 : Stp := ⟨[97], -1⟩
def sBn : Stp := ⟨[98], -1⟩
def p3 : Pth := ⟨3, []⟩
end Fm

namespace Fm
open Go Go.RowKit

/-- Nodes of which all that is asked stands. -/
structure SameS (l l' : List Nd) (owner : Int) : Prop where
  len : l.length = l'.length
  all : ∀ (i : Nat) (h1 : i < l.length) (h2 : i < l'.length), l'[i].flow = l[i].flow ∧ l'[i].owner = l[i].owner ∧ l'[i].kind = l[i].kind ∧ l'[i].width = l[i].width
  names : ∀ (i : Nat) (h1 : i < l.length) (h2 : i < l'.length), 0 ≤ owner → l[i].flow = (nthF l owner).flow → l[i].owner ∈ ownersF l owner.toNat → l'[i].name = l[i].name
theorem SameS.place {l l' : List Nd} {owner : Int} (h : SameS l l' owner) (i : Int) : placeF l' i = placeF l i := by unfold placeF; rw [h.len]
end Fm

namespace Fm
open Go Go.RowKit

/-- Nodes in a row of one's own, what they hold was there ahead. -/
def OldN (eN : TypeId) (w0 : World) (base : Nat) (w : World) (v : Value) (l : List Nd) : Prop :=
  ∃ cs : List (List Value), cs.length = l.length ∧ w.ownsRow base eN 16 v l.length cs.flatten ∧ ∀ (i : Nat) (hi : i < l.length) (hc : i < cs.length), ∀ W, Ext w0 W → NdV W l[i] (.agg cs[i].toArray)
theorem OldN.nil (eN : TypeId) (w0 : World) (base : Nat) (w : World) : OldN eN w0 base w (.slice none 0 0) [] := ⟨[], rfl, World.ownsRow_nil _ _ _ _, fun i hi => (by cases hi)⟩
theorem OldN.kept {eN : TypeId} {w0 w w' : World} {base : Nat} {v : Value} {l : List Nd} {row : Option Nat} (h : OldN eN w0 base w v l) (hg : w.grownBy w' row) (hr : ∀ b, v.ownBlock = some b → row ≠ some b) : OldN eN w0 base w' v l := by
  obtain ⟨cs, h1, h2, h3⟩ := h
  refine ⟨cs, h1, h2.kept hg ?_, h3⟩
  cases e : v.ownBlock with
  | none => exact .inl rfl
  | some b => exact .inr (fun h => hr b e h.symm)
theorem OldN.ext {eN : TypeId} {w0 w w' : World} {base : Nat} {v : Value} {l : List Nd} (h : OldN eN w0 base w v l) (hE : Ext w w') : OldN eN w0 base w' v l := h.kept hE.grownBy (fun b _ e => by cases e)
theorem OldN.held {eN : TypeId} {w0 w : World} {base : Nat} {v : Value} {l : List Nd} (h : OldN eN w0 base w v l) (hE : Ext w0 w) (hb : w0.heap.size ≤ base) : HeldN eN base w v l := by
  obtain ⟨cs, h1, h2, h3⟩ := h
  exact ⟨cs, h1, h2, fun i hi hc => farNd_of (fun w' hw' => h3 i hi hc w' (hE.grown hw' (fun k hk => by have := (World.ownsRow.lt h2 k hk).1; omega)))⟩
theorem OldN.rowOf {eN : TypeId} {w0 w : World} {base : Nat} {v : Value} {l : List Nd} (h : OldN eN w0 base w v l) : ∃ xs, w.ownsRow base eN 16 v l.length xs ∧ ∀ (w' : World) (v' : Value) (n : Nd) (C : List Value), C.length = 16 → w'.ownsRow base eN 16 v' (l.length + 1) (xs ++ C) → (∀ W, Ext w0 W → NdV W n (.agg C.toArray)) → OldN eN w0 base w' v' (l ++ [n]) := by
  obtain ⟨cs, h1, h2, h3⟩ := h
  refine ⟨_, h2, fun w' v' n C hC hrow hn => ⟨cs ++ [C], by simp [h1], by rw [List.length_append, List.flatten_append]; simpa using hrow, fun i hi hc => ?_⟩⟩
  by_cases hil : i < l.length
  · have hic : i < cs.length := by omega
    rw [List.getElem_append_left hil, List.getElem_append_left hic]
    exact h3 i hil hic
  · have hi' : i = l.length := by rw [List.length_append, List.length_singleton] at hi; omega
    subst hi'
    rw [List.getElem_append_right (by omega)]
    have e2 : (cs ++ [C])[l.length] = C := by rw [List.getElem_append_right (by omega)]; simp [h1]
    rw [e2]
    simpa using hn
/-- One node more that is held. -/
theorem HeldN.rowOf {eN : TypeId} {base : Nat} {w : World} {v : Value} {l : List Nd} (h : HeldN eN base w v l) : ∃ xs, w.ownsRow base eN 16 v l.length xs ∧
    (∀ (w' : World) (v' : Value) (m : List Nd) (ds : List (List Value)), ds.length = m.length → (∀ (i : Nat) (hi : i < m.length) (hc : i < ds.length), FarNd w v.ownBlock m[i] ds[i]) → w'.ownsRow base eN 16 v' (l.length + m.length) (xs ++ ds.flatten) → w.grownBy w' v.ownBlock → (v'.ownBlock = v.ownBlock ∨ v'.ownBlock = some w.heap.size) → HeldN eN base w' v' (l ++ m)) := by
  obtain ⟨cs, h1, h2, h3⟩ := h
  exact ⟨_, h2, fun w' v' m ds g1 g3 hrow hg hat => HeldN.app h1 h3 g1 g3 hrow hg hat⟩
end Fm
namespace Fm
open Go Go.RowKit
/-- The nodes of a copy from the k-th on. -/
def TailN (eN eI eV : TypeId) (base : Nat) (w : World) (v : Value) (n : Nat) (f : Nat → Nd) (k : Nat) : Prop :=
  ∃ (cs : List (List Value)) (lo : Nat → Nat), cs.length = n ∧ w.ownsRow base eN 16 v n cs.flatten ∧ (∀ b, v.ownBlock = some b → b < lo k) ∧ base ≤ lo k ∧ (∀ i, k ≤ i → i < n → lo i ≤ lo (i + 1)) ∧ lo n ≤ w.heap.size ∧ (∀ C, C ∈ cs → C.length = 16) ∧
    ∀ (i : Nat) (_ : i < n) (hc : i < cs.length), k ≤ i → NdW eI eV (lo i) (lo (i + 1)) w (f i) cs[i]
theorem CopyN.tail {eN eI eV : TypeId} {base : Nat} {w : World} {v : Value} {n : Nat} {f : Nat → Nd} (h : CopyN eN eI eV base w v ((List.range n).map f)) : TailN eN eI eV base w v n f 0 := by
  obtain ⟨cs, lo, h1, h2, h3, h4, h5, h6, h7⟩ := h
  rw [List.length_map, List.length_range] at h1 h2 h5 h6
  have h8 : ∀ (i : Nat) (_ : i < n) (hc : i < cs.length), NdW eI eV (lo i) (lo (i + 1)) w (f i) cs[i] := fun i hi hc => by
    have := h7 i (by simpa using hi) hc
    simpa using this
  exact ⟨cs, lo, h1, h2, h3, h4, fun i _ hi => h5 i hi, h6, fun C hC => by
    obtain ⟨i, hi, rfl⟩ := List.getElem_of_mem hC
    exact (h8 i (by omega) hi).cells, fun i hi hc _ => h8 i hi hc⟩
theorem lo_le {n k : Nat} {lo : Nat → Nat} (h5 : ∀ i, k ≤ i → i < n → lo i ≤ lo (i + 1)) : ∀ j, k ≤ j → j ≤ n → lo j ≤ lo n ∧ lo k ≤ lo j := by
  have up : ∀ d j, j + d ≤ n → k ≤ j → lo j ≤ lo (j + d) := fun d => by
    induction d with
    | zero => intro j _ _; exact Nat.le_refl _
    | succ d ih => intro j h1 h2; exact Nat.le_trans (ih j (by omega) h2) (h5 (j + d) (by omega) (by omega))
  intro j h1 h2
  have a := up (n - j) j (by omega) h1
  have b := up (j - k) k (by omega) (Nat.le_refl _)
  rw [show j + (n - j) = n by omega] at a
  rw [show k + (j - k) = j by omega] at b
  exact ⟨a, b⟩
theorem TailN.ext {eN eI eV : TypeId} {base : Nat} {w w' : World} {v : Value} {n k : Nat} {f : Nat → Nd} (h : TailN eN eI eV base w v n f k) (hE : Ext w w') : TailN eN eI eV base w' v n f k := by
  obtain ⟨cs, lo, h1, h2, h3, h4, h5, h6, h7, h8⟩ := h
  refine ⟨cs, lo, h1, hE.own h2, h3, h4, h5, Nat.le_trans h6 hE.size, h7, fun i hi hc hk => (h8 i hi hc hk).far (fun b _ hb => ?_)⟩
  have := (lo_le h5 (i + 1) (by omega) (by omega)).1
  exact hE.grownBy.block b (by omega) (by simp)
theorem TailN.at {eN eI eV : TypeId} {base : Nat} {w : World} {g cap n k : Nat} {f : Nat → Nd} (h : TailN eN eI eV base w (.slice (some ⟨g, 0, none⟩) n cap) n f k) (hk : k < n) :
    ∃ (C : List Value) (p q : Nat), NdW eI eV p q w (f k) C ∧ w.rangeAt g (k * 16) C ∧ base ≤ p ∧ p ≤ q ∧ q ≤ w.heap.size ∧ g < p ∧ base ≤ g ∧
      ∀ w', w.heap.size ≤ w'.heap.size → (∀ b, b < w.heap.size → ¬ (p ≤ b ∧ b < q) → w'.heap[b]? = w.heap[b]?) → TailN eN eI eV base w' (.slice (some ⟨g, 0, none⟩) n cap) n f (k + 1) := by
  obtain ⟨cs, lo, h1, h2, h3, h4, h5, h6, h7, h8⟩ := h
  have hle := lo_le h5
  have hc : k < cs.length := by omega
  have hg := h3 g rfl
  have hl : cs.flatten.length = n * 16 := h2.1
  have q1 := hle (k + 1) (by omega) (by omega)
  refine ⟨cs[k], lo k, lo (k + 1), h8 k hk hc (Nat.le_refl _), fun j v hv => ?_, h4, h5 k (Nat.le_refl _) hk, by omega, hg, (World.ownsRow.lt h2 g rfl).1, fun w' hs hw' => ?_⟩
  · have hj : j < 16 := by
      have := (List.getElem?_eq_some_iff.1 hv).1
      have := h7 cs[k] (List.getElem_mem hc)
      omega
    rw [World.ownsRow.cellAt h2 _ (by omega), flat16 cs k j hc h7 hj]; exact hv
  · have hgw := (World.ownsRow.lt h2 g rfl).2
    refine ⟨cs, lo, h1, ownsRow_block h2 (fun b hb => hw' b (World.ownsRow.lt h2 b hb).2 (fun hh => ?_)), fun b hb => ?_, by omega, fun i hi hin => h5 i (by omega) hin, by omega, h7, fun i hi hci hki => (h8 i hi hci (by omega)).far (fun b hb1 hb2 => hw' b ?_ (fun hh => ?_))⟩
    · have : b = g := by simpa [Value.ownBlock] using hb.symm
      omega
    · have : b = g := by simpa [Value.ownBlock] using hb.symm
      have := h5 k (Nat.le_refl _) hk
      omega
    · have := (hle (i + 1) (by omega) (by omega)).1
      omega
    · have q2 := lo_le (k := k + 1) (n := n) (lo := lo) (fun i hi hin => h5 i (by omega) hin) i (by omega) (by omega)
      omega
end Fm

namespace Fm
open Go Go.RowKit

/-- The bits of a number, as the walk has them. -/
theorem bits_and_mod (n : Int) (k : Nat) (hk : k ≤ 62) : bits BinOp.and IntKind.i64 n ((2 ^ k - 1 : Nat) : Int) = n % (2 ^ k : Nat) := by
  have h2 : 2 ^ k ≤ 2 ^ 62 := Nat.pow_le_pow_right (by decide) hk
  have h3 : 0 < 2 ^ k := Nat.two_pow_pos k
  have e : (BitVec.ofInt 64 n &&& BitVec.ofInt 64 ((2 ^ k - 1 : Nat) : Int)).toNat = (n % (2 ^ k : Nat)).toNat := by
    rw [BitVec.toNat_and]
    have e2 : (BitVec.ofInt 64 ((2 ^ k - 1 : Nat) : Int)).toNat = 2 ^ k - 1 := by
      rw [BitVec.ofInt_natCast, BitVec.toNat_ofNat]
      exact Nat.mod_eq_of_lt (by omega)
    rw [e2, Nat.and_two_pow_sub_one_eq_mod, BitVec.toNat_ofInt]
    have hd : (2 ^ k : Nat) ∣ 2 ^ 64 := Nat.pow_dvd_pow 2 (by omega)
    have h5 : 0 ≤ n % ((2 ^ 64 : Nat) : Int) := Int.emod_nonneg _ (by decide)
    have h6 : (((n % ((2 ^ 64 : Nat) : Int)).toNat % 2 ^ k : Nat) : Int) = n % ((2 ^ k : Nat) : Int) := by
      rw [Int.natCast_emod, Int.toNat_of_nonneg h5, Int.emod_emod_of_dvd n (Int.natCast_dvd_natCast.2 hd)]
    have h7 : 0 ≤ n % ((2 ^ k : Nat) : Int) := Int.emod_nonneg _ (by omega)
    omega
  show IntKind.i64.wrap ((BitVec.ofInt 64 n &&& BitVec.ofInt 64 ((2 ^ k - 1 : Nat) : Int)).toNat : Int) = _
  have h7 : 0 ≤ n % ((2 ^ k : Nat) : Int) := Int.emod_nonneg _ (by omega)
  have h8 : n % ((2 ^ k : Nat) : Int) < ((2 ^ k : Nat) : Int) := Int.emod_lt_of_pos _ (by omega)
  rw [e, IntKind.wrap_i64]
  omega
theorem and1 (n : Int) : bits BinOp.and IntKind.i64 n 1 = n % 2 := bits_and_mod n 1 (by decide)
theorem and3 (n : Int) : bits BinOp.and IntKind.i64 n 3 = n % 4 := bits_and_mod n 2 (by decide)
theorem and7 (n : Int) : bits BinOp.and IntKind.i64 n 7 = n % 8 := bits_and_mod n 3 (by decide)
theorem and15 (n : Int) : bits BinOp.and IntKind.i64 n 15 = n % 16 := bits_and_mod n 4 (by decide)
theorem and255 (n : Int) : bits BinOp.and IntKind.i64 n 255 = n % 256 := bits_and_mod n 8 (by decide)
/-- One node more. -/
def ndFl (f o : Int) : Nd := ⟨[], [], 0, f, o, 0, [], 0, 0, 0, 0, 0, zT⟩
def forestN (acc : List Nd) (x : Int) : Nd :=
  if x % 256 % ((acc.length : Int) + 3) < acc.length then ndFl (nthF acc (x % 256 % ((acc.length : Int) + 3))).flow (x % 256 % ((acc.length : Int) + 3)) else ndFl (x / 256 % 2) (-1)
def forestTo (l : List Int) : Nat → List Nd
  | 0 => []
  | k + 1 => forestTo l k ++ [forestN (forestTo l k) (l.getD k 0)]
def forestF (l : List Int) : List Nd := forestTo l (min l.length 60)
theorem forestTo_len (l : List Int) : ∀ k, (forestTo l k).length = k
  | 0 => rfl
  | k + 1 => by rw [forestTo, List.length_append, forestTo_len l k]; rfl
theorem forestF_len (l : List Int) : (forestF l).length = min l.length 60 := forestTo_len _ _
theorem rightO_snoc {l : List Nd} {n : Nd} (h : RightO l) (h1 : -1 ≤ n.owner) (h2 : n.owner < (l.length : Int)) (h3 : ∀ j : Nat, n.owner = (j : Int) → ∀ hj : j < l.length, l[j].flow = n.flow) : RightO (l ++ [n]) := by
  intro i hi
  by_cases hil : i < l.length
  · rw [List.getElem_append_left hil]
    obtain ⟨a, b, c⟩ := h i hil
    refine ⟨a, b, fun j hj hjl => ?_⟩
    have : j < l.length := by omega
    rw [List.getElem_append_left this]
    exact c j hj this
  · have hie : i = l.length := by rw [List.length_append, List.length_singleton] at hi; omega
    subst hie
    have e : (l ++ [n])[l.length] = n := by simp
    rw [e]
    refine ⟨h1, h2, fun j hj hjl => ?_⟩
    have : j < l.length := by omega
    rw [List.getElem_append_left this]
    exact h3 j hj this
theorem forestTo_right (l : List Int) : ∀ k, RightO (forestTo l k)
  | 0 => fun i hi => by cases hi
  | k + 1 => by
    rw [forestTo]
    unfold forestN
    split
    · rename_i hlt
      have h0 : 0 ≤ l.getD k 0 % 256 % (((forestTo l k).length : Int) + 3) := Int.emod_nonneg _ (by omega)
      obtain ⟨j, hj⟩ : ∃ j : Nat, l.getD k 0 % 256 % (((forestTo l k).length : Int) + 3) = (j : Int) := ⟨_, (Int.toNat_of_nonneg h0).symm⟩
      rw [hj] at hlt ⊢
      refine rightO_snoc (forestTo_right l k) (by show (-1 : Int) ≤ (j : Int); omega) hlt (fun i hi hil => ?_)
      have hi' : (j : Int) = (i : Int) := hi
      obtain rfl : j = i := by omega
      rw [nthF_at hil]
      rfl
    · refine rightO_snoc (forestTo_right l k) (by show (-1 : Int) ≤ -1; omega) (by show (-1 : Int) < _; omega) (fun i hi _ => ?_)
      have hi' : (-1 : Int) = (i : Int) := hi
      omega
/-! ### one after the other is turned -/
def chgTo (g : Nat → Nd → Nd) (l : List Nd) (j : Nat) : List Nd := l.mapIdx (fun i n => if i < j then g i n else n)
def chgF (g : Nat → Nd → Nd) (l : List Nd) : List Nd := l.mapIdx g
theorem chgTo_len (g : Nat → Nd → Nd) (l : List Nd) (j : Nat) : (chgTo g l j).length = l.length := List.length_mapIdx
theorem chgF_len (g : Nat → Nd → Nd) (l : List Nd) : (chgF g l).length = l.length := List.length_mapIdx
theorem chgTo_zero (g : Nat → Nd → Nd) (l : List Nd) : chgTo g l 0 = l := by
  unfold chgTo
  refine List.ext_getElem (by simp) fun i h1 h2 => ?_
  simp
theorem chgTo_all (g : Nat → Nd → Nd) (l : List Nd) : chgTo g l l.length = chgF g l := by
  unfold chgTo chgF
  refine List.ext_getElem (by simp) fun i h1 h2 => ?_
  simp only [List.getElem_mapIdx]
  rw [if_pos (by simpa using h2)]
theorem chgTo_at (g : Nat → Nd → Nd) (l : List Nd) (j : Nat) (hj : j < (chgTo g l j).length) (hl : j < l.length) : (chgTo g l j)[j] = l[j] :=
  (List.getElem_mapIdx (h := hj)).trans (if_neg (Nat.lt_irrefl _))
theorem chgTo_succ (g : Nat → Nd → Nd) (l : List Nd) (j : Nat) (hl : j < l.length) : chgTo g l (j + 1) = (chgTo g l j).set j (g j l[j]) := by
  unfold chgTo
  refine List.ext_getElem (by simp) fun i h1 h2 => ?_
  rw [List.getElem_set]
  simp only [List.getElem_mapIdx]
  by_cases e : j = i
  · subst e; simp
  · rw [if_neg e]
    by_cases h : i < j
    · rw [if_pos h, if_pos (by omega)]
    · rw [if_neg h, if_neg (by omega)]
theorem chgF_at (g : Nat → Nd → Nd) (l : List Nd) (i : Nat) (hi : i < (chgF g l).length) (hl : i < l.length) : (chgF g l)[i] = g i l[i] := List.getElem_mapIdx (h := hi)
/-- What turns no owner keeps owners right. -/
theorem chgF_right {g : Nat → Nd → Nd} {l : List Nd} (h : RightO l) (hg : ∀ i n, (g i n).owner = n.owner ∧ (g i n).flow = n.flow) : RightO (chgF g l) := by
  intro i hi
  have hil : i < l.length := by rw [chgF_len] at hi; exact hi
  obtain ⟨a, b, c⟩ := h i hil
  rw [chgF_at g l i hi hil, (hg _ _).1, (hg _ _).2]
  refine ⟨a, b, fun j hj hjl => ?_⟩
  have hjl' : j < l.length := by rw [chgF_len] at hjl; exact hjl
  rw [chgF_at g l j hjl hjl', (hg _ _).2]
  exact c j hj hjl'
end Fm

namespace Fm
open Go Go.RowKit
theorem cmpI_lt {x y : Int} (h : x < y) : cmpI x y = -1 := by unfold cmpI; rw [if_pos h]
theorem cmpI_self (x : Int) : cmpI x x = 0 := by unfold cmpI; simp
theorem ltR_fails {r o : Rk} (h : r.fails < o.fails) : ltR r o = true := by
  unfold ltR thanR
  rw [cmpI_lt h]
  rfl
theorem ltR_up {r o : Rk} (h : r.fails = o.fails) (h2 : r.up < o.up) : ltR r o = true := by
  unfold ltR thanR
  rw [h, cmpI_self, cmpI_lt h2]
  rfl
theorem ltR_id {r o : Rk} (h : r.fails = o.fails) (h2 : r.up = o.up) (h3 : idsC r.id o.id < 0) : ltR r o = true := by
  unfold ltR thanR
  rw [h, h2, cmpI_self, cmpI_self]
  unfold orI
  rw [if_pos rfl, if_pos rfl, if_neg (by omega), decide_eq_true_eq]
  exact h3
def ndX (id : List UInt8) (st : UInt8) (fl f o : Int) (af : List Int) : Nd := ⟨id, [], 0, f, o, 0, af, 0, 0, st, fl, 0, zT⟩
def awL : List Nd := [ndX [48, 47, 97] 1 1 0 (-1) [], ndX [48, 47, 98] 1 0 0 (-1) [], ndX [49, 47, 97] 1 0 1 (-1) [], ndX [48, 47, 98, 47, 99] 1 0 0 1 []]
def awW : List Nd := [ndX [48, 47, 98] 0 0 0 (-1) [], ndX [48, 47, 99] 0 0 0 (-1) [], ndX [48, 47, 100] 0 0 0 (-1) [1, 0]]
def awV : List Nd := [ndX [48, 47, 98] 4 0 0 (-1) [], ndX [48, 47, 99] 0 0 0 (-1) [], ndX [48, 47, 100] 0 0 0 (-1) [1, 0]]
theorem awL_right : RightO awL := by
  intro i hi
  have h4 : i < 4 := hi
  rcases (by omega : i = 0 ∨ i = 1 ∨ i = 2 ∨ i = 3) with rfl | rfl | rfl | rfl
  · exact ⟨by show (-1 : Int) ≤ -1; decide, by show (-1 : Int) < ((0 : Nat) : Int); decide, fun j hj hl => by have : (-1 : Int) = (j : Int) := hj; omega⟩
  · exact ⟨by show (-1 : Int) ≤ -1; decide, by show (-1 : Int) < ((1 : Nat) : Int); decide, fun j hj hl => by have : (-1 : Int) = (j : Int) := hj; omega⟩
  · exact ⟨by show (-1 : Int) ≤ -1; decide, by show (-1 : Int) < ((2 : Nat) : Int); decide, fun j hj hl => by have : (-1 : Int) = (j : Int) := hj; omega⟩
  · exact ⟨by show (-1 : Int) ≤ 1; decide, by show (1 : Int) < ((3 : Nat) : Int); decide, fun j hj hl => by
      have : (1 : Int) = (j : Int) := hj
      obtain rfl : j = 1 := by omega
      rfl⟩
theorem p0b_p : parseP [48, 47, 98] = some ⟨0, [sBn]⟩ := parseP_iff.2 ⟨by decide, by unfold pthS; rw [itoa_0]; rfl, by decide⟩
theorem p1a_p : parseP [49, 47, 97] = some ⟨1, [stA0]⟩ := parseP_iff.2 ⟨by decide, by unfold pthS; rw [itoa_1]; rfl, by decide⟩
theorem aw_ids : idsC [48, 47, 98] [49, 47, 97] < 0 := by
  rw [(idsC_opt _ _).1, p0b_p, p1a_p]
  show thanP _ _ < 0
  unfold thanP
  rw [cmpI_lt (by decide)]
  decide
theorem aw_deep3 : deepF awL 3 = 2 := by decide +kernel
theorem aw_deep1 : deepF awL 1 = 1 := by decide +kernel
theorem aw_deep2 : deepF awL 2 = 1 := by decide +kernel
theorem aw_r0 : rankF awL 0 = ⟨1, -(deepF awL 0), 0, [48, 47, 97]⟩ := rfl
theorem aw_r1 : rankF awL 1 = ⟨0, -1, 1, [48, 47, 98]⟩ := by unfold rankF; rw [show ((1 : Nat) : Int) = 1 from rfl, aw_deep1]; rfl
theorem aw_r2 : rankF awL 2 = ⟨0, -1, 2, [49, 47, 97]⟩ := by unfold rankF; rw [show ((2 : Nat) : Int) = 2 from rfl, aw_deep2]; rfl
theorem aw_r3 : rankF awL 3 = ⟨0, -2, 3, [48, 47, 98, 47, 99]⟩ := by unfold rankF; rw [show ((3 : Nat) : Int) = 3 from rfl, aw_deep3]; rfl
theorem aw_all : allQ awL = [3, 1, 2, 0] := by
  refine (allQ_of ?_ (fun x => ?_)).symm
  · unfold SortR
    have h31 : ltR (rankF awL 3) (rankF awL 1) = true := by rw [aw_r3, aw_r1]; exact ltR_up rfl (by decide)
    have h32 : ltR (rankF awL 3) (rankF awL 2) = true := by rw [aw_r3, aw_r2]; exact ltR_up rfl (by decide)
    have h30 : ltR (rankF awL 3) (rankF awL 0) = true := by rw [aw_r3, aw_r0]; exact ltR_fails (by decide)
    have h12 : ltR (rankF awL 1) (rankF awL 2) = true := by rw [aw_r1, aw_r2]; exact ltR_id rfl rfl aw_ids
    have h10 : ltR (rankF awL 1) (rankF awL 0) = true := by rw [aw_r1, aw_r0]; exact ltR_fails (by decide)
    have h20 : ltR (rankF awL 2) (rankF awL 0) = true := by rw [aw_r2, aw_r0]; exact ltR_fails (by decide)
    simp [h31, h32, h30, h12, h10, h20]
  · constructor
    · intro h
      simp only [List.mem_cons, List.not_mem_nil, or_false] at h
      rcases h with rfl | rfl | rfl | rfl <;> exact ⟨by decide, by decide⟩
    · rintro ⟨h, -⟩
      have h4 : x < 4 := h
      rcases (by omega : x = 0 ∨ x = 1 ∨ x = 2 ∨ x = 3) with rfl | rfl | rfl | rfl <;> simp
theorem aw_waits : waitsF awW 2 = [0, 1] := by
  have h : waitsF awW 2 = sortF [1, 0] := rfl
  rw [h]
  obtain ⟨h1, h2⟩ := sortF_both [1, 0]
  exact lt_ext h1 (by decide) (fun x => by rw [h2]; simp; omega)
theorem aw_wakes : wakesF awW 1 = [] := by decide
theorem aw_wakes2 : wakesF awV 1 = [2] := by decide
end Fm

namespace Fm
open Go Go.RowKit

/-- Nodes in a row of one's own, that hold whatever the memory holds. -/
def FreeN (eN : TypeId) (base : Nat) (w : World) (v : Value) (l : List Nd) : Prop :=
  ∃ cs : List (List Value), cs.length = l.length ∧ w.ownsRow base eN 16 v l.length cs.flatten ∧ ∀ (i : Nat) (hi : i < l.length) (hc : i < cs.length), ∀ W, NdV W l[i] (.agg cs[i].toArray)
theorem FreeN.held {eN : TypeId} {base : Nat} {w : World} {v : Value} {l : List Nd} (h : FreeN eN base w v l) : HeldN eN base w v l := by
  obtain ⟨cs, h1, h2, h3⟩ := h
  exact ⟨cs, h1, h2, fun i hi hc => farNd_of (fun w' _ => h3 i hi hc w')⟩
theorem FreeN.row {eN : TypeId} {base : Nat} {w : World} {v : Value} {l : List Nd} (h : FreeN eN base w v l) : ndE.Row w l v := h.held.row
theorem FreeN.kept {eN : TypeId} {base : Nat} {w w' : World} {v : Value} {l : List Nd} {row : Option Nat} (h : FreeN eN base w v l) (hg : w.grownBy w' row) (hr : ∀ b, v.ownBlock = some b → row ≠ some b) : FreeN eN base w' v l := by
  obtain ⟨cs, h1, h2, h3⟩ := h
  refine ⟨cs, h1, h2.kept hg ?_, h3⟩
  cases e : v.ownBlock with
  | none => exact .inl rfl
  | some b => exact .inr (fun h => hr b e h.symm)
theorem FreeN.ext {eN : TypeId} {base : Nat} {w w' : World} {v : Value} {l : List Nd} (h : FreeN eN base w v l) (hE : Ext w w') : FreeN eN base w' v l := h.kept hE.grownBy (fun b _ e => by cases e)
theorem FreeN.mono {eN : TypeId} {base base' : Nat} {w : World} {v : Value} {l : List Nd} (h : FreeN eN base w v l) (hb : base' ≤ base) : FreeN eN base' w v l := by
  obtain ⟨cs, h1, h2, h3⟩ := h
  exact ⟨cs, h1, ownsRow_mono h2 hb, h3⟩
theorem FreeN.slice {eN : TypeId} {base : Nat} {w : World} {v : Value} {l : List Nd} (h : FreeN eN base w v l) : ∃ a c, v = .slice a l.length c := h.held.slice
theorem FreeN.form {eN : TypeId} {base : Nat} {w : World} {v : Value} {l : List Nd} (h : FreeN eN base w v l) (hl : 0 < l.length) : ∃ g c, v = .slice (some ⟨g, 0, none⟩) l.length c ∧ base ≤ g ∧ g < w.heap.size := h.held.form hl
theorem FreeN.lt {eN : TypeId} {base : Nat} {w : World} {v : Value} {l : List Nd} (h : FreeN eN base w v l) : ∀ k, v.ownBlock = some k → base ≤ k ∧ k < w.heap.size := h.held.lt
theorem FreeN.nil (eN : TypeId) (base : Nat) (w : World) : FreeN eN base w (.slice none 0 0) [] := ⟨[], rfl, World.ownsRow_nil _ _ _ _, fun i hi => (by cases hi)⟩
theorem FreeN.spot {eN : TypeId} {base : Nat} {w : World} {g cap : Nat} {l : List Nd} (h : FreeN eN base w (.slice (some ⟨g, 0, none⟩) l.length cap) l) {i : Nat} (hi : i < l.length) (j : Nat) (hj : j < 16) : (∃ u, w.cell? ⟨g, i * 16 + j, none⟩ = some u) ∧ w.frozen? ⟨g, i * 16 + j, none⟩ = false := h.held.spot hi j hj
theorem FreeN.relen {eN : TypeId} {base n m cap : Nat} {w : World} {a : Option Addr} {l : List Nd} (h : FreeN eN base w (.slice a n cap) l) (e : n = m) : FreeN eN base w (.slice a m cap) l := by subst e; exact h
/-- One cell of one node is written. -/
theorem FreeN.put {eN : TypeId} {base : Nat} {w : World} {g cap : Nat} {l : List Nd} (h : FreeN eN base w (.slice (some ⟨g, 0, none⟩) l.length cap) l) {i : Nat} (hi : i < l.length) (j : Nat) (hj : j < 16) (u : Value) (n' : Nd)
    (hN : ∀ (w' : World) (C : List Value), NdV w' (l[i]'hi) (.agg C.toArray) → NdV w' n' (.agg (C.set j u).toArray)) : FreeN eN base (w.setCell ⟨g, i * 16 + j, none⟩ u) (.slice (some ⟨g, 0, none⟩) l.length cap) (l.set i n') ∧ w.grownBy (w.setCell ⟨g, i * 16 + j, none⟩ u) (some g) := by
  refine ⟨?_, setOne_grown w g (i * 16 + j) u⟩
  obtain ⟨cs, h1, h2, h3⟩ := h
  have hc : i < cs.length := by omega
  have h16 : ∀ D, D ∈ cs → D.length = 16 := fun D hD => by
    obtain ⟨k, hk, rfl⟩ := List.getElem_of_mem hD
    exact (ndV_one (h3 k (by omega) hk w)).1
  refine ⟨cs.set i (cs[i].set j u), by simp [h1], ?_, fun k hk hd W => ?_⟩
  · rw [List.length_set, ← flat16_set1 hc h16 hj]
    exact (h2.stored (i * 16 + j) u).1
  · have hk' : k < l.length := by simpa using hk
    have hd' : k < cs.length := by simpa using hd
    by_cases e : i = k
    · subst e
      rw [List.getElem_set_self, List.getElem_set_self]
      exact hN W _ (h3 i hi hc W)
    · rw [List.getElem_set_ne e, List.getElem_set_ne e]
      exact h3 k hk' hd' W
theorem ndV_fails {w : World} {n : Nd} {C : List Value} (h : NdV w n (.agg C.toArray)) {x : Int} (hx : isI64 x) : NdV w { n with fails := x } (.agg (C.set 10 (.int .i64 x)).toArray) := by
  obtain ⟨a, m, c, k, N, S, d, e, h1, h2, h3, h4, h5, h6, h7, h8, h9, h10, h11⟩ := h
  injection e with e
  injection e with e
  subst e
  exact ⟨a, m, c, k, N, S, d, rfl, h1, h2, h3, h4, h5, h6, h7, h8, h9, hx, h11⟩
/-- One node more. -/
theorem FreeN.rowOf {eN : TypeId} {base : Nat} {w : World} {v : Value} {l : List Nd} (h : FreeN eN base w v l) : ∃ xs, w.ownsRow base eN 16 v l.length xs ∧
    (∀ (w' : World) (v' : Value) (n : Nd) (C : List Value), C.length = 16 → w'.ownsRow base eN 16 v' (l.length + 1) (xs ++ C) → (∀ W, NdV W n (.agg C.toArray)) → FreeN eN base w' v' (l ++ [n])) := by
  obtain ⟨cs, h1, h2, h3⟩ := h
  refine ⟨_, h2, fun w' v' n C hC hrow hn => ⟨cs ++ [C], by simp [h1], by rw [List.length_append, List.flatten_append]; simpa using hrow, fun i hi hc W => ?_⟩⟩
  by_cases hil : i < l.length
  · have hic : i < cs.length := by omega
    rw [List.getElem_append_left hil, List.getElem_append_left hic]
    exact h3 i hil hic W
  · have hi' : i = l.length := by rw [List.length_append, List.length_singleton] at hi; omega
    subst hi'
    rw [List.getElem_append_right (by omega)]
    have e2 : (cs ++ [C])[l.length] = C := by rw [List.getElem_append_right (by omega)]; simp [h1]
    rw [e2]
    simpa using hn W
end Fm

namespace Fm
open Go Go.RowKit

def someIds : List (List UInt8) := [[48, 47, 97], [48, 47, 98], [49, 47, 97, 91, 50, 93], [49, 47, 97, 91, 49, 48, 93], [48, 47, 97, 47, 99], [], [120], [50]]
def someA (x : Int) (k : Nat) : List Int := (List.range k).map (fun i => x / (2 ^ i : Nat) % 16 - 1)
def someG (l : List Int) (i : Nat) (n : Nd) : Nd :=
  { n with id := someIds.getD (l.getD i 0 / 4 % 8).toNat [], stand := UInt8.ofNat (l.getD i 0 / 16 % 8 % 7).toNat, fails := l.getD i 0 / 128 % 2, after := someA (l.getD i 0) (l.getD i 0 / 32 % 4).toNat }
def someF (l : List Int) : List Nd := chgF (someG l) (forestF l)
theorem someF_len (l : List Int) : (someF l).length = min l.length 60 := by unfold someF; rw [chgF_len, forestF_len]
theorem someF_right (l : List Int) : RightO (someF l) := chgF_right (forestTo_right l _) (fun _ _ => ⟨rfl, rfl⟩)
theorem someF_le (l : List Int) : (someF l).length ≤ 60 := by rw [someF_len]; omega
theorem someIds_le (k : Nat) : (someIds.getD k []).length ≤ 8 := by
  by_cases h : k < 8
  · rcases (by omega : k = 0 ∨ k = 1 ∨ k = 2 ∨ k = 3 ∨ k = 4 ∨ k = 5 ∨ k = 6 ∨ k = 7) with rfl | rfl | rfl | rfl | rfl | rfl | rfl | rfl <;> decide
  · rw [List.getD_eq_getElem?_getD, List.getElem?_eq_none (by simp [someIds]; omega)]
    decide
theorem someA_len (x : Int) (k : Nat) : (someA x k).length = k := by unfold someA; simp
theorem someA_succ (x : Int) (k : Nat) : someA x (k + 1) = someA x k ++ [x / (2 ^ k : Nat) % 16 - 1] := by
  unfold someA
  rw [List.range_succ, List.map_append]
  rfl
theorem someA_i64 (x : Int) (k : Nat) : ∀ z, z ∈ someA x k → isI64 z := by
  intro z hz
  unfold someA at hz
  obtain ⟨i, -, rfl⟩ := List.mem_map.1 hz
  have h1 := Int.emod_nonneg (x / (2 ^ i : Nat)) (show (16 : Int) ≠ 0 by decide)
  have h2 := Int.emod_lt_of_pos (x / (2 ^ i : Nat)) (show (0 : Int) < 16 by decide)
  unfold isI64
  omega
theorem someF_mem {l : List Int} {n : Nd} (h : n ∈ someF l) : n.id.length ≤ 1000000 ∧ n.after.length ≤ 100000 := by
  obtain ⟨i, hi, rfl⟩ := List.getElem_of_mem h
  have hl : i < (forestF l).length := by unfold someF at hi; rw [chgF_len] at hi; exact hi
  rw [show (someF l)[i] = someG l i (forestF l)[i] from chgF_at (someG l) (forestF l) i hi hl]
  refine ⟨Nat.le_trans (someIds_le _) (by omega), ?_⟩
  show (someA _ _).length ≤ 100000
  rw [someA_len]
  have := Int.emod_lt_of_pos (l.getD i 0 / 32) (show (0 : Int) < 4 by decide)
  omega
theorem ndV_idR {w : World} {n : Nd} {C : List Value} (h : NdV w n (.agg C.toArray)) {s : List UInt8} (hs : s.length ≤ 9223372036854775807) : NdV w { n with id := s } (.agg (C.set 0 (.string (str s))).toArray) := by
  obtain ⟨a, m, c, k, N, S, d, e, h1, h2, h3, h4, h5⟩ := h
  injection e with e
  injection e with e
  subst e
  exact ⟨a, m, c, k, N, S, d, rfl, h1, h2, hs, h4, h5⟩
theorem set_same {α : Type} {l : List α} {i : Nat} {v : α} (h : l[i]? = some v) : l.set i v = l := by
  obtain ⟨hi, rfl⟩ := List.getElem?_eq_some_iff.1 h
  exact List.set_getElem_self hi
/-- One node is after others now. -/
theorem HeldN.afterR {eN : TypeId} {base g cap : Nat} {w W : World} {l : List Nd} {cs : List (List Value)} (h1 : cs.length = l.length) (h3 : ∀ (i : Nat) (hi : i < l.length) (hc : i < cs.length), FarNd w (some g) l[i] cs[i]) {i : Nat} (hi : i < l.length)
    {a : Option Addr} {m c : Nat} {af : List Int} (hrow : W.ownsRow base eN 16 (.slice (some ⟨g, 0, none⟩) l.length cap) l.length (cs.flatten.set (i * 16 + 6) (.slice a m c))) (hg : w.grownBy W (some g)) (ha : ∀ w', W.grownBy w' (some g) → intE.Row w' af (.slice a m c)) :
    HeldN eN base W (.slice (some ⟨g, 0, none⟩) l.length cap) (l.set i { l[i] with after := af }) := by
  have h16 : ∀ D, D ∈ cs → D.length = 16 := fun D hD => by
    obtain ⟨k, hk, rfl⟩ := List.getElem_of_mem hD
    exact (h3 k (by omega) hk).1
  have hc : i < cs.length := by omega
  refine ⟨cs.set i (cs[i].set 6 (.slice a m c)), by simp [h1], ?_, fun k hk hd => ?_⟩
  · rw [List.length_set, ← flat16_set1 hc h16 (by omega)]
    exact hrow
  · have hk' : k < l.length := by simpa using hk
    have hd' : k < cs.length := by simpa using hd
    by_cases e : i = k
    · subst e
      rw [List.getElem_set_self, List.getElem_set_self]
      exact farNd_of (fun w' hw' => ndV_after ((h3 i hi hc).2.2 w' (grown_trans hg hw')) (ha w' hw'))
    · rw [List.getElem_set_ne e, List.getElem_set_ne e]
      exact (h3 k hk' hd').then hg (.inl rfl)
theorem HeldN.relen {eN : TypeId} {base n m cap : Nat} {w : World} {a : Option Addr} {l : List Nd} (h : HeldN eN base w (.slice a n cap) l) (e : n = m) : HeldN eN base w (.slice a m cap) l := by subst e; exact h
theorem HeldN.putSF {eN : TypeId} {base g cap n : Nat} {w : World} {l : List Nd} (h : HeldN eN base w (.slice (some ⟨g, 0, none⟩) n cap) l) (hn : l.length = n) {i : Nat} (hi : i < l.length) {z : Nat} (hz : z < 256) {fl : Int} (hf : isI64 fl) :
    HeldN eN base ((w.setCell ⟨g, i * 16 + 9, none⟩ (.int .u8 (z : Int))).setCell ⟨g, i * 16 + 10, none⟩ (.int .i64 fl)) (.slice (some ⟨g, 0, none⟩) n cap) (l.set i { l[i] with stand := UInt8.ofNat z, fails := fl }) ∧ w.grownBy ((w.setCell ⟨g, i * 16 + 9, none⟩ (.int .u8 (z : Int))).setCell ⟨g, i * 16 + 10, none⟩ (.int .i64 fl)) (some g) := by
  have hzz : (UInt8.ofNat z).toNat = z := UInt8.toNat_ofNat_of_lt' hz
  have h1 := (h.relen hn.symm).put hi 9 (by omega) (.int .u8 (z : Int)) { l[i] with stand := UInt8.ofNat z } (fun w' C hC => by have := ndV_stand hC (UInt8.ofNat z); rw [hzz] at this; exact this)
  have hi2 : i < (l.set i { l[i] with stand := UInt8.ofNat z }).length := by simpa using hi
  have h2 := (h1.1.relen (show l.length = (l.set i { l[i] with stand := UInt8.ofNat z }).length by simp)).put hi2 10 (by omega) (.int .i64 fl) { l[i] with stand := UInt8.ofNat z, fails := fl } (fun w' C hC => by
    rw [List.getElem_set_self] at hC
    exact ndV_fails hC hf)
  refine ⟨?_, grown_trans h1.2 h2.2⟩
  have := h2.1.relen (show (l.set i { l[i] with stand := UInt8.ofNat z }).length = n by simpa using hn)
  rw [List.set_set] at this
  exact this
theorem HeldN.putId {eN : TypeId} {base g cap n : Nat} {w : World} {l : List Nd} (h : HeldN eN base w (.slice (some ⟨g, 0, none⟩) n cap) l) (hn : l.length = n) {i : Nat} (hi : i < l.length) {s : List UInt8} (hs : s.length ≤ 9223372036854775807) :
    HeldN eN base (w.setCell ⟨g, i * 16, none⟩ (.string (str s))) (.slice (some ⟨g, 0, none⟩) n cap) (l.set i { l[i] with id := s }) ∧ w.grownBy (w.setCell ⟨g, i * 16, none⟩ (.string (str s))) (some g) := by
  have h1 := (h.relen hn.symm).put hi 0 (by omega) (.string (str s)) { l[i] with id := s } (fun w' C hC => ndV_idR hC hs)
  exact ⟨h1.1.relen hn, h1.2⟩
theorem six_put {w : World} {g o k : Nat} {u v : Value} (h : w.cell? ⟨g, k * 16 + 6, none⟩ = some v) (ho : o % 16 ≠ 6) : (w.setCell ⟨g, o, none⟩ u).cell? ⟨g, k * 16 + 6, none⟩ = some v := by
  rw [World.cell?_setCell_other _ _ _ _ (fun e => ho (by injection e with _ e _; omega)), h]
theorem six_row {base e n cap g p : Nat} {w W : World} {xs : List Value} {va v : Value} {k : Nat} (h : w.ownsRow base e 16 (.slice (some ⟨g, 0, none⟩) n cap) n xs) (h2 : W.ownsRow base e 16 (.slice (some ⟨g, 0, none⟩) n cap) n (xs.set p va)) (hk : k < n) (hp : p ≠ k * 16 + 6) (hc : w.cell? ⟨g, k * 16 + 6, none⟩ = some v) : W.cell? ⟨g, k * 16 + 6, none⟩ = some v := by
  rw [World.ownsRow.cellAt h2 (k * 16 + 6) (by omega), List.getElem?_set_ne hp, ← World.ownsRow.cellAt h (k * 16 + 6) (by omega)]
  exact hc
end Fm

namespace Fm
open Go Go.RowKit
theorem aheadF_nat {l : List Nd} {i k : Nat} (hi : i < l.length) (hk : k < l.length) : aheadF l (i : Int) (k : Int) = ltR (rankF l i) (rankF l k) := by
  unfold aheadF
  rw [show placeF l (i : Int) = true by unfold placeF; simp [hi], show placeF l (k : Int) = true by unfold placeF; simp [hk]]
  rfl
theorem ltR_irr (x : Rk) : ltR x x = false := by
  cases e : ltR x x with
  | false => rfl
  | true => have := ltR_good.asym _ _ e; rw [e] at this; cases this
theorem ahead_self {l : List Nd} {i : Nat} (hi : i < l.length) : aheadF l (i : Int) (i : Int) = false := by rw [aheadF_nat hi hi]; exact ltR_irr _
end Fm

namespace Fm
open Go Go.RowKit
/-- What the reference asks, one behind the other. -/
def refA (fi fk dx dy : Int) (pa pb l1 l2 : Bool) (i k : Int) : Bool :=
  if fi ≠ fk then decide (fi < fk) else if dx ≠ dy then decide (dy < dx) else if pa ≠ pb then pa else if l1 then true else !l2 && decide (i < k)
theorem cmpI_gt {x y : Int} (h : y < x) : cmpI x y = 1 := by unfold cmpI; rw [if_neg (by omega), if_pos h]
theorem ltR_ref (r o : Rk) : ltR r o = refA r.fails o.fails (-r.up) (-o.up) (parseP r.id).isSome (parseP o.id).isSome (lessS r.id o.id) (lessS o.id r.id) r.place o.place := by
  unfold ltR thanR refA
  by_cases h1 : r.fails = o.fails
  · rw [if_neg (by simp [h1]), h1, cmpI_self, orI, if_pos rfl]
    by_cases h2 : r.up = o.up
    · rw [if_neg (by simp [h2]), h2, cmpI_self, orI, if_pos rfl]
      unfold idsC
      generalize (parseP r.id).isSome = pa
      generalize (parseP o.id).isSome = pb
      generalize lessS r.id o.id = l1
      generalize lessS o.id r.id = l2
      have hc : decide (cmpI r.place o.place < 0) = decide (r.place < o.place) := by
        unfold cmpI
        by_cases h6 : r.place < o.place
        · simp [h6]
        · rw [if_neg h6]
          split <;> simp [h6]
      cases pa <;> cases pb <;> cases l1 <;> cases l2 <;> simp [orI, hc]
    · rw [if_pos (by omega)]
      by_cases h3 : r.up < o.up
      · rw [cmpI_lt h3]
        have : -o.up < -r.up := by omega
        simp [this, orI]
      · rw [cmpI_gt (by omega)]
        have : ¬ -o.up < -r.up := by omega
        simp [this, orI]
  · rw [if_pos h1]
    by_cases h3 : r.fails < o.fails
    · rw [cmpI_lt h3]; simp [h3, orI]
    · rw [cmpI_gt (by omega)]; simp [h3, orI]
theorem ahead_ref {l : List Nd} {i k : Nat} (hi : i < l.length) (hk : k < l.length) : aheadF l (i : Int) (k : Int) = refA l[i].fails l[k].fails (deepF l (i : Int)) (deepF l (k : Int)) (parseP l[i].id).isSome (parseP l[k].id).isSome (lessS l[i].id l[k].id) (lessS l[k].id l[i].id) (i : Int) (k : Int) := by
  rw [aheadF_nat hi hk, ltR_ref]
  unfold rankF
  rw [nthF_at hi, nthF_at hk]
  simp only [Int.neg_neg]
/-! ### each put where it belongs -/
noncomputable def insStep (l : List Nd) (i : Nat) (s : List Nat × Bool) (o : Nat) : List Nat × Bool :=
  if !s.2 && ltR (rankF l i) (rankF l o) then (s.1 ++ [i] ++ [o], true) else (s.1 ++ [o], s.2)
noncomputable def insSt (l : List Nd) (i : Nat) (out : List Nat) : List Nat × Bool := out.foldl (insStep l i) ([], false)
def insEnd (i : Nat) (s : List Nat × Bool) : List Nat := if s.2 then s.1 else s.1 ++ [i]
theorem ins_put (l : List Nd) (i : Nat) : ∀ (out acc : List Nat), out.foldl (insStep l i) (acc, true) = (acc ++ out, true)
  | [], acc => by simp
  | o :: out, acc => by
    rw [List.foldl_cons, show insStep l i (acc, true) o = (acc ++ [o], true) by unfold insStep; simp, ins_put l i out]
    simp
theorem ins_all (l : List Nd) (i : Nat) : ∀ (out acc : List Nat), insEnd i (out.foldl (insStep l i) (acc, false)) = acc ++ insR l i out
  | [], acc => by simp [insEnd, insR]
  | o :: out, acc => by
    rw [List.foldl_cons]
    unfold insR
    cases h : ltR (rankF l i) (rankF l o) with
    | true =>
      rw [show insStep l i (acc, false) o = (acc ++ [i] ++ [o], true) by unfold insStep; simp [h], ins_put, if_pos rfl]
      simp [insEnd]
    | false =>
      rw [show insStep l i (acc, false) o = (acc ++ [o], false) by unfold insStep; simp [h], ins_all l i out, if_neg (by decide)]
      simp
theorem insR_st (l : List Nd) (i : Nat) (out : List Nat) : insR l i out = insEnd i (insSt l i out) := by
  unfold insSt
  rw [ins_all]
  rfl
theorem insSt_succ (l : List Nd) (i : Nat) {out : List Nat} {k : Nat} (hk : k < out.length) : insSt l i (out.take (k + 1)) = insStep l i (insSt l i (out.take k)) out[k] := by
  unfold insSt
  rw [List.take_add_one, List.getElem?_eq_getElem hk, List.foldl_append]
  rfl
theorem insSt_len (l : List Nd) (i : Nat) : ∀ (out acc : List Nat) (b : Bool), (out.foldl (insStep l i) (acc, b)).1.length ≤ acc.length + out.length + 1 := by
  intro out
  induction out with
  | nil => intro acc b; simp
  | cons o out ih =>
    intro acc b
    rw [List.foldl_cons]
    cases h : (!b && ltR (rankF l i) (rankF l o)) with
    | true =>
      rw [show insStep l i (acc, b) o = (acc ++ [i] ++ [o], true) by unfold insStep; simp [h], ins_put]
      simp; omega
    | false =>
      rw [show insStep l i (acc, b) o = (acc ++ [o], b) by unfold insStep; simp [h]]
      have := ih (acc ++ [o]) b
      simp at this ⊢
      omega
/-! ### numbers, each put where it belongs, once -/
def insW (a : Int) : List Int → List Int
  | [] => [a]
  | o :: out => if o = a then o :: out else if a < o then a :: o :: out else o :: insW a out
theorem insW_mem (a : Int) : ∀ (out : List Int) (x : Int), x ∈ insW a out ↔ x = a ∨ x ∈ out
  | [], x => by simp [insW]
  | o :: out, x => by
    unfold insW
    by_cases h : o = a
    · rw [if_pos h, List.mem_cons]
      constructor
      · exact .inr
      · rintro (e | e)
        · exact .inl (e.trans h.symm)
        · exact e
    · rw [if_neg h]
      by_cases h2 : a < o
      · rw [if_pos h2]; simp
      · rw [if_neg h2, List.mem_cons, insW_mem a out, List.mem_cons]
        constructor
        · rintro (e | e | e)
          · exact .inr (.inl e)
          · exact .inl e
          · exact .inr (.inr e)
        · rintro (e | e | e)
          · exact .inr (.inl e)
          · exact .inl e
          · exact .inr (.inr e)
theorem insW_sort (a : Int) : ∀ {out : List Int}, out.Pairwise (· < ·) → (insW a out).Pairwise (· < ·)
  | [], _ => by simp [insW]
  | o :: out, h => by
    obtain ⟨h1, h2⟩ := List.pairwise_cons.1 h
    unfold insW
    by_cases e : o = a
    · rw [if_pos e]; exact h
    · rw [if_neg e]
      by_cases e2 : a < o
      · rw [if_pos e2]
        refine List.pairwise_cons.2 ⟨fun z hz => ?_, h⟩
        rcases List.mem_cons.1 hz with rfl | hz
        · exact e2
        · have := h1 z hz; omega
      · rw [if_neg e2]
        refine List.pairwise_cons.2 ⟨fun z hz => ?_, insW_sort a h2⟩
        rcases (insW_mem a out z).1 hz with rfl | hz
        · omega
        · exact h1 z hz
def wStep (a : Int) (s : List Int × Bool) (o : Int) : List Int × Bool :=
  if !(s.2 || decide (o = a)) && decide (a < o) then (s.1 ++ [a] ++ [o], true) else (s.1 ++ [o], s.2 || decide (o = a))
def wSt (a : Int) (out : List Int) : List Int × Bool := out.foldl (wStep a) ([], false)
def wEnd (a : Int) (s : List Int × Bool) : List Int := if s.2 then s.1 else s.1 ++ [a]
theorem w_put (a : Int) : ∀ (out acc : List Int), out.foldl (wStep a) (acc, true) = (acc ++ out, true)
  | [], acc => by simp
  | o :: out, acc => by
    rw [List.foldl_cons, show wStep a (acc, true) o = (acc ++ [o], true) by unfold wStep; simp, w_put a out]
    simp
theorem w_all (a : Int) : ∀ (out acc : List Int), wEnd a (out.foldl (wStep a) (acc, false)) = acc ++ insW a out
  | [], acc => by simp [wEnd, insW]
  | o :: out, acc => by
    rw [List.foldl_cons]
    unfold insW
    by_cases e : o = a
    · rw [show wStep a (acc, false) o = (acc ++ [o], true) by unfold wStep; simp [e], w_put, if_pos e]
      simp [wEnd]
    · rw [if_neg e]
      by_cases e2 : a < o
      · rw [show wStep a (acc, false) o = (acc ++ [a] ++ [o], true) by unfold wStep; simp [e, e2], w_put, if_pos e2]
        simp [wEnd]
      · rw [show wStep a (acc, false) o = (acc ++ [o], false) by unfold wStep; simp [e, e2], w_all a out, if_neg e2]
        simp
theorem insW_st (a : Int) (out : List Int) : insW a out = wEnd a (wSt a out) := by
  unfold wSt
  rw [w_all]
  rfl
theorem wSt_succ (a : Int) {out : List Int} {k : Nat} (hk : k < out.length) : wSt a (out.take (k + 1)) = wStep a (wSt a (out.take k)) out[k] := by
  unfold wSt
  rw [List.take_add_one, List.getElem?_eq_getElem hk, List.foldl_append]
  rfl
/-- What is waited for, of the first k. -/
def waitTo (l : List Nd) (af : List Int) : Nat → List Int
  | 0 => []
  | k + 1 => if doneF l (af.getD k 0) then waitTo l af k else insW (af.getD k 0) (waitTo l af k)
theorem waitTo_both (l : List Nd) (af : List Int) : ∀ k, k ≤ af.length → (waitTo l af k).Pairwise (· < ·) ∧ ∀ x, x ∈ waitTo l af k ↔ x ∈ (af.take k).filter (fun a => !doneF l a)
  | 0, _ => ⟨by simp [waitTo], fun x => by simp [waitTo]⟩
  | k + 1, hk => by
    obtain ⟨h1, h2⟩ := waitTo_both l af k (by omega)
    have hg : af.getD k 0 = af[k] := by rw [List.getD_eq_getElem?_getD, List.getElem?_eq_getElem (by omega), Option.getD_some]
    unfold waitTo
    rw [List.take_add_one, List.getElem?_eq_getElem (by omega), hg]
    cases h : doneF l af[k] with
    | true =>
      rw [if_pos rfl]
      refine ⟨h1, fun x => ?_⟩
      rw [h2 x, List.filter_append]
      simp [h]
    | false =>
      rw [if_neg (by decide)]
      refine ⟨insW_sort _ h1, fun x => ?_⟩
      rw [insW_mem, h2 x, List.filter_append, List.mem_append]
      simp [h]
      constructor
      · rintro (e | e)
        · exact .inr e
        · exact .inl e
      · rintro (e | e)
        · exact .inr e
        · exact .inl e
theorem waitTo_all {l : List Nd} {j : Nat} (hj : j < l.length) : waitTo l l[j].after l[j].after.length = waitsF l (j : Int) := by
  obtain ⟨h1, h2⟩ := waitTo_both l l[j].after l[j].after.length (Nat.le_refl _)
  have e : waitsF l (j : Int) = sortF (l[j].after.filter (fun a => !doneF l a)) := by
    unfold waitsF
    rw [show placeF l (j : Int) = true by unfold placeF; simp [hj], if_pos rfl, nthF_at hj]
  rw [e]
  obtain ⟨g1, g2⟩ := sortF_both (l[j].after.filter (fun a => !doneF l a))
  refine lt_ext h1 g1 (fun x => ?_)
  rw [h2, g2, List.take_length]
end Fm

open Go.RowKit Go.Shelf
namespace Go.Proofs.YtbciamploeejiaaGreatDoor
open Go Go.Proofs Fm

theorem str_add {P : Program} (a b : List UInt8) (h : a.length + b.length ≤ 9223372036854775807) (w : World) : (Op.stringOp .add (str a) (str b)).run P w = .ok (.string (str (a ++ b))) w := by
  have h' : ¬ (str a).size + (str b).size > 9223372036854775807 := by rw [str_size, str_size]; omega
  rw [run_string_add_if, if_neg h']
  unfold str; rw [ByteArray.mk_append_mk]

end Go.Proofs.YtbciamploeejiaaGreatDoor

open Go.RowKit Go.Shelf
namespace Go.Proofs.YtbciamploeejiaaGreatDoor
open Go Go.Proofs Fm

theorem bytes_one (w : World) {x : UInt8} {z : Int} (hz : (x.toNat : Int) = z) : Bytes (w.alloc (.cells #[.int .u8 z] 5)) (.slice (some ⟨w.heap.size, 0, none⟩) 1 1) [x] := by
  refine Bytes.mk rfl (by simp) (by unfold maxLen; omega) (by simp) (fun j hj => ?_)
  obtain rfl : j = 0 := by simpa using hj
  have h := heap_alloc_new w (.cells #[.int .u8 z] 5)
  have e : (w.alloc (.cells #[.int .u8 z] 5)).cell? ⟨w.heap.size, 0 + 0, none⟩ = some (.int .u8 z) := by
    simp only [World.cell?]
    rw [h]; rfl
  rw [e]; simp [bv, hz]
theorem conv_one (w : World) {x : UInt8} {z : Int} (hz : (x.toNat : Int) = z) :
    (convert 114 9 (.slice (some ⟨w.heap.size, 0, none⟩) 1 1)).run Tryz.prog (w.alloc (.cells #[.int .u8 z] 5)) = .ok (.string (str [x])) (w.alloc (.cells #[.int .u8 z] 5)) :=
  conv_bytes (P := Tryz.prog) (src := 114) (dst := 9) (e := 5) Tryz.underlying114 Tryz.underlying5 Tryz.underlying9 (bytes_one w hz)

theorem decDigits_le20 {u : Nat} (h : u < 18446744073709551616) : (Lib.decDigits u).length ≤ 20 :=
  decDigits_le 19 u (by have : (10 : Nat) ^ 20 = 100000000000000000000 := by decide
                        omega)

end Go.Proofs.YtbciamploeejiaaGreatDoor

open Go.RowKit Go.Shelf
namespace Go.Proofs.YtbciamploeejiaaGreatDoor
open Go Go.Proofs Fm

/-- A row of steps as the source of an append. -/
theorem Src.steps {w wr : World} {l : List Stp} {a : Option Addr} {n c : Nat} (h : stpE.Row w l (.slice a n c)) (hE : Ext w wr) : Src Tryz.prog 2 56 (.slice a n c) l.length (stpsCells l) wr := by
  obtain ⟨a', c', e, h1, h2⟩ := h.slice
  injection e with e1 e2 e3
  subst e1 e2 e3
  cases a with
  | none =>
    have h0 : l = [] := by
      cases l with
      | nil => rfl
      | cons x l =>
        obtain ⟨b, off, e, _⟩ := stp_at h (Ext.refl w) 0 (by simp)
        cases e
    subst h0
    exact Src.ofNil _ Tryz.underlying56 c
  | some ad =>
    obtain ⟨b, off, ae⟩ := ad
    refine Src.ofSlice _ Tryz.underlying56 _ _ _ _ (stpsCells_len l) (fun j u hj => ?_) (stpsCells_one l)
    have hne : l ≠ [] := by rintro rfl; simp [stpsCells] at hj
    obtain ⟨b', off', e, _⟩ := stp_at h (Ext.refl w) 0 (List.length_pos_iff.2 hne)
    cases e
    exact stpRow_cells h hE j u hj
end Go.Proofs.YtbciamploeejiaaGreatDoor

namespace Fm
open Go Go.RowKit

/-- Digits at a text's begin, at most so many: their number, and how many they are. -/
def rnum : Nat → Int → List UInt8 → Int × Nat
  | 0, n, _ => (n, 0)
  | _ + 1, n, [] => (n, 0)
  | f + 1, n, c :: r => if digB c = true then ((rnum f (n * 10 + ((c.toNat : Int) - 48)) r).1, (rnum f (n * 10 + ((c.toNat : Int) - 48)) r).2 + 1) else (n, 0)
theorem rnum_le : ∀ (f : Nat) (n : Int) (l : List UInt8), (rnum f n l).2 ≤ f ∧ (rnum f n l).2 ≤ l.length
  | 0, n, l => by simp [rnum]
  | f + 1, n, [] => by simp [rnum]
  | f + 1, n, c :: r => by
    have h := rnum_le f (n * 10 + ((c.toNat : Int) - 48)) r
    rw [rnum]
    split
    · simp only [List.length_cons]; omega
    · simp
def digV (n : Int) (l : List UInt8) : Int := l.foldl (fun a c => a * 10 + ((c.toNat : Int) - 48)) n
theorem rnum_digits : ∀ (ds : List UInt8) (f : Nat) (n : Int) (r : List UInt8), (∀ c, c ∈ ds → digB c = true) → ds.length < f → (∀ c, r.head? = some c → digB c = false) → rnum f n (ds ++ r) = (digV n ds, ds.length)
  | [], f, n, r, _, hf, hr => by
    obtain ⟨g, rfl⟩ : ∃ g, f = g + 1 := ⟨f - 1, by simp at hf; omega⟩
    cases r with
    | nil => rfl
    | cons c r =>
      have := hr c rfl
      rw [List.nil_append, rnum, if_neg (by simp [this])]; rfl
  | d :: ds, f, n, r, hd, hf, hr => by
    obtain ⟨g, rfl⟩ : ∃ g, f = g + 1 := ⟨f - 1, by simp at hf; omega⟩
    rw [List.cons_append, rnum, if_pos (hd d (List.mem_cons_self ..)), rnum_digits ds g _ r (fun c hc => hd c (List.mem_cons_of_mem _ hc)) (by simpa using hf) hr]
    rfl
theorem digV_append (n : Int) (a b : List UInt8) : digV n (a ++ b) = digV (digV n a) b := by unfold digV; rw [List.foldl_append]
theorem digV_dec (u : Nat) : digV 0 (Lib.decDigits u) = (u : Int) := by
  induction u using Nat.strongRecOn with
  | _ u ih =>
    rw [Lib.decDigits]
    split
    · rename_i h
      show (0 : Int) * 10 + _ = _
      rw [dig_nat h]; omega
    · rename_i h
      rw [digV_append, ih (u / 10) (by omega)]
      show ((u / 10 : Nat) : Int) * 10 + _ = _
      rw [dig_nat (by omega)]; omega
theorem decDig_len : ∀ (k u : Nat), u < 10 ^ (k + 1) → (Lib.decDigits u).length ≤ k + 1
  | 0, u, h => by
    rw [Lib.decDigits, dif_pos (by simpa using h)]; simp
  | k + 1, u, h => by
    rw [Lib.decDigits]
    split
    · simp
    · have := decDig_len k (u / 10) (by rw [Nat.pow_succ] at h; omega)
      rw [List.length_append, List.length_singleton]; omega
theorem rnum_itoa {n : Int} (h : 0 ≤ n ∧ n ≤ 999999) (r : List UInt8) (hr : ∀ c, r.head? = some c → digB c = false) : rnum 7 0 (Lib.itoa n ++ r) = (n, (Lib.itoa n).length) := by
  rw [rnum_digits _ 7 0 r (itoa_dig h.1) (by rw [itoa_decD h.1]; have := decDig_len 5 n.toNat (by omega); omega) hr]
  rw [itoa_decD h.1, digV_dec]
  congr 1
  omega
/-- The steps' texts begin with a slash, or are none. -/
theorem stepsS_head (l : List Stp) : ∀ c, (stepsS l).head? = some c → c = 47 := by
  intro c h
  cases l with
  | nil => simp [stepsS] at h
  | cons x l => rw [stepsS_cons] at h; simp [stpS] at h; exact h.symm
theorem stepsS_dig (l : List Stp) : ∀ c, (stepsS l).head? = some c → digB c = false := fun c h => by rw [stepsS_head l c h]; decide
/-! ### where the reference stands ahead of a step -/
/-- A letter that ends no name. -/
def nmC (c : UInt8) : Bool := c != 47 && c != 91
def posP (p : Pth) (j : Nat) : Nat := (Lib.itoa p.flow).length + (stepsS (p.steps.take j)).length
theorem posP_zero (p : Pth) : posP p 0 = (Lib.itoa p.flow).length := by unfold posP; simp [stepsS_nil]
theorem pthS_split (p : Pth) (j : Nat) : pthS p = (Lib.itoa p.flow ++ stepsS (p.steps.take j)) ++ stepsS (p.steps.drop j) := by
  unfold pthS
  rw [List.append_assoc, ← stepsS_append, List.take_append_drop]
theorem pthS_drop (p : Pth) (j : Nat) : (pthS p).drop (posP p j) = stepsS (p.steps.drop j) := by
  rw [pthS_split p j]
  exact List.drop_left' (by unfold posP; rw [List.length_append])
theorem posP_end (p : Pth) {j : Nat} (h : p.steps.length ≤ j) : posP p j = (pthS p).length := by
  unfold posP pthS
  rw [List.take_of_length_le h, List.length_append]
theorem posP_succ (p : Pth) {j : Nat} (h : j < p.steps.length) : posP p (j + 1) = posP p j + (stpS p.steps[j]).length := by
  unfold posP
  rw [List.take_succ_eq_append_getElem h, stepsS_snoc, List.length_append]; omega
theorem stepsS_at (l : List Stp) {j : Nat} (h : j < l.length) : stepsS (l.drop j) = stpS l[j] ++ stepsS (l.drop (j + 1)) := by
  rw [List.drop_eq_getElem_cons h, stepsS_cons]
theorem nameB_nm {s : List UInt8} (h : nameB s = true) : ∀ c, c ∈ s → nmC c = true := fun c hc => by
  obtain ⟨a, b⟩ := nameB_47 h c hc
  unfold nmC; simp [a, b]
theorem takeWhile_name {s r : List UInt8} (h : ∀ c, c ∈ s → nmC c = true) (hr : ∀ c, r.head? = some c → nmC c = false) : (s ++ r).takeWhile nmC = s := by
  induction s with
  | nil =>
    cases r with
    | nil => rfl
    | cons c r => rw [List.nil_append, List.takeWhile_cons, hr c rfl]; rfl
  | cons d s ih => rw [List.cons_append, List.takeWhile_cons, h d (List.mem_cons_self ..)]; simp [ih (fun c hc => h c (List.mem_cons_of_mem _ hc))]
theorem rest_head (n : Int) (l : List Stp) : ∀ c, (placeS n ++ stepsS l).head? = some c → nmC c = false := by
  intro c h
  unfold placeS at h
  split at h
  · rw [List.nil_append] at h
    rw [stepsS_head l c h]; decide
  · simp at h; subst h; decide
end Fm

open Go.RowKit Go.Shelf
namespace Go.Proofs.YtbciamploeejiaaGreatDoor
open Go Go.Proofs Fm

theorem decD_one {u : Nat} (h : u < 10) : Lib.decDigits u = [UInt8.ofNat (48 + u)] := by rw [Lib.decDigits, dif_pos h]
theorem decD_more {u : Nat} (h : ¬ u < 10) : Lib.decDigits u = Lib.decDigits (u / 10) ++ [UInt8.ofNat (48 + u % 10)] := by rw [Lib.decDigits, dif_neg h]
set_option maxHeartbeats 1000000 in
theorem rdig12_any : ∀ (u : Nat) (w : World), u < 9223372036854775808 →
    Calls Tryz.prog 60 #[.int .i64 (u : Int)] w fun e w' => e = .returned (.string (str (Lib.decDigits u))) ∧ Ext w w' := by
  intro u
  induction u using Nat.strongRecOn with
  | _ u ih =>
  intro w hu
  have h0 : (0 : Int) ≤ (u : Int) := by omega
  obtain ⟨r, hr⟩ : ∃ r, r = u % 10 := ⟨_, rfl⟩
  have hm : IntKind.i64.wrap ((u : Int).tmod 10) = (r : Int) := by rw [Int.tmod_eq_emod_of_nonneg h0, IntWalk.i64_in _ (by omega)]; omega
  have hm2 : (u : Int) % 10 = (r : Int) := by omega
  have hw : IntKind.u8.wrap (r : Int) = (r : Int) := IntWalk.u8_in _ (by omega)
  have hw2 : IntKind.u8.wrap (48 + (r : Int)) = 48 + (r : Int) := IntWalk.u8_in _ (by omega)
  obtain ⟨ch, hch⟩ : ∃ ch, ch = UInt8.ofNat (48 + r) := ⟨_, rfl⟩
  have hx : (ch.toNat : Int) = 48 + (r : Int) := by rw [hch, UInt8.toNat_ofNat']; omega
  have hc := conv_one w hx
  have HE := Lib.hid ((Ext.refl w).alloc (.cells #[.int .u8 (48 + (r : Int))] 5))
  clear hx
  by_cases h : u < 10
  · have h10 : (u : Int) < 10 := by omega
    have HD := Lib.hid (show Lib.decDigits u = [ch] by rw [decD_one h, hch, hr, Nat.mod_eq_of_lt h])
    clear ih hr hch
    go_enter Tryz.func60, Tryz.ntmps60
    go_wp2
    go_ret
    exact ⟨by rw [HD.out]; rfl, HE.out⟩
  · have h10 : ¬ (u : Int) < 10 := by omega
    obtain ⟨q, hq⟩ : ∃ q, q = u / 10 := ⟨_, rfl⟩
    have HD := Lib.hid (show Lib.decDigits u = Lib.decDigits q ++ [ch] by rw [decD_more h, hch, hq, hr])
    have hd : IntKind.i64.wrap ((u : Int).tdiv 10) = (q : Int) := by rw [Int.tdiv_eq_ediv_of_nonneg h0, IntWalk.i64_in _ (by omega)]; omega
    have hd2 : (u : Int) / 10 = (q : Int) := by omega
    have hl := decDigits_le20 (u := q) (by omega)
    have hsa := fun w' => str_add (P := Tryz.prog) (Lib.decDigits q) [ch] (by simp; omega) w'
    have IH := Lib.hid (ih q (by omega))
    have hq64 : q < 9223372036854775808 := by omega
    clear ih hq hr hch
    go_enter Tryz.func60, Tryz.ntmps60
    go_wp2_with fail
    refine (IH.out _ hq64).mono ?_
    rintro e w1 ⟨rfl, hE1⟩
    go_wp2
    go_ret
    exact ⟨by rw [HD.out]; rfl, HE.out.trans hE1⟩
theorem rdig12_itoa {n : Int} (h0 : 0 ≤ n) (h1 : n ≤ 9223372036854775807) (w : World) :
    Calls Tryz.prog 60 #[.int .i64 n] w fun e w' => e = .returned (.string (str (Lib.itoa n))) ∧ Ext w w' := by
  have := rdig12_any n.toNat w (by omega)
  rw [← itoa_decD h0, show ((n.toNat : Nat) : Int) = n by omega] at this
  exact this

theorem rnum_go {s : List UInt8} {k : Nat} {n : Int} (h7 : k < 7) (hk : k < s.length) (hd : digB s[k] = true) :
    rnum (7 - k) n (s.drop k) = ((rnum (7 - (k + 1)) (n * 10 + ((s[k].toNat : Int) - 48)) (s.drop (k + 1))).1, (rnum (7 - (k + 1)) (n * 10 + ((s[k].toNat : Int) - 48)) (s.drop (k + 1))).2 + 1) := by
  rw [List.drop_eq_getElem_cons hk, show 7 - k = (7 - (k + 1)) + 1 by omega, rnum, if_pos hd]
theorem rnum_no {s : List UInt8} {k : Nat} {n : Int} (hk : k < s.length) (hd : digB s[k] = false) : rnum (7 - k) n (s.drop k) = (n, 0) := by
  rw [List.drop_eq_getElem_cons hk]
  cases 7 - k with
  | zero => rfl
  | succ f => rw [rnum, if_neg (by simp [hd])]
theorem rnum_end {s : List UInt8} {k : Nat} {n : Int} (h : 7 ≤ k ∨ s.length ≤ k) : rnum (7 - k) n (s.drop k) = (n, 0) := by
  rcases h with h | h
  · rw [show 7 - k = 0 by omega]; rfl
  · rw [List.drop_eq_nil_of_le h]
    cases 7 - k <;> rfl
set_option maxHeartbeats 2000000 in
theorem rnumber12_any (s : List UInt8) (hs : s.length ≤ 1000000) (w : World) :
    Calls Tryz.prog 47 #[.string (str s)] w fun e w' => e = .returned (.tuple #[.int .i64 (rnum 7 0 s).1, .int .i64 ((rnum 7 0 s).2 : Nat)]) ∧ w = w' ∧ 0 ≤ (rnum 7 0 s).1 ∧ (rnum 7 0 s).1 < 10000000 := by
  have hss := str_size s
  go_enter Tryz.func47, Tryz.ntmps47
  go_wp2_with fail
  go_loop [4, 5] (fun n i => ∃ (j : Nat) (z : Int), j ≤ s.length ∧ j ≤ 7 ∧ i = .int .i64 j ∧ n = .int .i64 z ∧ Hid (0 ≤ z ∧ z < 10 ^ j ∧ rnum 7 0 s = ((rnum (7 - j) z (s.drop j)).1, (rnum (7 - j) z (s.drop j)).2 + j))) (fun _ i => s.length - (intOf i).toNat)
  case atStart => exact ⟨0, 0, by omega, by omega, rfl, rfl, Lib.hid ⟨by omega, by simp, by simp⟩⟩
  case round =>
    obtain ⟨j, z, hj, hj7, rfl, rfl, HR⟩ := hrel
    have fin : (7 ≤ j ∨ s.length ≤ j ∨ ∃ h : j < s.length, digB s[j] = false) → z = (rnum 7 0 s).1 ∧ (j : Int) = ((rnum 7 0 s).2 : Nat) ∧ 0 ≤ (rnum 7 0 s).1 ∧ (rnum 7 0 s).1 < 10000000 := by
      intro h
      obtain ⟨h1, h2, h3⟩ := HR.out
      have hn : rnum (7 - j) z (s.drop j) = (z, 0) := by
        rcases h with h | h | ⟨h, h'⟩
        · exact rnum_end (.inl h)
        · exact rnum_end (.inr h)
        · exact rnum_no h h'
      rw [hn] at h3
      rw [h3]
      have : (10 : Int) ^ j ≤ 10000000 := by
        rcases (by omega : j = 0 ∨ j = 1 ∨ j = 2 ∨ j = 3 ∨ j = 4 ∨ j = 5 ∨ j = 6 ∨ j = 7) with h | h | h | h | h | h | h | h <;> subst h <;> decide
      refine ⟨rfl, by simp, h1, by show z < _; omega⟩
    have FIN := Lib.hid fin
    clear fin
    by_cases hlt : j < s.length
    case neg =>
      obtain ⟨f1, f2, f3, f4⟩ := FIN.out (.inr (.inl (by omega)))
      have F := Lib.hid (And.intro f1 f2)
      have F2 := Lib.hid (And.intro f3 f4)
      clear FIN HR f1 f2 f3 f4
      go_wp2
      go_ret2
      exact ⟨by rw [F.out.1, F.out.2]; rfl, rfl, F2.out⟩
    by_cases h7 : j < 7
    case neg =>
      obtain ⟨f1, f2, f3, f4⟩ := FIN.out (.inl (by omega))
      have F := Lib.hid (And.intro f1 f2)
      have F2 := Lib.hid (And.intro f3 f4)
      clear FIN HR f1 f2 f3 f4
      go_wp2
      go_ret2
      exact ⟨by rw [F.out.1, F.out.2]; rfl, rfl, F2.out⟩
    obtain ⟨x, hx⟩ : ∃ x, x = s[j]?.getD 0 := ⟨_, rfl⟩
    have hxs : x = s[j] := by rw [hx]; simp [hlt]
    have hix := run_index_str (P := Tryz.prog) Tryz.underlying9 s j hlt
    rw [← hx] at hix
    cases hb : digB x with
    | true =>
      obtain ⟨g1, g2⟩ := digB_iff.1 hb
      have hz10 : 0 ≤ z ∧ z < 1000000 := by
        obtain ⟨h1, h2, _⟩ := HR.out
        have : (10 : Int) ^ j ≤ 1000000 := by
          rcases (by omega : j = 0 ∨ j = 1 ∨ j = 2 ∨ j = 3 ∨ j = 4 ∨ j = 5 ∨ j = 6) with h | h | h | h | h | h | h <;> subst h <;> decide
        omega
      have HN : Hid (0 ≤ z * 10 + (x.toNat : Int) - 48 ∧ z * 10 + (x.toNat : Int) - 48 < 10 ^ (j + 1) ∧ rnum 7 0 s = ((rnum (7 - (j + 1)) (z * 10 + (x.toNat : Int) - 48) (s.drop (j + 1))).1, (rnum (7 - (j + 1)) (z * 10 + (x.toNat : Int) - 48) (s.drop (j + 1))).2 + (j + 1))) := Lib.hid (by
        obtain ⟨h1, h2, h3⟩ := HR.out
        have hp : (10 : Int) ^ (j + 1) = 10 ^ j * 10 := by rw [Int.pow_succ]
        refine ⟨by omega, by rw [hp]; omega, ?_⟩
        rw [h3, rnum_go h7 hlt (hxs ▸ hb), ← hxs, show z * 10 + (x.toNat : Int) - 48 = z * 10 + ((x.toNat : Int) - 48) by omega]
        simp only [Prod.mk.injEq, true_and]
        omega)
      obtain ⟨hz1, hz2⟩ := hz10
      have hxn : ((x.toNat : Nat) : Int) ≤ 57 ∧ (48 : Int) ≤ ((x.toNat : Nat) : Int) := by omega
      clear hb hxs hx HR FIN g1 g2
      generalize hy : ((x.toNat : Nat) : Int) = y at *
      clear hy
      obtain ⟨y1, y2⟩ := hxn
      have e1 : IntKind.i64.wrap (z * 10) = z * 10 := IntWalk.i64_in _ (by omega)
      have e2 : IntKind.i64.wrap (z * 10 + y) = z * 10 + y := IntWalk.i64_in _ (by omega)
      have e3 : IntKind.i64.wrap (z * 10 + y - 48) = z * 10 + y - 48 := IntWalk.i64_in _ (by omega)
      have e4 : IntKind.i64.wrap y = y := IntWalk.i64_in _ (by omega)
      go_wp2
      go_round
      case rel => exact ⟨j + 1, z * 10 + y - 48, by omega, by omega, by go_num, by go_num, HN⟩
      case measure => simp [intOf]; omega
    | false =>
      obtain ⟨f1, f2, f3, f4⟩ := FIN.out (.inr (.inr ⟨hlt, hxs ▸ hb⟩))
      have F := Lib.hid (And.intro f1 f2)
      have F2 := Lib.hid (And.intro f3 f4)
      unfold digB at hb
      simp only [Bool.and_eq_false_iff, decide_eq_false_iff_not] at hb
      clear FIN HR f1 f2 f3 f4 hxs hx
      generalize hy : ((x.toNat : Nat) : Int) = y at *
      by_cases k1 : 48 ≤ y
      · have k2 : ¬ y ≤ 57 := by omega
        clear hb hy
        go_wp2
        go_ret2
        exact ⟨by rw [F.out.1, F.out.2]; rfl, rfl, F2.out⟩
      · clear hb hy
        go_wp2
        go_ret2
        exact ⟨by rw [F.out.1, F.out.2]; rfl, rfl, F2.out⟩
end Go.Proofs.YtbciamploeejiaaGreatDoor

open Go.RowKit Go.Shelf
namespace Go.Proofs.YtbciamploeejiaaGreatDoor
open Go Go.Proofs Fm

theorem all_stp {α : Type} {l : List α} {f : α → Bool} {k : Nat} (hk : k < l.length) (h : (l.take k).all f = true) (hx : f l[k] = true) : (l.take (k + 1)).all f = true := by
  rw [List.take_succ_eq_append_getElem hk, List.all_append, h]; simp [hx]
theorem all_nost {α : Type} {l : List α} {f : α → Bool} {k : Nat} (hk : k < l.length) (hx : f l[k] = false) : l.all f = false := by
  rw [List.all_eq_false]
  exact ⟨l[k], List.getElem_mem hk, by simp [hx]⟩
set_option maxRecDepth 100000 in
set_option maxHeartbeats 2000000 in
theorem rright12_any (p : Pth) (hl : p.steps.length ≤ 10000) (w : World) (v : Value) (h : PthV w p v) :
    Calls Tryz.prog 59 #[v] w fun e w' => e = .returned (.bool (pthB p)) ∧ Ext w w' := by
  obtain ⟨a, m, c, rfl, hr, hi⟩ := h
  obtain ⟨a', c', e, hc1, hc2⟩ := hr.slice
  injection e with e1 e2 e3
  subst e1 e2 e3
  have HR := Lib.hid hr
  have HX := Lib.hid (show pthB p = (mayB p.flow && p.steps.all stpB) from rfl)
  have HE0 := Lib.hid ((Ext.refl w).alloc (.cells #[.int .i64 p.flow, .slice a p.steps.length c] 58))
  have hb := BoxL.new w [.int .i64 p.flow, .slice a p.steps.length c] 58
  have HMY := Lib.hid (@mayB_iff p.flow)
  clear hr hi
  go_enter Tryz.func59, Tryz.ntmps59
  go_upto_region 1 with (fail)
  generalize w.alloc (.cells #[.int .i64 p.flow, .slice a p.steps.length c] 58) = W1 at *
  generalize hfl : p.flow = fl at *
  have p0 := hb.cell 0 _ rfl
  have p1 := hb.cell 1 _ rfl
  have HB := Lib.hid hb
  clear hb hfl
  by_cases h1 : 0 ≤ fl
  case neg =>
    have HY := Lib.hid (show pthB p = false by
      rw [HX.out]
      cases hm : mayB fl with
      | false => rfl
      | true => exact absurd (HMY.out.1 hm).1 h1)
    clear HMY
    have h1' : fl < 0 := by omega
    go_wp2
    go_ret
    exact ⟨by rw [HY.out]; rfl, HE0.out⟩
  by_cases h2 : fl ≤ 999999
  case neg =>
    have HY := Lib.hid (show pthB p = false by
      rw [HX.out]
      cases hm : mayB fl with
      | false => rfl
      | true => exact absurd (HMY.out.1 hm).2 h2)
    clear HMY
    have h1' : ¬ fl < 0 := by omega
    go_wp2
    go_ret
    exact ⟨by rw [HY.out]; rfl, HE0.out⟩
  have HX := Lib.hid (show pthB p = p.steps.all stpB by rw [HX.out, HMY.out.2 ⟨h1, h2⟩]; rfl)
  have h1' : ¬ fl < 0 := by omega
  clear HMY
  go_wp2_with fail
  go_loopw [3] (fun i wr => ∃ k : Nat, k ≤ p.steps.length ∧ i = .int .i64 k ∧ Hid ((p.steps.take k).all stpB = true) ∧ Hid (Ext W1 wr)) (fun i _ => p.steps.length - (intOf i).toNat)
  case atStart => exact ⟨0, by omega, rfl, Lib.hid (by simp), Lib.hid (Ext.refl W1)⟩
  case round =>
    clear p0 p1
    obtain ⟨k, hk, rfl, HA, HEk⟩ := hrel
    have p1 := (HB.out.ext HEk.out).cell 1 _ rfl
    by_cases hlt : k < p.steps.length
    case neg =>
      have hk' : k = p.steps.length := by omega
      have HY := Lib.hid (show pthB p = true by have := HA.out; rw [hk', List.take_length] at this; rw [HX.out, this])
      have HE := Lib.hid (HE0.out.trans HEk.out)
      clear HA HX hk'
      go_wp2
      go_ret
      exact ⟨by rw [HY.out]; rfl, HE.out⟩
    obtain ⟨b, off, rfl, hb, c0, c1, hs⟩ := stp_at HR.out (HE0.out.trans HEk.out) k hlt
    have HS := Lib.hid (fun hx : stpB p.steps[k] = true => all_stp hlt HA.out hx)
    have HN := Lib.hid (fun hx : stpB p.steps[k] = false => HX.out.trans (all_nost hlt hx))
    have HI := Lib.hid (@stpB_iff p.steps[k])
    have hnl := hs.1
    generalize p.steps[k] = x at *
    obtain ⟨nm, pl⟩ := x
    simp only at c0 c1 hnl HI
    have hEa := (Ext.refl wr).alloc (.cells #[.string (str nm), .int .i64 pl] 79)
    have hxb := BoxL.new wr [.string (str nm), .int .i64 pl] 79
    have HEa := Lib.hid (HEk.out.trans hEa)
    clear HA HEk hs hEa HX
    go_upto_region 7 with (fail)
    generalize wr.heap.size = XB at *
    generalize wr.alloc (.cells #[.string (str nm), .int .i64 pl] 79) = Wa at *
    clear c0 c1 p1
    have x0 := hxb.cell 0 _ rfl
    have x1 := hxb.cell 1 _ rfl
    clear hxb
    go_wp2_with fail
    refine (rname_any nm hnl Wa).mono ?_
    rintro e w6 ⟨rfl, rfl⟩
    cases hb : nameB nm with
    | false =>
      have HY := Lib.hid (HN.out (by
        cases hq : stpB ⟨nm, pl⟩ with
        | false => rfl
        | true => have := (HI.out.1 hq).1; rw [hb] at this; cases this))
      have HE := Lib.hid (HE0.out.trans HEa.out)
      clear HS HN HI hb
      go_wp2
      go_ret
      exact ⟨by rw [HY.out]; rfl, HE.out⟩
    | true =>
      by_cases g1 : pl < -1
      · have HY := Lib.hid (HN.out (by
          cases hq : stpB ⟨nm, pl⟩ with
          | false => rfl
          | true => have := (HI.out.1 hq).2; omega))
        have HE := Lib.hid (HE0.out.trans HEa.out)
        clear HS HN HI hb
        go_wp2
        go_ret
        exact ⟨by rw [HY.out]; rfl, HE.out⟩
      · by_cases g2 : pl ≤ 999999
        · have HY := Lib.hid (HS.out (HI.out.2 ⟨hb, by show pl = -1 ∨ (0 ≤ pl ∧ pl ≤ 999999); omega⟩))
          clear HS HN HI hb
          go_wp2
          go_roundw
          case rel => exact ⟨k + 1, by omega, by go_num, HY, HEa⟩
          case measure => simp [intOf]; omega
        · have HY := Lib.hid (HN.out (by
            cases hq : stpB ⟨nm, pl⟩ with
            | false => rfl
            | true => have := (HI.out.1 hq).2; omega))
          have HE := Lib.hid (HE0.out.trans HEa.out)
          clear HS HN HI hb
          go_wp2
          go_ret
          exact ⟨by rw [HY.out]; rfl, HE.out⟩
set_option maxRecDepth 100000 in
set_option maxHeartbeats 4000000 in
theorem rshow12_right (p : Pth) (hp : pthB p = true) (hl : p.steps.length ≤ 10000) (w : World) (v : Value) (h : PthV w p v) :
    Calls Tryz.prog 48 #[v] w fun e w' => e = .returned (.string (str (pthS p))) ∧ Ext w w' := by
  obtain ⟨a, m, c, rfl, hr, hi⟩ := h
  obtain ⟨a', c', e, hc1, hc2⟩ := hr.slice
  injection e with e1 e2 e3
  subst e1 e2 e3
  have HV := Lib.hid (show PthV w p (.agg #[.int .i64 p.flow, .slice a p.steps.length c]) from ⟨a, p.steps.length, c, rfl, hr, hi⟩)
  have HF := Lib.hid (pthB_iff.1 hp)
  have HR := Lib.hid hr
  have HP := Lib.hid hp
  have hb := BoxL.new w [.int .i64 p.flow, .slice a p.steps.length c] 58
  have HE0 := Lib.hid ((Ext.refl w).alloc (.cells #[.int .i64 p.flow, .slice a p.steps.length c] 58))
  clear hr hp hi
  go_enter Tryz.func48, Tryz.ntmps48
  go_upto_region 1 with (fail)
  generalize w.alloc (.cells #[.int .i64 p.flow, .slice a p.steps.length c] 58) = W1 at *
  have p0 := hb.cell 0 _ rfl
  have p1 := hb.cell 1 _ rfl
  have HB := Lib.hid hb
  clear hb
  go_wp2_with fail
  refine (rright12_any p hl W1 _ (HV.out.ext HE0.out)).mono ?_
  rw [HP.out]
  rintro e w2 ⟨rfl, hE2⟩
  have HE2 := Lib.hid hE2
  clear p0 p1 hE2
  have p0 := (HB.out.ext HE2.out).cell 0 _ rfl
  go_wp2_with fail
  refine (rdig12_itoa HF.out.1.1 (by have := HF.out.1.2; omega) w2).mono ?_
  rintro e w4 ⟨rfl, hE4⟩
  have HE4 := Lib.hid (HE2.out.trans hE4)
  have hlf := itoa_len HF.out.1
  clear hE4 HE2 p0
  go_wp2_with fail
  go_loopw [4, 3] (fun i t wr => ∃ k : Nat, k ≤ p.steps.length ∧ i = .int .i64 k ∧ t = .string (str (Lib.itoa p.flow ++ stepsS (p.steps.take k))) ∧ Hid (Ext W1 wr)) (fun i _ _ => p.steps.length - (intOf i).toNat)
  case atStart => exact ⟨0, by omega, rfl, by simp [stepsS_nil], HE4⟩
  case round =>
    clear HE4
    obtain ⟨k, hk, rfl, rfl, HEk⟩ := hrel
    have p1 := (HB.out.ext HEk.out).cell 1 _ rfl
    by_cases hlt : k < p.steps.length
    case neg =>
      obtain rfl : k = p.steps.length := by omega
      have HX := Lib.hid (show Lib.itoa p.flow ++ stepsS (p.steps.take p.steps.length) = pthS p by rw [List.take_length]; rfl)
      have HE := Lib.hid (HE0.out.trans HEk.out)
      go_wp2
      go_ret
      exact ⟨by rw [HX.out]; rfl, HE.out⟩
    obtain ⟨b, off, rfl, hb, c0, c1, hs⟩ := stp_at HR.out (HE0.out.trans HEk.out) k hlt
    have hx := HF.out.2 _ (List.getElem_mem hlt)
    obtain ⟨hx1, hx2⟩ := stpB_iff.1 hx
    have hx3 := (nameB_iff.1 hx1).2.2
    have HT := Lib.hid (show stepsS (p.steps.take (k + 1)) = stepsS (p.steps.take k) ++ (47 :: (p.steps[k].name ++ placeS p.steps[k].place)) by
      rw [List.take_succ_eq_append_getElem hlt, stepsS_snoc]; rfl)
    have hln : (Lib.itoa p.flow ++ stepsS (p.steps.take k)).length ≤ 300000 := by
      have := stepsS_len (p.steps.take k) (fun x hx => HF.out.2 x (List.mem_of_mem_take hx))
      have := List.length_take_le k p.steps
      rw [List.length_append]
      omega
    have HU := Lib.hid (show Lib.itoa p.flow ++ stepsS (p.steps.take (k + 1)) = (Lib.itoa p.flow ++ stepsS (p.steps.take k)) ++ (47 :: (p.steps[k].name ++ placeS p.steps[k].place)) by rw [HT.out, List.append_assoc])
    generalize Lib.itoa p.flow ++ stepsS (p.steps.take k) = cu at *
    generalize p.steps[k] = x at *
    obtain ⟨nm, pl⟩ := x
    simp only at c0 c1 hx3 HU hx2
    obtain ⟨t1, ht1⟩ : ∃ t1, t1 = cu ++ [47] := ⟨_, rfl⟩
    obtain ⟨t2, ht2⟩ : ∃ t2, t2 = t1 ++ nm := ⟨_, rfl⟩
    have l1 : t1.length = cu.length + 1 := by rw [ht1]; simp
    have l2 : t2.length = t1.length + nm.length := by rw [ht2]; simp
    have a1 : ∀ w', (Op.stringOp .add (str cu) ⟨#[47]⟩).run Tryz.prog w' = .ok (.string (str t1)) w' := fun w' => ht1 ▸ str_add (P := Tryz.prog) cu [47] (by simp; omega) w'
    have a2 : ∀ w', (Op.stringOp .add (str t1) (str nm)).run Tryz.prog w' = .ok (.string (str t2)) w' := fun w' => ht2 ▸ str_add (P := Tryz.prog) t1 nm (by omega) w'
    clear hx hx1 hs HT
    by_cases hp : pl = -1
    · have HU := Lib.hid (show Lib.itoa p.flow ++ stepsS (p.steps.take (k + 1)) = t2 by rw [HU.out, hp, ht2, ht1]; simp [placeS])
      have hg : ¬ 0 ≤ pl := by omega
      clear hp hx2 ht1 ht2 l1 l2
      go_wp2_with fail
      go_roundw
      case rel => exact ⟨k + 1, by omega, by go_num, by rw [HU.out], HEk⟩
      case measure => simp [intOf]; omega
    · have hm : 0 ≤ pl ∧ pl ≤ 999999 := by omega
      have hpl := itoa_len hm
      obtain ⟨t3, ht3⟩ : ∃ t3, t3 = t2 ++ [91] := ⟨_, rfl⟩
      obtain ⟨t4, ht4⟩ : ∃ t4, t4 = t3 ++ Lib.itoa pl := ⟨_, rfl⟩
      obtain ⟨t5, ht5⟩ : ∃ t5, t5 = t4 ++ [93] := ⟨_, rfl⟩
      have l3 : t3.length = t2.length + 1 := by rw [ht3]; simp
      have l4 : t4.length = t3.length + (Lib.itoa pl).length := by rw [ht4]; simp
      have HU := Lib.hid (show Lib.itoa p.flow ++ stepsS (p.steps.take (k + 1)) = t5 by rw [HU.out, ht5, ht4, ht3, ht2, ht1]; simp [placeS, hp])
      have a3 : ∀ w', (Op.stringOp .add (str t2) ⟨#[91]⟩).run Tryz.prog w' = .ok (.string (str t3)) w' := fun w' => ht3 ▸ str_add (P := Tryz.prog) t2 [91] (by simp; omega) w'
      have a4 : ∀ w', (Op.stringOp .add (str t3) (str (Lib.itoa pl))).run Tryz.prog w' = .ok (.string (str t4)) w' := fun w' => ht4 ▸ str_add (P := Tryz.prog) t3 (Lib.itoa pl) (by omega) w'
      have a5 : ∀ w', (Op.stringOp .add (str t4) ⟨#[93]⟩).run Tryz.prog w' = .ok (.string (str t5)) w' := fun w' => ht5 ▸ str_add (P := Tryz.prog) t4 [93] (by simp; omega) w'
      have h0 := hm.1
      clear hp hx2 ht1 ht2 ht3 ht4 ht5 l1 l2 l3 l4
      go_wp2_with fail
      refine (rdig12_itoa hm.1 (by omega) wr).mono ?_
      rintro e w7 ⟨rfl, hE7⟩
      have HE7 := Lib.hid (HEk.out.trans hE7)
      clear hE7 c0 c1 p1
      go_wp2_with fail
      go_roundw
      case rel => exact ⟨k + 1, by omega, by go_num, by rw [HU.out], HE7⟩
      case measure => simp [intOf]; omega
set_option maxHeartbeats 1000000 in
theorem rshow12_any (p : Pth) (hl : p.steps.length ≤ 10000) (w : World) (v : Value) (h : PthV w p v) :
    Calls Tryz.prog 48 #[v] w fun e w' => e = .returned (.string (str (showP p))) ∧ Ext w w' := by
  cases hp : pthB p with
  | true =>
    rw [showP_right hp]
    exact rshow12_right p hp hl w v h
  | false =>
    have HX := Lib.hid (show showP p = [] from showP_wrong hp)
    have HP := Lib.hid hp
    obtain ⟨a, m, c, rfl, hr, hi⟩ := h
    have HV := Lib.hid (show PthV w p (.agg #[.int .i64 p.flow, .slice a m c]) from ⟨a, m, c, rfl, hr, hi⟩)
    have hb := BoxL.new w [.int .i64 p.flow, .slice a m c] 58
    have HE0 := Lib.hid ((Ext.refl w).alloc (.cells #[.int .i64 p.flow, .slice a m c] 58))
    clear hp hr hi
    go_enter Tryz.func48, Tryz.ntmps48
    go_upto_region 1 with (fail)
    generalize w.alloc (.cells #[.int .i64 p.flow, .slice a m c] 58) = W1 at *
    have p0 := hb.cell 0 _ rfl
    have p1 := hb.cell 1 _ rfl
    clear hb
    go_wp2_with fail
    refine (rright12_any p hl W1 _ (HV.out.ext HE0.out)).mono ?_
    rw [HP.out]
    rintro e w2 ⟨rfl, hE2⟩
    have HE2 := Lib.hid (HE0.out.trans hE2)
    clear hE2
    go_wp2
    go_ret
    exact ⟨by rw [HX.out]; rfl, HE2.out⟩
end Go.Proofs.YtbciamploeejiaaGreatDoor

namespace Fm
open Go Go.RowKit

/-- One step, as the reference reads it, and where it then stands. -/
def rdNm (s : List UInt8) (i : Nat) : List UInt8 := (s.drop (i + 1)).takeWhile nmC
def rdEnd (s : List UInt8) (i : Nat) : Nat := i + 1 + (rdNm s i).length
def rdBr (s : List UInt8) (i : Nat) : Prop := ∃ h : rdEnd s i < s.length, s[rdEnd s i] = 91
/-- Reading so far agrees with whatever path the text is. -/
def RdOk (s : List UInt8) (i : Nat) (l : List Stp) : Prop := ∀ p, parseP s = some p → ∃ j, j ≤ p.steps.length ∧ l = p.steps.take j ∧ i = posP p j
theorem tw_len (f : UInt8 → Bool) (l : List UInt8) : (l.takeWhile f).length ≤ l.length := (List.takeWhile_sublist f).length_le
theorem rdNm_len (s : List UInt8) (i : Nat) : (rdNm s i).length ≤ s.length := by
  have := tw_len nmC (s.drop (i + 1))
  unfold rdNm
  rw [List.length_drop] at this; omega
/-- The name's end, found letter by letter. -/
theorem rd_more {s : List UInt8} {i k : Nat} (h : ((s.drop (i + 1)).take k).all nmC = true) (hk : i + 1 + k < s.length) (hx : nmC s[i + 1 + k] = true) : ((s.drop (i + 1)).take (k + 1)).all nmC = true := by
  have hl : k < (s.drop (i + 1)).length := by rw [List.length_drop]; omega
  rw [List.take_succ_eq_append_getElem hl, List.all_append, h, List.getElem_drop]
  simp [hx]
theorem tw_at : ∀ (l : List UInt8) (k : Nat), (l.take k).all nmC = true → k ≤ l.length → (∀ h : k < l.length, nmC l[k] = false) → l.takeWhile nmC = l.take k
  | [], k, _, _, _ => by simp
  | c :: l, 0, _, _, h => by
    have := h (by simp)
    simp only [List.getElem_cons_zero] at this
    rw [List.takeWhile_cons, this]; rfl
  | c :: l, k + 1, h1, h2, h3 => by
    rw [List.take_succ_cons, List.all_cons, Bool.and_eq_true] at h1
    rw [List.takeWhile_cons, h1.1, if_pos rfl, List.take_succ_cons, tw_at l k h1.2 (by simpa using h2) (fun h => by have := h3 (by simpa using h); simpa using this)]
theorem rd_stop {s : List UInt8} {i k : Nat} (h : ((s.drop (i + 1)).take k).all nmC = true) (hk : i + 1 + k ≤ s.length) (hx : ∀ h : i + 1 + k < s.length, nmC s[i + 1 + k] = false) : rdNm s i = (s.drop (i + 1)).take k ∧ rdEnd s i = i + 1 + k := by
  have hl : k ≤ (s.drop (i + 1)).length := by rw [List.length_drop]; omega
  have e := tw_at (s.drop (i + 1)) k h hl (fun h' => by rw [List.getElem_drop]; exact hx (by rw [List.length_drop] at h'; omega))
  refine ⟨e, ?_⟩
  unfold rdEnd rdNm
  rw [e, List.length_take]; omega
theorem rd_slash {s : List UInt8} {i : Nat} {l : List Stp} (h : RdOk s i l) (hi : i < s.length) : ∀ p, parseP s = some p → ∃ j, ∃ hj : j < p.steps.length, l = p.steps.take j ∧ i = posP p j ∧ s.drop i = 47 :: (p.steps[j].name ++ (placeS p.steps[j].place ++ stepsS (p.steps.drop (j + 1)))) ∧ nameB p.steps[j].name = true ∧ (p.steps[j].place = -1 ∨ (0 ≤ p.steps[j].place ∧ p.steps[j].place ≤ 999999)) := by
  intro p hp
  obtain ⟨j, hj, h1, h2⟩ := h p hp
  obtain ⟨hb, hs, _⟩ := parseP_iff.1 hp
  by_cases hlt : j < p.steps.length
  · have hx := (pthB_iff.1 hb).2 _ (List.getElem_mem hlt)
    obtain ⟨hx1, hx2⟩ := stpB_iff.1 hx
    refine ⟨j, hlt, h1, h2, ?_, hx1, hx2⟩
    rw [h2, ← hs, pthS_drop, stepsS_at _ hlt]
    unfold stpS
    simp
  · have := posP_end p (j := j) (by omega)
    rw [hs] at this
    omega
theorem drop_drop' {s a b : List UInt8} {i : Nat} (h : s.drop i = a ++ b) : s.drop (i + a.length) = b := by
  rw [← List.drop_drop, h, List.drop_left]
theorem drop_one {s b : List UInt8} {c : UInt8} {i : Nat} (h : s.drop i = c :: b) : s.drop (i + 1) = b := drop_drop' (a := [c]) h
theorem drop_at {s b : List UInt8} {c : UInt8} {i : Nat} (h : s.drop i = c :: b) : ∃ h : i < s.length, s[i] = c := by
  have hl : i < s.length := by
    apply Classical.byContradiction
    intro hn
    rw [List.drop_eq_nil_of_le (by omega)] at h
    cases h
  refine ⟨hl, ?_⟩
  rw [List.drop_eq_getElem_cons hl] at h
  injection h
theorem rd_parts {s : List UInt8} {i : Nat} {l : List Stp} (h : RdOk s i l) (hi : i < s.length) : ∀ p, parseP s = some p → ∃ j, ∃ hj : j < p.steps.length, l = p.steps.take j ∧ i = posP p j ∧ rdNm s i = p.steps[j].name ∧ s.drop (rdEnd s i) = placeS p.steps[j].place ++ stepsS (p.steps.drop (j + 1)) ∧ (p.steps[j].place = -1 ∨ (0 ≤ p.steps[j].place ∧ p.steps[j].place ≤ 999999)) := by
  intro p hp
  obtain ⟨j, hj, h1, h2, h3, h4, h5⟩ := rd_slash h hi p hp
  have h6 := drop_one h3
  have hn : rdNm s i = p.steps[j].name := by
    unfold rdNm
    rw [h6]
    exact takeWhile_name (nameB_nm h4) (rest_head _ _)
  refine ⟨j, hj, h1, h2, hn, ?_, h5⟩
  unfold rdEnd
  rw [hn]
  exact drop_drop' h6
theorem stpS_len1 (x : Stp) : (stpS x).length = 1 + x.name.length + (placeS x.place).length := by unfold stpS; simp; omega
theorem rd_plain {s : List UInt8} {i : Nat} {l : List Stp} (h : RdOk s i l) (hi : i < s.length) (hb : ¬ rdBr s i) : RdOk s (rdEnd s i) (l ++ [⟨rdNm s i, -1⟩]) := by
  intro p hp
  obtain ⟨j, hj, h1, h2, h3, h4, h5⟩ := rd_parts h hi p hp
  have hpl : p.steps[j].place = -1 := by
    apply Classical.byContradiction
    intro hn
    apply hb
    unfold placeS at h4
    rw [if_neg hn] at h4
    exact drop_at (List.cons_append ▸ h4)
  refine ⟨j + 1, hj, ?_, ?_⟩
  · rw [List.take_succ_eq_append_getElem hj, h1, h3]
    congr 2
    rw [← hpl]
  · rw [posP_succ p hj, stpS_len1, hpl, ← h2]
    unfold rdEnd
    rw [h3]
    simp [placeS]
    omega
theorem rd_place {s : List UInt8} {i : Nat} {l : List Stp} (h : RdOk s i l) (hi : i < s.length) (hb : rdBr s i) :
    RdOk s (rdEnd s i + (rnum 7 0 (s.drop (rdEnd s i + 1))).2 + 2) (l ++ [⟨rdNm s i, (rnum 7 0 (s.drop (rdEnd s i + 1))).1⟩]) := by
  intro p hp
  obtain ⟨j, hj, h1, h2, h3, h4, h5⟩ := rd_parts h hi p hp
  have hpl : p.steps[j].place ≠ -1 := by
    intro hn
    obtain ⟨b1, b2⟩ := hb
    unfold placeS at h4
    rw [if_pos hn, List.nil_append] at h4
    have := stepsS_head (p.steps.drop (j + 1)) 91 (by rw [← h4, List.drop_eq_getElem_cons b1, b2]; rfl)
    cases this
  have h5 : 0 ≤ p.steps[j].place ∧ p.steps[j].place ≤ 999999 := by
    rcases h5 with h | h
    · exact absurd h hpl
    · exact h
  have hq : placeS p.steps[j].place = 91 :: (Lib.itoa p.steps[j].place ++ [93]) := by unfold placeS; rw [if_neg hpl]
  rw [hq, List.cons_append, List.append_assoc] at h4
  have h6 := drop_one h4
  have hr : rnum 7 0 (s.drop (rdEnd s i + 1)) = (p.steps[j].place, (Lib.itoa p.steps[j].place).length) := by
    rw [h6]
    exact rnum_itoa h5 _ (fun c hc => by simp at hc; subst hc; decide)
  rw [hr]
  refine ⟨j + 1, hj, ?_, ?_⟩
  · rw [List.take_succ_eq_append_getElem hj, h1, h3]
  · rw [posP_succ p hj, stpS_len1, hq, ← h2]
    unfold rdEnd
    rw [h3]
    simp only [List.length_cons, List.length_append, List.length_nil]
    omega
/-- The beginning. -/
theorem rd_zero {s : List UInt8} : RdOk s (rnum 7 0 s).2 [] ∧ ∀ p, parseP s = some p → (rnum 7 0 s).1 = p.flow := by
  have key : ∀ p, parseP s = some p → rnum 7 0 s = (p.flow, (Lib.itoa p.flow).length) := by
    intro p hp
    obtain ⟨hb, hs, _⟩ := parseP_iff.1 hp
    rw [← hs]
    unfold pthS
    exact rnum_itoa (pthB_iff.1 hb).1 _ (stepsS_dig _)
  refine ⟨fun p hp => ⟨0, by omega, by simp, by rw [key p hp, posP_zero]⟩, fun p hp => by rw [key p hp]⟩
/-- The end: where no slash stands, all steps are read. -/
theorem rd_done {s : List UInt8} {i : Nat} {l : List Stp} (h : RdOk s i l) (he : ∀ hi : i < s.length, s[i] ≠ 47) : ∀ p, parseP s = some p → l = p.steps := by
  intro p hp
  obtain ⟨j, hj, h1, h2⟩ := h p hp
  obtain ⟨hb, hs, _⟩ := parseP_iff.1 hp
  by_cases hlt : j < p.steps.length
  · exfalso
    have h3 : s.drop i = 47 :: (p.steps[j].name ++ placeS p.steps[j].place ++ stepsS (p.steps.drop (j + 1))) := by
      rw [h2, ← hs, pthS_drop, stepsS_at _ hlt]
      rfl
    obtain ⟨h4, h5⟩ := drop_at h3
    exact he h4 h5
  · rw [h1, List.take_of_length_le (by omega)]
theorem rd_parse {s : List UInt8} {i : Nat} {l : List Stp} (h : RdOk s i l) (he : ∀ hi : i < s.length, s[i] ≠ 47) (hs : s.length ≤ 400) :
    parseP s = if showP ⟨(rnum 7 0 s).1, l⟩ = s ∧ s ≠ [] then some ⟨(rnum 7 0 s).1, l⟩ else none := by
  by_cases hc : showP ⟨(rnum 7 0 s).1, l⟩ = s ∧ s ≠ []
  · rw [if_pos hc]
    obtain ⟨h1, h2⟩ := hc
    cases hb : pthB ⟨(rnum 7 0 s).1, l⟩ with
    | false => rw [showP_wrong hb] at h1; exact absurd h1.symm h2
    | true => rw [showP_right hb] at h1; exact parseP_iff.2 ⟨hb, h1, hs⟩
  · rw [if_neg hc]
    cases hp : parseP s with
    | none => rfl
    | some p =>
      exfalso
      apply hc
      obtain ⟨hb, hs2, _⟩ := parseP_iff.1 hp
      have e : (⟨(rnum 7 0 s).1, l⟩ : Pth) = p := by rw [rd_zero.2 p hp, rd_done h he p hp]
      rw [e, showP_right hb]
      refine ⟨hs2, ?_⟩
      rw [← hs2]
      exact pthS_ne p
end Fm
