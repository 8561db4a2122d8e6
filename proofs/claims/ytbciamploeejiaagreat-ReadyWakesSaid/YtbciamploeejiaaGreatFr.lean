/- Walks of the laws: nodes out of numbers (Forest). -/
import Derived.Test.YtbciamploeejiaaGreatTake
import Derived.Test.YtbciamploeejiaaGreatIdC
import Derived.Test.YtbciamploeejiaaGreatPlQ
import Derived.RangeFuncBox
import Derived.Test.YtbciamploeejiaaGreatPlO
import Derived.Maps.OwnSet
import Derived.Maps.OwnOps
import Derived.Maps.Views
import Derived.StringKeys
import Derived.DeepKeys4
import Derived.Test.YtbciamploeejiaaGreatProg
import Derived.Carry
import Derived.Shelf.Sort.Plain
import Derived.Shelf.Slices.In.SortNone
import Derived.Shelf.Slices.CompactI
import Derived.Shelf.Slices.Turned
import Derived.Shelf.SlicesE.Clone
import Derived.Shelf.SlicesE.DeleteFunc
import Derived.Lib.OwnBridge
import Derived.Deep.RegionLaw
import Derived.Deep.RegionHeld3
import Derived.BigRegion
open Go.RowKit Go.Shelf
namespace Go.Proofs.YtbciamploeejiaaGreat
open Go Go.Proofs Fm

theorem inforank : (Tryz.prog.info? 56).map (fun i => (i.zero, i.size, i.bytes)) = some (some (.agg #[.int .i64 0, .int .i64 0, .int .i64 0, .string { data := #[] }]), 4, 40) := by kernel_rfl
theorem elemrank : ElemOf Tryz.prog 52 56 (.agg #[.int .i64 0, .int .i64 0, .int .i64 0, .string { data := #[] }]) 4 40 := ⟨Tryz.underlying52, inforank, rfl, by decide⟩
theorem rk_assert (x : Value) (w : World) : (Instr.typeAssert (.iface 56 x) 20 56 false).run Tryz.prog w = .ok x w := by kernel_rfl
set_option maxRecDepth 100000 in
set_option maxHeartbeats 4000000 in
theorem qpush_any {base n B : Nat} {v : Value} {a : Nat → Rk} (w0 w : World) (hE0 : Ext w0 w) (hb : w0.heap.size ≤ base) (hbw : base ≤ w.heap.size) (hq : HpQ 56 base w B v a n) (r : Rk) (hn : n < 100000) :
    Calls Tryz.prog 74 #[.pointer (some ⟨B, 0, none⟩), .iface 56 (rkV r)] w fun e' w' => e' = .returned (.tuple #[]) ∧ ∃ v', HpQ 56 base w' B v' (updA a n r) (n + 1) ∧ Ext w0 w' := by
  obtain ⟨m, c, rfl⟩ : ∃ m c, v = .slice m n c := by
    rcases hq.row.2 with ⟨e1, e2⟩ | ⟨g, cap, cur, e1, _⟩
    · exact ⟨none, 0, by rw [e1, e2]⟩
    · exact ⟨_, _, e1⟩
  have HQ := Lib.hid hq
  have HE0 := Lib.hid hE0
  have HBW := Lib.hid hbw
  have HB0 := Lib.hid hb
  have hc := hq.box.cell 0 _ rfl
  have hBl := hq.box.lt
  have hfr := hq.box.free 0
  have hta := rk_assert
  clear hq hb hbw hE0
  go_enter Tryz.func74, Tryz.ntmps74
  unfold rkV
  refine wp_region_held_drew (S := fun _ => True) (by kernel_rfl) trivial (fun hHeld => ?_)
  refine take_w 0 (some 4) (v := ?_) (by kernel_rfl) (by kernel_rfl) (by kernel_rfl) (by kernel_rfl) (by kernel_rfl) (fun _ _ _ h => h) (by rfl) ?_ (by assumption) ?_
  rotate_left
  · (intro w hSw; go_simp; try with_reducible rfl)
  try simp only [Act.put, List.setIfInBounds_toArray, List.set_cons_zero, List.set_cons_succ]
  refine take_w 1 (some 5) (v := ?_) (by kernel_rfl) (by kernel_rfl) (by kernel_rfl) (by kernel_rfl) (by kernel_rfl) (fun _ _ _ h => h) (by rfl) ?_ (by assumption) ?_
  rotate_left
  · (intro w hSw; go_simp; try with_reducible rfl)
  try simp only [Act.put, List.setIfInBounds_toArray, List.set_cons_zero, List.set_cons_succ]
  refine take_w 2 (some 6) (v := ?_) (by kernel_rfl) (by kernel_rfl) (by kernel_rfl) (by kernel_rfl) (by kernel_rfl) (fun _ _ _ h => h) (by rfl) ?_ (by assumption) ?_
  rotate_left
  · (intro w hSw; go_simp; try with_reducible rfl)
  try simp only [Act.put, List.setIfInBounds_toArray, List.set_cons_zero, List.set_cons_succ]
  refine take_w 3 (some 7) (v := ?_) (by kernel_rfl) (by kernel_rfl) (by kernel_rfl) (by kernel_rfl) (by kernel_rfl) (fun _ _ _ h => h) (by rfl) ?_ (by assumption) ?_
  rotate_left
  · (intro w hSw; go_simp; try with_reducible rfl)
  try simp only [Act.put, List.setIfInBounds_toArray, List.set_cons_zero, List.set_cons_succ]
  refine take_w 5 (some 9) (v := ?_) (by kernel_rfl) (by kernel_rfl) (by kernel_rfl) (by kernel_rfl) (by kernel_rfl) (fun _ _ _ h => h) (by rfl) ?_ (by assumption) ?_
  rotate_left
  · (intro w hSw; go_simp; try with_reducible rfl)
  try simp only [Act.put, List.setIfInBounds_toArray, List.set_cons_zero, List.set_cons_succ]
  refine take_w 6 (some 10) (v := ?_) (by kernel_rfl) (by kernel_rfl) (by kernel_rfl) (by kernel_rfl) (by kernel_rfl) (fun _ _ _ h => h) (by rfl) ?_ (by assumption) ?_
  rotate_left
  · (intro w hSw; go_simp; try with_reducible rfl)
  try simp only [Act.put, List.setIfInBounds_toArray, List.set_cons_zero, List.set_cons_succ]
  refine ready_two 4 7 (by kernel_rfl) (by kernel_rfl) (by kernel_rfl) (by rfl) (by rfl) (fun Kc hKc => ?_) (fun Kc hKc => ?_)
  case' refine_1 =>
    go_simp
    refine hKc.out _ _ trivial (fun _ => ?_)
    clear hKc Kc
    try simp only [Act.put, List.setIfInBounds_toArray, List.set_cons_zero, List.set_cons_succ]
    refine ready_one 7 (by kernel_rfl) (by kernel_rfl) (by rfl) (fun Kc hKc => ?_)
    go_simp
    refine hKc.out _ _ trivial (fun _ => ?_)
    clear hKc Kc
  case' refine_2 =>
    go_simp
    refine hKc.out _ _ trivial (fun _ => ?_)
    clear hKc Kc
    try simp only [Act.put, List.setIfInBounds_toArray, List.set_cons_zero, List.set_cons_succ]
    refine ready_one 4 (by kernel_rfl) (by kernel_rfl) (by rfl) (fun Kc hKc => ?_)
    go_simp
    refine hKc.out _ _ trivial (fun _ => ?_)
    clear hKc Kc
  all_goals
    try simp only [Act.put, List.setIfInBounds_toArray, List.set_cons_zero, List.set_cons_succ]
    have hE1 : Ext w ((w.alloc (.cells #[.int .i64 r.fails, .int .i64 r.up, .int .i64 r.place, .string (str r.id)] 56)).drew) := ((Ext.refl w).alloc _).drew
    have hQ1 := HQ.out.ext hE1
    have hRg : ((w.alloc (.cells #[.int .i64 r.fails, .int .i64 r.up, .int .i64 r.place, .string (str r.id)] 56)).drew).rangeAt w.heap.size 0 (rkC r) := (World.rangeAt_drew _ _ _ _).2 (rangeAt_new w (rkC r) 56)
    have hz1 := hE1.size
    generalize (w.alloc (.cells #[.int .i64 r.fails, .int .i64 r.up, .int .i64 r.place, .string (str r.id)] 56)).drew = W1 at *
    generalize w.heap.size = z at *
    have hsrc : Src Tryz.prog 4 52 (.slice (some ⟨z, 0, none⟩) 1 1) 1 (rkC r) W1 := Src.ofSlice W1 Tryz.underlying52 _ _ _ _ (by simp [rkC]) (fun j u hu => by rw [Addr.add_lit]; exact hRg j u hu) (rkC_one r)
    refine ready_one 8 (by kernel_rfl) (by kernel_rfl) (by rfl) (fun Kc hKc => ?_)
    refine wp_appendS (.tmp 8) (.tmp 11) 52 (by rfl) elemrank base (.slice m n c) n (cellsA a n) (by rfl) hQ1.row _ 1 (rkC r) (by rfl) hsrc (by unfold maxLen; omega) (by omega) (by have := HBW.out; omega) ?_
    intro A C w5 hown hg hat
    refine hKc.out _ _ trivial (fun _ => ?_)
    clear hKc Kc
    have hne5 : (Value.slice A (n + 1) C).ownBlock ≠ some B := by
      rcases hat with h | h
      · rw [h]; exact HQ.out.apart
      · rw [h]; intro e; injection e with e; omega
    have hB5 : BoxL w5 B [.slice m n c] := hQ1.box.kept hg HQ.out.apart
    have hc5 := hB5.cell 0 _ rfl
    have hf5 := hB5.free 0
    have HF : Hid (HpQ 56 base (w5.setCell ⟨B, 0, none⟩ (.slice A (n + 1) C)) B (.slice A (n + 1) C) (updA a n r) (n + 1) ∧ Ext w0 (w5.setCell ⟨B, 0, none⟩ (.slice A (n + 1) C))) := Lib.hid ⟨⟨hB5.set 0 (by simp) _, (RkRow.more hown).kept (setOne_grown w5 B 0 _) (.inr hne5), hne5, HQ.out.low⟩,
      (((HE0.out.trans hE1).grown hg (fun k hk => Nat.le_trans HB0.out (World.ownsRow.lt hQ1.row k hk).1)).setCell (p := ⟨B, 0, none⟩) (Nat.le_trans HB0.out HQ.out.low) _)⟩
    clear hown hg hat hne5 hB5 hsrc hRg hQ1 hE1 HQ hc hfr
    try simp only [Act.put, List.setIfInBounds_toArray]
    refine take_w 9 (some 13) (v := ?_) (by kernel_rfl) (by kernel_rfl) (by kernel_rfl) (by kernel_rfl) (by kernel_rfl) (fun _ _ _ h => h) (by rfl) ?_ (by assumption) ?_
    rotate_left
    · (intro w hSw; go_simp; try with_reducible rfl)
    try simp only [Act.put]
    refine take_w 10 (some 14) (v := ?_) (by kernel_rfl) (by kernel_rfl) (by kernel_rfl) (by kernel_rfl) (by kernel_rfl) (fun _ _ _ h => h) (by rfl) ?_ (by assumption) ?_
    rotate_left
    · (intro w hSw; go_simp; try with_reducible rfl)
    try simp only [Act.put]
    refine ready_one 11 (by kernel_rfl) (by kernel_rfl) (by rfl) (fun Kc hKc => ?_)
    go_simp
    refine hKc.out _ _ trivial (fun _ => ?_)
    clear hKc Kc
    try simp only [Act.put, List.setIfInBounds_toArray, List.set_cons_zero, List.set_cons_succ]
    refine wpAnyH_done (by kernel_rfl) ?_ _
    go_end0
    exact ⟨rfl, _, HF.out.1, HF.out.2⟩
set_option maxRecDepth 100000 in
set_option maxHeartbeats 4000000 in
theorem push_heap {base n B : Nat} {v : Value} {a : Nat → Rk} (w0 w : World) (hw : KW w0) (hE0 : Ext w0 w) (hb : w0.heap.size ≤ base) (hbw : base ≤ w.heap.size) (hq : HpQ 56 base w B v a n) (hf : FitA a n) (r : Rk) (hr : FitR r) (hn : n < 100000) :
    Calls Tryz.prog 30 #[.iface 48 (.pointer (some ⟨B, 0, none⟩)), .iface 56 (rkV r)] w fun e' w' => e' = .returned (.tuple #[]) ∧ ∃ v', HpQ 56 base w' B v' (upF ltR (updA a n r) n) (n + 1) ∧ Ext w0 w' := by
  have HC := Lib.hid (qpush_any w0 w hE0 hb hbw hq r hn)
  have HW := Lib.hid hw
  have HB0 := Lib.hid hb
  have HF := Lib.hid (hf.upd hr)
  have n1 := nil_push ⟨B, 0, none⟩
  have m1 := meth_push ⟨B, 0, none⟩
  have n2 := nil_len ⟨B, 0, none⟩
  clear hq hw hE0 hb hbw hf
  go_enter Tryz.func30, Tryz.ntmps30
  go_wp2_with fail
  refine HC.out.mono ?_
  rintro e' w1 ⟨rfl, v', hq1, hE1⟩
  obtain ⟨g, cap, rfl, -, -⟩ := hq1.row.form (by omega)
  have m2 := meth_len B w1 _ (hq1.box.cell 0 _ rfl)
  have HQ1 := Lib.hid hq1
  have HE1 := Lib.hid hE1
  clear hq1 hE1 m1 n1
  go_wp2_with fail
  refine (rowlen_any _ _ _ w1).mono ?_
  rintro e' w2 ⟨rfl, rfl⟩
  have hx : ((n + 1 : Nat) : Int) - 1 = (n : Int) := by omega
  go_wp2_with fail
  refine (up_heap w0 w1 HW.out HE1.out HB0.out HQ1.out HF.out n (by omega) (by omega)).mono ?_
  rintro e' w2 ⟨rfl, hq2, -, hE2⟩
  have HQ2 := Lib.hid hq2
  have HE2 := Lib.hid hE2
  clear hq2 hE2
  go_wp2
  go_end0
  exact ⟨rfl, _, HQ2.out, HE2.out⟩
theorem sizeof_rank : ∀ w, (sizeOf (Tryz.prog.elem 52)).run Tryz.prog w = .ok 4 w := fun _ => by kernel_rfl
theorem slice_rank_to (a : Option Addr) (len cap k : Nat) (h1 : k ≤ cap) (w : World) :
    (Instr.slice 52 (.slice a len cap) none (some (.int .i64 (k : Int))) none).run Tryz.prog w = .ok (.slice a k cap) w := by
  rw [run_slice_h (ht := by kernel_rfl) (h0 := by omega) (h2 := by omega), sizeof_rank]
  cases a <;> simp [Result.andThen, sliced, Addr.add]
set_option maxRecDepth 100000 in
set_option maxHeartbeats 4000000 in
theorem qpop_any {base g cap n B : Nat} {a : Nat → Rk} (w0 w : World) (hE0 : Ext w0 w) (hb : w0.heap.size ≤ base) (hq : HpQ 56 base w B (.slice (some ⟨g, 0, none⟩) (n + 1) cap) a (n + 1)) (hn : n < 100000) (hcap : n ≤ cap) :
    Calls Tryz.prog 73 #[.pointer (some ⟨B, 0, none⟩)] w fun e' w' => e' = .returned (.iface 56 (rkV (a n))) ∧ HpQ 56 base w' B (.slice (some ⟨g, 0, none⟩) n cap) a n ∧ Far2 B g w w' ∧ Ext w0 w' := by
  have h1 := hq.row.at (i := n) (by omega)
  have hgl := World.ownsRow.lt hq.row g rfl
  obtain ⟨x, hx⟩ : ∃ x, x = a n := ⟨_, rfl⟩
  have HA := Lib.hid hx
  rw [← hx] at h1 ⊢
  have c0 : w.cell? ⟨g, n * 4, none⟩ = some (.int .i64 x.fails) := h1 0 _ rfl
  have c1 : w.cell? ⟨g, n * 4 + 1, none⟩ = some (.int .i64 x.up) := h1 1 _ rfl
  have c2 : w.cell? ⟨g, n * 4 + 2, none⟩ = some (.int .i64 x.place) := h1 2 _ rfl
  have c3 : w.cell? ⟨g, n * 4 + 3, none⟩ = some (.string (str x.id)) := h1 3 _ rfl
  have hc := hq.box.cell 0 _ rfl
  have hf := hq.box.free 0
  have hBl := hq.box.lt
  have hxx : ((n + 1 : Nat) : Int) - 1 = (n : Int) := by omega
  have HQ := Lib.hid hq
  have HE0 := Lib.hid hE0
  have HB0 := Lib.hid hb
  have hs := slice_rank_to (some ⟨g, 0, none⟩) (n + 1) cap n hcap
  clear h1 hx hq hE0 hb
  go_enter Tryz.func73, Tryz.ntmps73
  go_upto_region 3 with (fail)
  have hb1 := BoxL.new w [.int .i64 x.fails, .int .i64 x.up, .int .i64 x.place, .string (str x.id)] 56
  have hE1 : Ext w (w.alloc (.cells #[.int .i64 x.fails, .int .i64 x.up, .int .i64 x.place, .string (str x.id)] 56)) := (Ext.refl w).alloc _
  have hQ1 := HQ.out.ext hE1
  have hF1 : Far2 B g w (w.alloc (.cells #[.int .i64 x.fails, .int .i64 x.up, .int .i64 x.place, .string (str x.id)] 56)) := Far2.of hE1.grownBy (.inr (.inr rfl))
  have hz : w.heap.size ≠ B := by omega
  generalize w.alloc (.cells #[.int .i64 x.fails, .int .i64 x.up, .int .i64 x.place, .string (str x.id)] 56) = W1 at *
  have hc := hQ1.box.cell 0 _ rfl
  have hf := hQ1.box.free 0
  have k0 := hb1.cell 0 _ rfl
  have k1 := hb1.cell 1 _ rfl
  have k2 := hb1.cell 2 _ rfl
  have k3 := hb1.cell 3 _ rfl
  have hz2 : ¬ B = w.heap.size := fun h => hz h.symm
  have hp := hQ1.row.pop
  have hne : (Value.slice (some ⟨g, 0, none⟩) n cap).ownBlock ≠ some B := HQ.out.apart
  have HF : Hid (HpQ 56 base (W1.setCell ⟨B, 0, none⟩ (.slice (some ⟨g, 0, none⟩) n cap)) B (.slice (some ⟨g, 0, none⟩) n cap) a n ∧ Far2 B g w (W1.setCell ⟨B, 0, none⟩ (.slice (some ⟨g, 0, none⟩) n cap)) ∧ Ext w0 (W1.setCell ⟨B, 0, none⟩ (.slice (some ⟨g, 0, none⟩) n cap))) := Lib.hid
    ⟨⟨hQ1.box.set 0 (by simp) _, hp.kept (setOne_grown W1 B 0 _) (.inr hne), hne, HQ.out.low⟩, hF1.trans (Far2.of (setOne_grown W1 B 0 _) (.inl rfl)), (HE0.out.trans hE1).setCell (p := ⟨B, 0, none⟩) (Nat.le_trans HB0.out HQ.out.low) _⟩
  clear hQ1 hF1 hE1 hp hb1 hne c0 c1 c2 c3
  go_wp2
  go_ret
  exact ⟨rfl, HF.out⟩
set_option maxRecDepth 100000 in
set_option maxHeartbeats 4000000 in
theorem pop_heap {base g cap n B : Nat} {a : Nat → Rk} (w0 w : World) (hw : KW w0) (hE0 : Ext w0 w) (hb : w0.heap.size ≤ base) (hq : HpQ 56 base w B (.slice (some ⟨g, 0, none⟩) (n + 1) cap) a (n + 1)) (hf : FitA a (n + 1)) (hn : n < 100000) (hcap : n ≤ cap) :
    Calls Tryz.prog 25 #[.iface 48 (.pointer (some ⟨B, 0, none⟩))] w fun e' w' => e' = .returned (.iface 56 (rkV (a 0))) ∧ HpQ 56 base w' B (.slice (some ⟨g, 0, none⟩) n cap) (downF ltR n (swp a 0 n) 0) n ∧ Far2 B g w w' ∧ Ext w0 w' := by
  have hout : downF ltR n (swp a 0 n) 0 n = a 0 := by rw [(downF_same ltR n 0 (swp a 0 n) (by omega)).out n (Nat.le_refl _), swp_r]
  have hgb := (World.ownsRow.lt hq.row g rfl).1
  have HG := Lib.hid (show w0.heap.size ≤ g by omega)
  have HO := Lib.hid hout
  have HQ := Lib.hid hq
  have HE0 := Lib.hid hE0
  have HB0 := Lib.hid hb
  have HW := Lib.hid hw
  have HF := Lib.hid (hf.swp (i := 0) (j := n) (by omega) (by omega))
  have n1 := nil_len ⟨B, 0, none⟩
  have n2 := nil_swap ⟨B, 0, none⟩
  have n3 := nil_pop ⟨B, 0, none⟩
  have m3 := meth_pop ⟨B, 0, none⟩
  have m1 := meth_len B w _ (hq.box.cell 0 _ rfl)
  have m2 := meth_swap B w _ (hq.box.cell 0 _ rfl)
  have hxx : ((n + 1 : Nat) : Int) - 1 = (n : Int) := by omega
  have HS := Lib.hid (rowswap_any w hq 0 n (by omega) (by omega))
  clear hout hq hE0 hb hw hf hgb
  go_enter Tryz.func25, Tryz.ntmps25
  go_wp2_with fail
  refine (rowlen_any _ _ _ w).mono ?_
  rintro e' w2 ⟨rfl, rfl⟩
  go_wp2_with fail
  refine HS.out.mono ?_
  rintro e' w1 ⟨rfl, hq1, hg1⟩
  have HQ1 := Lib.hid hq1
  have HF1 := Lib.hid (show Far2 B g w w1 from Far2.of hg1 (.inr (.inl rfl)))
  have HE1 := Lib.hid (show Ext w0 w1 from HE0.out.grown hg1 (fun q e => by cases e; exact HG.out))
  clear hq1 hg1 m1 m2 n1 n2
  go_wp2_with fail
  refine (down_heap (N := n + 1) (n := n) w0 w1 HW.out HE1.out HB0.out HQ1.out HF.out (by omega) (by omega) (by omega)).mono ?_
  rintro e' w2 ⟨⟨v, rfl⟩, hq2, hF2, hE2⟩
  have HP := Lib.hid (qpop_any w0 w2 hE2 HB0.out hq2 hn hcap)
  have HF2 := Lib.hid (HF1.out.trans hF2)
  clear hq2 hF2 hE2
  go_wp2_with fail
  refine HP.out.mono ?_
  rintro e' w3 ⟨rfl, hq3, hF3, hE3⟩
  have HQ3 := Lib.hid hq3
  have HE3 := Lib.hid hE3
  have HF3 := Lib.hid (HF2.out.trans hF3)
  clear hq3 hF3 hE3
  go_wp2
  go_ret
  exact ⟨by rw [← HO.out]; rfl, HQ3.out, HF3.out, HE3.out⟩
end Go.Proofs.YtbciamploeejiaaGreat

open Go.RowKit Go.Shelf
namespace Go.Proofs.YtbciamploeejiaaGreat
open Go Go.Proofs Fm
attribute [local go_sem] Oper.semAt_some

/-- Places as numbers. -/
def natsI (l : List Nat) : List Int := l.map (fun (o : Nat) => (o : Int))
/-- The rounds of AppendSeq. -/
def CRnd (w : World) (pre : List Nat) (W : World) : Prop := (∃ v, Boxed W w.heap.size 22 v ∧ W.ownsRow w.heap.size 3 1 v (natsI pre).length ((natsI pre).map (Value.int .i64)) ∧ (fun (_ : List Nat) (_ : Value) => True) pre v) ∧ Below w.heap.size w W
theorem CRnd.own (w : World) (B : Nat) (hB : w.heap.size ≤ B) : OwnFrom B (CRnd w) :=
  OwnFrom.and (Own.from (holdsRow_own w.heap.size w.heap.size 22 3 1 (fun pre => (natsI pre).length) (fun pre => (natsI pre).map (Value.int .i64)) (fun _ _ => True)) _) (ownFrom_below (Nat.le_refl _) hB)
end Go.Proofs.YtbciamploeejiaaGreat

namespace Go.Proofs.YtbciamploeejiaaGreat
open Go Go.Proofs Fm Go.RowKit

/-- A key's bytes. -/
def kb (f o : Int) (s : List UInt8) : List UInt8 := keyBytes [.int .i64 f, .int .i64 o, .string s]
end Go.Proofs.YtbciamploeejiaaGreat

open Go.RowKit Go.Shelf
namespace Fm
open Go Go.RowKit
/-- A node of a row, whole. -/
theorem nd_rangeC {w wr : World} {l : List Nd} {a : Option Addr} {n cap : Nat} (h : ndE.Row w l (.slice a n cap)) (hE : Ext w wr) (i : Nat) (hi : i < l.length) :
    ∃ (b off : Nat) (Cs : List Value) (aa : Option Addr) (ma ca : Nat) (k0 n0 : Int) (s0 : ByteArray) (a0 : Option Addr) (m0 c0 : Nat), a = some ⟨b, off, none⟩ ∧ b < w.heap.size ∧ Cs = ndCells l[i] (.slice aa ma ca) (.int .u8 k0) (.int .i64 n0) (.string s0) (.slice a0 m0 c0) ∧ wr.rangeAt b (off + i * 16) Cs ∧ NdV w l[i] (.agg Cs.toArray) ∧
      Cs.length = 16 ∧ (∀ u, u ∈ Cs → u.oneCell' = true) := by
  obtain ⟨g, off, rfl, hb, aa, ma, ca, K', N', S', D', ⟨c0, c1, c2, c3, c4, c5, c6, c7, c8, c9, c10, c11, c12, c13, c14, c15⟩, hnv⟩ := nd_at16 h hE i hi
  obtain ⟨k0, n0, s0, a0, m0, d0, rfl, rfl, rfl, rfl⟩ := hnv.four
  refine ⟨g, off, _, aa, ma, ca, k0, n0, s0, a0, m0, d0, rfl, hb, rfl, ?_, hnv, rfl, ?_⟩
  · intro j v hv
    match j, hv with
    | 0, hv => (injection hv with hv; rw [← hv]; exact c0)
    | 1, hv => (injection hv with hv; rw [← hv]; exact c1)
    | 2, hv => (injection hv with hv; rw [← hv]; exact c2)
    | 3, hv => (injection hv with hv; rw [← hv]; exact c3)
    | 4, hv => (injection hv with hv; rw [← hv]; exact c4)
    | 5, hv => (injection hv with hv; rw [← hv]; exact c5)
    | 6, hv => (injection hv with hv; rw [← hv]; exact c6)
    | 7, hv => (injection hv with hv; rw [← hv]; exact c7)
    | 8, hv => (injection hv with hv; rw [← hv]; exact c8)
    | 9, hv => (injection hv with hv; rw [← hv]; exact c9)
    | 10, hv => (injection hv with hv; rw [← hv]; exact c10)
    | 11, hv => (injection hv with hv; rw [← hv]; exact c11)
    | 12, hv => (injection hv with hv; rw [← hv]; exact c12)
    | 13, hv => (injection hv with hv; rw [← hv]; exact c13)
    | 14, hv => (injection hv with hv; rw [← hv]; exact c14)
    | 15, hv => (injection hv with hv; rw [← hv]; exact c15)
    | j + 16, hv => cases hv
  · intro u hu
    simp only [ndCells, List.mem_cons, List.not_mem_nil, or_false] at hu
    rcases hu with rfl | rfl | rfl | rfl | rfl | rfl | rfl | rfl | rfl | rfl | rfl | rfl | rfl | rfl | rfl | rfl <;> rfl
end Fm
namespace Go.Proofs.YtbciamploeejiaaGreat
open Go Go.Proofs Fm
attribute [local go_sem] Oper.semAt_some

theorem sizenode_C : (Tryz.prog.info? 32).map (·.size) = some 16 := by kernel_rfl
end Go.Proofs.YtbciamploeejiaaGreat

open Go.RowKit Go.Shelf
namespace Fm
open Go Go.RowKit
theorem deepF_rngR {nd : List Nd} (hO : RightO nd) (hl : nd.length ≤ 1000000) (ow : Int) : 0 ≤ deepF nd ow ∧ deepF nd ow ≤ 1000001 := by
  unfold deepF
  cases hp : placeF nd ow with
  | false => simp
  | true =>
    obtain ⟨h0, h1⟩ : 0 ≤ ow ∧ ow < nd.length := by unfold placeF at hp; simpa using hp
    have := chainO_len hO ow.toNat (by omega)
    rw [if_pos rfl]
    omega
end Fm
namespace Go.Proofs.YtbciamploeejiaaGreat
open Go Go.Proofs Fm

theorem rankF_at {l : List Nd} {i : Nat} (hi : i < l.length) : rankF l i = ⟨l[i].fails, -(deepF l (i : Int)), (i : Int), l[i].id⟩ := by unfold rankF; rw [nthF_at hi]
set_option maxRecDepth 100000 in
set_option maxHeartbeats 4000000 in
theorem ranked_any (l : List Nd) (hO : RightO l) (hl : l.length ≤ 1000000) (i : Nat) (hi : i < l.length) (w : World) (v : Value) (h : ndE.Row w l v) :
    Calls Tryz.prog 31 #[v, .int .i64 (i : Int)] w fun e w' => e = .returned (rkV (rankF l i)) ∧ Ext w w' := by
  obtain ⟨a, c, rfl, hc1, hc2⟩ := h.slice
  have HD := Lib.hid (fun X (hX : Ext w X) => deep_any l i hO X _ (h.ext hX))
  have hdr := deepF_rngR hO hl i
  have HX := Lib.hid (rankF_at hi)
  obtain ⟨b, off, rfl, hb, aa, ma, ca, kk, N, s, d, ⟨x0, -, -, -, -, -, -, -, -, -, x10, -⟩, hnv⟩ := nd_at16 h (Ext.refl w) i hi
  obtain ⟨fl, hfl⟩ : ∃ fl, fl = l[i].fails := ⟨_, rfl⟩
  obtain ⟨id, hid⟩ : ∃ id, id = l[i].id := ⟨_, rfl⟩
  rw [← hfl] at x10 HX
  rw [← hid] at x0 HX
  have hSC : ∀ X, Ext w X → (X.cell? ⟨b, off + i * 16, none⟩ = some (.string (str id)) ∧ X.cell? ⟨b, off + i * 16 + 10, none⟩ = some (.int .i64 fl)) := fun X hX => ⟨(hX.cell (p := ⟨b, off + i * 16, none⟩) hb).trans x0, (hX.cell (p := ⟨b, off + i * 16 + 10, none⟩) hb).trans x10⟩
  have hi0 : (0 : Int) ≤ (i : Int) := by omega
  have hi1 : (i : Int) < (l.length : Int) := by omega
  clear hfl hid hnv x0 x10 h
  go_enter Tryz.func31, Tryz.ntmps31
  go_upto_region 1 with (fail)
  have hB := BoxL.new w [.int .i64 0, .int .i64 0, .int .i64 0, .string { data := #[] }] 56
  have hE1 : Ext w (w.alloc (.cells #[.int .i64 0, .int .i64 0, .int .i64 0, .string { data := #[] }] 56)) := (Ext.refl w).alloc _
  have hz : b ≠ w.heap.size := by omega
  have hwB : w.heap.size ≤ w.heap.size := Nat.le_refl _
  have HE1 := Lib.hid hE1
  obtain ⟨W1, hW1⟩ : ∃ W1, W1 = w.alloc (.cells #[.int .i64 0, .int .i64 0, .int .i64 0, .string { data := #[] }] 56) := ⟨_, rfl⟩
  rw [← hW1] at hB HE1 ⊢
  obtain ⟨Bx, hBx⟩ : ∃ Bx, Bx = w.heap.size := ⟨_, rfl⟩
  rw [← hBx] at hB ⊢
  have HBx := Lib.hid (show w.heap.size ≤ Bx by omega)
  have HSC : Hid (∀ X, Ext W1 X → (X.cell? ⟨b, off + i * 16, none⟩ = some (.string (str id)) ∧ X.cell? ⟨b, off + i * 16 + 10, none⟩ = some (.int .i64 fl))) := Lib.hid (fun X hX => hSC X (HE1.out.trans hX))
  have hzb : b ≠ Bx := by omega
  have HB := Lib.hid hB
  have ED := Lib.hid (Ext.refl W1).drew
  clear hE1 hB hSC hW1 hBx hz hwB hb
  generalize deepF l (i : Int) = dp at *
  go_region_held3 (fun X => X.cell? ⟨b, off + i * 16, none⟩ = some (.string (str id)) ∧ X.cell? ⟨b, off + i * 16 + 10, none⟩ = some (.int .i64 fl))
    ((first | exact HSC.out _ ED.out | exact HSC.out _ E1.out | (refine ⟨?_, ?_⟩ <;> go_simp)))
    ((go_at_call 45; refine (HD.out _ (HE1.out.trans ED.out)).mono ?_; rintro e w4 ⟨rfl, hE4⟩; have E1 := Lib.hid (ED.out.trans hE4); clear hE4;
      have HB4 := HB.out.ext E1.out; have z0 := HB4.cell 0 _ rfl; have z1 := HB4.cell 1 _ rfl; have z2 := HB4.cell 2 _ rfl; have z3 := HB4.cell 3 _ rfl; have y0 := HB4.free 0; have y1 := HB4.free 1; have y2 := HB4.free 2; have y3 := HB4.free 3; have HS1 := HSC.out _ E1.out; obtain ⟨HS1, HS2⟩ := HS1; clear HB4))
  have hneg : IntKind.i64.wrap (-dp) = -dp := IntWalk.i64_in _ (by omega)
  rw [hneg]
  go_wp2
  exact bodyPost_ret (v := .agg #[.int .i64 fl, .int .i64 (-dp), .int .i64 (i : Int), .string (str id)]) (by simp [results, Tryz.results31, go_sem, z0, z1, z2, z3]) rfl ⟨by rw [HX.out]; rfl, ((((HE1.out.trans E1.out).setCell (p := ⟨Bx, 0, none⟩) HBx.out _).setCell (p := ⟨Bx, 1, none⟩) HBx.out _).setCell (p := ⟨Bx, 2, none⟩) HBx.out _).setCell (p := ⟨Bx, 3, none⟩) HBx.out _⟩
/-- Between two rounds of queued. -/
structure QSt (l : List Nd) (base : Nat) (B : Nat) (wr : World) (v : Value) (a : Nat → Rk) (n j : Nat) : Prop where
  hq : HpQ 56 base wr B v a n
  hp : Hp ltR a n
  mem : ∀ x, (∃ k, k < n ∧ a k = x) ↔ ∃ i, i < j ∧ readyB l i = true ∧ x = rankF l i
  inj : ∀ i k, i < n → k < n → a i = a k → i = k
  fit : FitA a n
theorem rankF_inj {l : List Nd} {i k : Nat} (h : rankF l i = rankF l k) : i = k := by
  have : (i : Int) = (k : Int) := congrArg Rk.place h
  omega
theorem QSt.skip {l : List Nd} {base B : Nat} {wr : World} {v : Value} {a : Nat → Rk} {n j : Nat} (h : QSt l base B wr v a n j) (hr : readyB l j = false) : QSt l base B wr v a n (j + 1) := by
  refine ⟨h.hq, h.hp, fun x => ?_, h.inj, h.fit⟩
  rw [h.mem x]
  constructor
  · rintro ⟨i, h1, h2, h3⟩; exact ⟨i, by omega, h2, h3⟩
  · rintro ⟨i, h1, h2, h3⟩
    refine ⟨i, ?_, h2, h3⟩
    by_cases e : i = j
    · subst e; rw [hr] at h2; cases h2
    · omega
theorem QSt.more {l : List Nd} {base B : Nat} {wr w' : World} {v v' : Value} {a : Nat → Rk} {n j : Nat} (h : QSt l base B wr v a n j) (hr : readyB l j = true) (hf : FitR (rankF l j))
    (hq : HpQ 56 base w' B v' (upF ltR (updA a n (rankF l j)) n) (n + 1)) : QSt l base B w' v' (upF ltR (updA a n (rankF l j)) n) (n + 1) (j + 1) := by
  have hs : Same (updA a n (rankF l j)) (upF ltR (updA a n (rankF l j)) n) (n + 1) := upF_same ltR n _ (by omega)
  have hm : ∀ x, (∃ k, k < n + 1 ∧ updA a n (rankF l j) k = x) ↔ ∃ i, i < j + 1 ∧ readyB l i = true ∧ x = rankF l i := fun x => by
    constructor
    · rintro ⟨k, hk, rfl⟩
      by_cases e : k = n
      · subst e; exact ⟨j, by omega, hr, updA_same _ _ _⟩
      · rw [updA_far _ e]
        obtain ⟨i, h1, h2, h3⟩ := (h.mem (a k)).1 ⟨k, by omega, rfl⟩
        exact ⟨i, by omega, h2, h3⟩
    · rintro ⟨i, h1, h2, rfl⟩
      by_cases e : i = j
      · subst e; exact ⟨n, by omega, updA_same _ _ _⟩
      · obtain ⟨k, hk, hk2⟩ := (h.mem (rankF l i)).2 ⟨i, by omega, h2, rfl⟩
        exact ⟨k, by omega, by rw [updA_far _ (by omega)]; exact hk2⟩
  refine ⟨hq, push_hp ltR_good (fun k hk1 hk2 => ?_), fun x => (hs.mem x).trans (hm x), hs.inj (fun i k hi hk e => ?_), (h.fit.upd hf).of hs⟩
  · rw [updA_far _ (by omega), updA_far _ (by omega)]
    exact h.hp k hk1 hk2
  · by_cases e1 : i = n
    · by_cases e2 : k = n
      · omega
      · exfalso
        rw [e1, updA_same, updA_far _ e2] at e
        obtain ⟨q, h1, h2, h3⟩ := (h.mem (a k)).1 ⟨k, by omega, rfl⟩
        have := rankF_inj (e.trans h3)
        omega
    · by_cases e2 : k = n
      · exfalso
        rw [e2, updA_same, updA_far _ e1] at e
        obtain ⟨q, h1, h2, h3⟩ := (h.mem (a i)).1 ⟨i, by omega, rfl⟩
        have := rankF_inj (e.symm.trans h3)
        omega
      · rw [updA_far _ e1, updA_far _ e2] at e
        exact h.inj i k (by omega) (by omega) e
theorem QSt.ext {l : List Nd} {base B : Nat} {wr w' : World} {v : Value} {a : Nat → Rk} {n j : Nat} (h : QSt l base B wr v a n j) (hE : Ext wr w') : QSt l base B w' v a n j := ⟨h.hq.ext hE, h.hp, h.mem, h.inj, h.fit⟩
set_option maxRecDepth 100000 in
set_option maxHeartbeats 4000000 in
theorem queued_any (l : List Nd) (hO : RightO l) (hl : l.length ≤ 1000) (hid : ∀ n, n ∈ l → IdOk n.id) (w : World) (hw : KW w) (v : Value) (h : ndE.Row w l v) :
    Calls Tryz.prog 23 #[v] w fun e w' => ∃ (B : Nat) (u : Value) (a : Nat → Rk) (n : Nat), e = .returned (.pointer (some ⟨B, 0, none⟩)) ∧ QSt l B B w' u a n l.length ∧ w.heap.size ≤ B ∧ n ≤ l.length ∧ Ext w w' := by
  have HR := Lib.hid h
  have HW := Lib.hid hw
  have HRk := Lib.hid (fun (j : Nat) (hj : j < l.length) X (hX : Ext w X) => ranked_any l hO (by omega) j hj X _ (h.ext hX))
  have HFit : Hid (∀ j : Nat, j < l.length → FitR (rankF l j)) := Lib.hid (fun j hj => by
    have hdr := deepF_rngR hO (by omega) (j : Int)
    rw [rankF_at hj]
    obtain ⟨a, c, rfl, -, -⟩ := h.slice
    obtain ⟨b, off, -, -, aa, ma, ca, kk, N, s, d, -, hnv⟩ := nd_at16 h (Ext.refl w) j hj
    have hwf := hnv.wf
    exact ⟨hwf.2.2.2.2.2.2.2.1, by show isI64 (-(deepF l j)); unfold isI64; omega, by show isI64 (j : Int); unfold isI64; omega, hid _ (List.getElem_mem hj)⟩)
  obtain ⟨a, c, rfl, hc1, hc2⟩ := h.slice
  have HL := Lib.hid hl
  clear h hw hid
  go_enter Tryz.func23, Tryz.ntmps23
  go_wp2_with fail
  have hB := BoxL.new w [.slice none 0 0] 54
  have hE1 : Ext w (w.alloc (.cells #[.slice none 0 0] 54)) := (Ext.refl w).alloc _
  have hQ1 : QSt l w.heap.size w.heap.size (w.alloc (.cells #[.slice none 0 0] 54)) (.slice none 0 0) (fun _ => ⟨0, 0, 0, []⟩) 0 0 :=
    ⟨⟨hB, World.ownsRow_nil _ _ _ _, by simp [Value.ownBlock], Nat.le_refl _⟩, fun k hk1 hk2 => by omega, fun x => ⟨fun ⟨k, hk, _⟩ => by omega, fun ⟨i, hi, _⟩ => by omega⟩, fun i k hi => by omega, fun i hi => by omega⟩
  have HQ1 := Lib.hid hQ1
  have HE1 := Lib.hid hE1
  obtain ⟨W1, hW1⟩ : ∃ W1, W1 = w.alloc (.cells #[.slice none 0 0] 54) := ⟨_, rfl⟩
  rw [← hW1] at HQ1 HE1 ⊢
  obtain ⟨B, hB'⟩ : ∃ B, B = w.heap.size := ⟨_, rfl⟩
  rw [← hB'] at HQ1 ⊢
  clear hB hE1 hQ1 hW1
  have HB := Lib.hid hB'
  clear hB'
  obtain ⟨LN, hLN⟩ : ∃ LN, LN = l.length := ⟨_, rfl⟩
  rw [← hLN] at hc1 hl ⊢
  have HLN := Lib.hid hLN
  have HR := Lib.hid (show ndE.Row w l (.slice a LN c) by rw [HLN.out]; exact HR.out)
  rw [← hLN] at HRk
  clear hLN
  go_loopw [10] (fun i wr => ∃ (j n : Nat) (u : Value) (q : Nat → Rk), j ≤ LN ∧ n ≤ j ∧ i = .int .i64 (j : Int) ∧ Hid (Ext w wr) ∧ Hid (QSt l B B wr u q n j)) (fun i _ => LN - (intOf i).toNat)
  case atStart => exact ⟨0, 0, _, _, by omega, by omega, rfl, HE1, HQ1⟩
  case round =>
    clear HQ1 HE1
    obtain ⟨j, n, u, q, hj, hnj, rfl, HE, HQ⟩ := hrel
    by_cases hlt : j < LN
    case neg =>
      have HX := Lib.hid (show QSt l B B wr u q n l.length by rw [← HLN.out, show LN = j by omega]; exact HQ.out)
      go_wp2
      go_ret
      exact ⟨B, u, q, n, rfl, HX.out, by have := HB.out; omega, by have := HLN.out; omega, HE.out⟩
    have hi' : j < l.length := by have := HLN.out; omega
    obtain ⟨g, off, Cs, aa, ma, ca, k0, n0, s0, a0, m0, c0, rfl, hb, hCs, hrg, hnv, hl16, hone⟩ := nd_rangeC HR.out HE.out j hi'
    have HRg := Lib.hid hrg
    have HLn : Hid ((Tryz.prog.info? 32).map (·.size) = some Cs.length) := Lib.hid (by rw [hl16]; exact sizenode_C)
    have HL16 := Lib.hid hl16
    have HN1 := Lib.hid hone
    have HCo : Hid (Cs[9]? = some (.int .u8 (l[j].stand.toNat : Int))) := Lib.hid (by rw [hCs]; rfl)
    clear hrg hnv hCs hl16 hone
    have hj0 : (0 : Int) ≤ (j : Int) := by omega
    have hj1 : (j : Int) < (LN : Int) := by omega
    go_upto_region 5 with (first | (refine wpList_load_mid rfl _ _ rfl _ _ rfl _ _ HRg.out Tryz.underlying32 rfl HLn.out ?_) | (refine wpList_storeBox rfl _ _ _ rfl _ _ _ _ rfl rfl rfl rfl sizenode_C rfl HL16.out HN1.out ?_))
    have hE1 := (Ext.refl wr).alloc (.cells Cs.toArray 32)
    have hB1 := BoxL.new wr Cs 32
    have HQ1 := Lib.hid (HQ.out.ext hE1)
    have HE1 := Lib.hid (HE.out.trans hE1)
    generalize wr.alloc (.cells Cs.toArray 32) = W2 at *
    generalize wr.heap.size = NB at *
    have q9 := hB1.cell 9 _ HCo.out
    clear hE1 hB1 HQ HE HRg HLn HN1 HCo HL16
    have hk := u8_is (k := l[j].stand) 1
    rw [show (((1 : UInt8).toNat : Nat) : Int) = 1 from rfl] at hk
    have HY := Lib.hid (show readyB l j = decide (l[j].stand = 1) by unfold readyB; rw [nthF_at hi'])
    obtain ⟨st, hst⟩ : ∃ st, st = l[j].stand := ⟨_, rfl⟩
    rw [← hst] at hk HY q9
    clear hst
    by_cases hs : st = 1
    case neg =>
      have hk' : ((st.toNat : Int) == 1) = false := by rw [hk]; simpa using hs
      have HQ2 := Lib.hid (HQ1.out.skip (by rw [HY.out]; simpa using hs))
      clear hk hs HQ1
      go_wp2_with fail
      go_roundw
      case rel => exact ⟨j + 1, n, u, q, by omega, by omega, by go_num, HE1, HQ2⟩
      case measure => simp [intOf]; omega
    have hk' : ((st.toNat : Int) == 1) = true := by rw [hk]; simpa using hs
    have HY := Lib.hid (show readyB l j = true by rw [HY.out]; simpa using hs)
    clear hk hs
    go_wp2_with fail
    refine (HRk.out j hlt W2 HE1.out).mono ?_
    rintro e w3 ⟨rfl, hE3⟩
    have HE3 := Lib.hid (HE1.out.trans hE3)
    have HQ3 := Lib.hid (HQ1.out.ext hE3)
    clear hE3 HE1 HQ1 q9
    go_wp2_with fail
    refine (push_heap w w3 HW.out HE3.out (by have := HB.out; omega) (by have := HE3.out.size; have := HB.out; omega) HQ3.out.hq HQ3.out.fit (rankF l j) (HFit.out j hi') (by omega)).mono ?_
    rintro e w4 ⟨rfl, v', hq', hE4⟩
    have HE4 := Lib.hid hE4
    have HQ4 := Lib.hid (HQ3.out.more HY.out (HFit.out j hi') hq')
    clear hE4 hq' HQ3 HE3
    go_wp2_with fail
    go_roundw
    case rel => exact ⟨j + 1, n + 1, _, _, by omega, by omega, by go_num, HE4, HQ4⟩
    case measure => simp [intOf]; omega
end Go.Proofs.YtbciamploeejiaaGreat

open Go.RowKit Go.Shelf
namespace Fm
open Go Go.RowKit
def plc (r : Rk) : Nat := r.place.toNat
theorem plc_rank (l : List Nd) (i : Nat) : plc (rankF l i) = i := by unfold plc rankF; exact Int.toNat_natCast i
/-- What a heap of just those that are ready hands out is all of them, in order. -/
theorem drain_all {l : List Nd} {a : Nat → Rk} {n : Nat} (hp : Hp ltR a n) (mem : ∀ x, (∃ k, k < n ∧ a k = x) ↔ ∃ i, i < l.length ∧ readyB l i = true ∧ x = rankF l i) (inj : ∀ i k, i < n → k < n → a i = a k → i = k) : (drainF ltR n a).map plc = allQ l := by
  have hd := drain_mem (lt := ltR) n a inj
  refine allQ_of ?_ (fun x => ?_)
  · have hs := drain_sort ltR_good n a inj (fun i j hi hj hij => ?_) hp
    · unfold SortR
      rw [List.pairwise_map]
      refine hs.imp_of_mem (fun {x y} hx hy h => ?_)
      obtain ⟨i, -, -, rfl⟩ := (mem x).1 ((hd x).1 hx)
      obtain ⟨j, -, -, rfl⟩ := (mem y).1 ((hd y).1 hy)
      rw [plc_rank, plc_rank]
      exact h
    · obtain ⟨p, -, -, e1⟩ := (mem (a i)).1 ⟨i, hi, rfl⟩
      obtain ⟨q, -, -, e2⟩ := (mem (a j)).1 ⟨j, hj, rfl⟩
      rw [e1, e2]
      refine ltR_total (fun e => hij (inj i j hi hj ?_))
      rw [e1, e2, e]
  · rw [List.mem_map]
    constructor
    · rintro ⟨r, hr, rfl⟩
      obtain ⟨i, h1, h2, rfl⟩ := (mem r).1 ((hd r).1 hr)
      rw [plc_rank]
      exact ⟨h1, h2⟩
    · rintro ⟨h1, h2⟩
      exact ⟨rankF l x, (hd _).2 ((mem _).2 ⟨x, h1, h2, rfl⟩), plc_rank l x⟩
theorem HpQ.kept {e : TypeId} {base n B : Nat} {w w' : World} {v : Value} {a : Nat → Rk} {row : Option Nat} (h : HpQ e base w B v a n) (hg : w.grownBy w' row) (h1 : row ≠ some B) (h2 : v.ownBlock = none ∨ v.ownBlock ≠ row) : HpQ e base w' B v a n :=
  ⟨h.box.kept hg h1, h.row.kept hg h2, h.apart, h.low⟩
theorem ownsRow_capR {w : World} {base e size n g cap : Nat} {xs : List Value} (h : w.ownsRow base e size (.slice (some ⟨g, 0, none⟩) n cap) n xs) : n ≤ cap := by
  rcases h.2 with ⟨e1, -⟩ | ⟨g', cap', cur, e1, -, -, h1, -⟩
  · cases e1
  · injection e1 with e1 e2 e3
    rw [e3]; exact h1
end Fm
namespace Go.Proofs.YtbciamploeejiaaGreat
open Go Go.Proofs Fm

theorem rk_field (x0 x1 x2 : Int) (s : ByteArray) (w : World) : (Instr.field 56 (.agg #[.int .i64 x0, .int .i64 x1, .int .i64 x2, .string s]) 2).run Tryz.prog w = .ok (.int .i64 x2) w := by kernel_rfl
set_option maxRecDepth 100000 in
set_option maxHeartbeats 4000000 in
theorem all_any (l : List Nd) (hO : RightO l) (hl : l.length ≤ 1000) (hid : ∀ n, n ∈ l → IdOk n.id) (w : World) (hw : KW w) (v : Value) (h : ndE.Row w l v) :
    Calls Tryz.prog 9 #[v] w fun e w' => ∃ v', e = .returned v' ∧ OwnN 3 w.heap.size w' v' (natsI (allQ l)) ∧ Ext w w' := by
  obtain ⟨i0, hi, hz0, hz1, hz2⟩ := info_parts infoint_F
  have HQ := Lib.hid (queued_any l hO hl hid w hw v h)
  have HW := Lib.hid hw
  obtain ⟨a, c, rfl, hc1, hc2⟩ := h.slice
  clear h hw hid
  go_enter Tryz.func9, Tryz.ntmps9
  go_wp2_with fail
  refine HQ.out.mono ?_
  rintro e w1 ⟨B, u, a0, n0, rfl, hq, hwB, hn, hE⟩
  have HD := Lib.hid (drain_all hq.hp hq.mem hq.inj)
  have HM : Hid (∀ k, k < n0 → ∃ i : Nat, i < 1000 ∧ a0 k = rankF l i) := Lib.hid (fun k hk => by
    obtain ⟨i, h1, -, h2⟩ := (hq.mem (a0 k)).1 ⟨k, hk, rfl⟩
    exact ⟨i, by omega, h2⟩)
  have HE := Lib.hid hE
  have HHq := Lib.hid hq.hq
  have HFi := Lib.hid hq.fit
  have HwB := Lib.hid hwB
  have hBl := hq.hq.box.lt
  clear hq HQ hE hwB
  by_cases h0 : n0 = 0
  · subst h0
    have HD := Lib.hid (show allQ l = [] by rw [← HD.out]; rfl)
    obtain ⟨m, cc, rfl⟩ : ∃ m cc, u = .slice m 0 cc := by
      rcases HHq.out.row.2 with ⟨e1, e2⟩ | ⟨g, cap, cur, e1, _⟩
      · exact ⟨none, 0, e1⟩
      · exact ⟨_, _, e1⟩
    have hc := HHq.out.box.cell 0 _ rfl
    go_wp2_with fail
    refine wp_loop_rounds 1 ?_
    rw [rounds_succ]
    go_wp2_with fail
    refine (rowlen_any _ _ _ w1).mono ?_
    rintro e w2 ⟨rfl, rfl⟩
    go_wp2_with fail
    go_ret
    exact ⟨_, rfl, by rw [HD.out]; exact OwnN.nil _ _ _, HE.out⟩
  obtain ⟨g, cap, rfl, hg1, hg2⟩ := HHq.out.row.form (by omega)
  have hcap := ownsRow_capR HHq.out.row
  have HG1 := Lib.hid hg1
  have HG2 := Lib.hid hg2
  have HBL := Lib.hid hBl
  clear hg1 hg2 hBl
  go_wp2_with fail
  go_loopg [3] (n0 + 1) (fun k o wr => ∃ (n : Nat) (q : Nat → Rk) (out : List Nat) (A : Option Addr) (C : Nat), n < k ∧ n ≤ n0 ∧ o = .slice A (natsI out).length C ∧ (natsI out).length + n ≤ 1000 ∧
    Hid (HpQ 56 B wr B (.slice (some ⟨g, 0, none⟩) n cap) q n ∧ FitA q n ∧ ∀ k, k < n → ∃ i : Nat, i < 1000 ∧ q k = rankF l i) ∧ Hid (Ext w wr) ∧ Hid (OwnN 3 w1.heap.size wr (.slice A (natsI out).length C) (natsI out)) ∧
    Hid (w1.heap.size ≤ wr.heap.size) ∧ Hid (out ++ (drainF ltR n q).map plc = allQ l))
  case atStart => exact ⟨n0, a0, [], none, 0, by omega, by omega, rfl, by simp [natsI]; omega, Lib.hid ⟨HHq.out, HFi.out, HM.out⟩, HE, Lib.hid (OwnN.nil _ _ _), Lib.hid (Nat.le_refl _), Lib.hid (by rw [List.nil_append]; exact HD.out)⟩
  case round =>
    clear HHq HFi HM HE HD
    obtain ⟨n, q, out, A, C, hnk, hnn, rfl, hlen, HQ, HE, HO, HS, HD⟩ := hrel
    have hc := HQ.out.1.box.cell 0 _ rfl
    obtain ⟨S, hS⟩ : ∃ S, S = natsI out := ⟨_, rfl⟩
    rw [← hS] at HO hlen ⊢
    have HSS := Lib.hid hS
    clear hS
    cases n with
    | zero =>
      have HX := Lib.hid (show S = natsI (allQ l) by rw [HSS.out, ← HD.out]; simp [drainF])
      go_wp2_with fail
      refine (rowlen_any _ _ _ wr).mono ?_
      rintro e w2 ⟨rfl, rfl⟩
      go_wp2_with fail
      go_ret
      exact ⟨_, rfl, by rw [← HX.out]; exact (ownsRow_mono HO.out (by have := HBL.out; have := HwB.out; omega)), HE.out⟩
    | succ n =>
      obtain ⟨ix, hix, hq0⟩ := HQ.out.2.2 0 (by omega)
      have hgt : (0 : Int) < ((n + 1 : Nat) : Int) := by omega
      go_wp2_with fail
      refine (rowlen_any _ _ _ wr).mono ?_
      rintro e w2 ⟨rfl, rfl⟩
      go_wp2_with fail
      refine (pop_heap w wr HW.out HE.out HwB.out HQ.out.1 HQ.out.2.1 (by omega) (by omega)).mono ?_
      rintro e w2 ⟨rfl, hq2, hF2, hE2⟩
      have hv : rkV (q 0) = .agg #[.int .i64 (rankF l ix).fails, .int .i64 (rankF l ix).up, .int .i64 (ix : Int), .string (str (rankF l ix).id)] := by rw [hq0]; rfl
      have hpl : plc (q 0) = ix := by rw [hq0, plc_rank]
      have HD := Lib.hid (show (out ++ [ix]) ++ (drainF ltR n (downF ltR n (swp q 0 n) 0)).map plc = allQ l by rw [← HD.out, drainF, List.map_cons, hpl]; simp)
      have hsm : Same q (swp q 0 n) (n + 1) := Same.swp q (by omega) (by omega)
      have hsd : Same (swp q 0 n) (downF ltR n (swp q 0 n) 0) n := downF_same ltR n 0 _ (by omega)
      have HQ2 := Lib.hid (show HpQ 56 B w2 B (.slice (some ⟨g, 0, none⟩) n cap) (downF ltR n (swp q 0 n) 0) n ∧ FitA (downF ltR n (swp q 0 n) 0) n ∧ ∀ k, k < n → ∃ i : Nat, i < 1000 ∧ downF ltR n (swp q 0 n) 0 k = rankF l i from
        ⟨hq2, FitA.of (fun k hk => (HQ.out.2.1.swp (i := 0) (j := n) (by omega) (by omega)) k (by omega)) hsd, fun k hk => by
          obtain ⟨k1, hk1, e1⟩ := (hsd.mem _).1 ⟨k, hk, rfl⟩
          obtain ⟨k2, hk2, e2⟩ := (hsm.mem (swp q 0 n k1)).1 ⟨k1, by omega, rfl⟩
          obtain ⟨i, h1, h2⟩ := HQ.out.2.2 k2 hk2
          exact ⟨i, h1, by rw [← e1, ← e2, h2]⟩⟩)
      have HO2 := Lib.hid (show OwnN 3 w1.heap.size w2 (.slice A S.length C) S from hF2.own HO.out (fun e => by have := (World.ownsRow.lt HO.out B e).1; have := HBL.out; omega) (fun e => by have := (World.ownsRow.lt HO.out g e).1; have := HG2.out; omega))
      have HS2 := Lib.hid (Nat.le_trans HS.out hF2.size)
      have HE2 := Lib.hid hE2
      have hta := rk_assert
      have hfd := rk_field
      obtain ⟨x0, hx0⟩ : ∃ x0, x0 = (rankF l ix).fails := ⟨_, rfl⟩
      obtain ⟨x1, hx1⟩ : ∃ x1, x1 = (rankF l ix).up := ⟨_, rfl⟩
      obtain ⟨x2, hx2⟩ : ∃ x2, x2 = (rankF l ix).id := ⟨_, rfl⟩
      rw [← hx0, ← hx1, ← hx2] at hv
      rw [hv]
      clear hq2 hF2 hE2 HQ HO HS HE hsm hsd hc hx0 hx1 hx2 hv hq0 hpl
      go_wp2_with (at_builtin; refine wpList_append_own _ rfl _ _ 22 rfl w1.heap.size 3 i0 (.int .i64 0) 1 8 Tryz.underlying22 hi hz0 hz1 hz2 rfl (by decide) _ _ _ rfl (World.ownsRow.alloc HO2.out _) ⟨w2.heap.size, 0, none⟩ 1 1 [.int .i64 (ix : Int)] rfl rfl (cell_one_new _ _ _) (by simp [Value.oneCell']) (by unfold maxLen; omega) (by omega) (by have := HS2.out; simp; omega) ?_; intro v' w5 hown' hgrow _)
      obtain ⟨g', cap', rfl⟩ := ownsRow_succ hown'
      have hzz : (w2.alloc (.cells #[.int .i64 (ix : Int)] 3)).heap.size = w2.heap.size + 1 := by simp
      have hb5 : ∀ k, (Value.slice A S.length C).ownBlock = some k → w1.heap.size ≤ k := fun k e => (World.ownsRow.lt HO2.out k e).1
      have HE5 := Lib.hid ((HE2.out.alloc (.cells #[.int .i64 (ix : Int)] 3)).grown hgrow (fun k e => by have := hb5 k e; have := HBL.out; have := HwB.out; omega))
      have HQ5 := Lib.hid (show HpQ 56 B w5 B (.slice (some ⟨g, 0, none⟩) n cap) (downF ltR n (swp q 0 n) 0) n ∧ FitA (downF ltR n (swp q 0 n) 0) n ∧ ∀ k, k < n → ∃ i : Nat, i < 1000 ∧ downF ltR n (swp q 0 n) 0 k = rankF l i from
        ⟨(HQ2.out.1.ext ((Ext.refl w2).alloc _)).kept hgrow (fun e => by have := hb5 B e; have := HBL.out; omega) (.inr (fun e => by have := hb5 g e.symm; have := HG2.out; omega)), HQ2.out.2⟩)
      have HX := Lib.hid (show S ++ [(ix : Int)] = natsI (out ++ [ix]) by rw [HSS.out]; simp [natsI])
      have HO5 := Lib.hid (show OwnN 3 w1.heap.size w5 (.slice (some ⟨g', 0, none⟩) (natsI (out ++ [ix])).length cap') (natsI (out ++ [ix])) by rw [← HX.out]; unfold OwnN; simpa using hown')
      have HLX := Lib.hid (show S.length + 1 = (natsI (out ++ [ix])).length by rw [← HX.out]; simp)
      have HS5 := Lib.hid (show w1.heap.size ≤ w5.heap.size by have := hgrow.size; have := HS2.out; omega)
      clear hown' hgrow HQ2 HO2 HE2 HS2 hzz hb5
      go_wp2
      go_roundg (n + 1)
      case rel => exact ⟨n, _, out ++ [ix], _, _, by omega, by omega, by rw [HLX.out], by rw [← HLX.out]; omega, HQ5, HE5, HO5, HS5, HD⟩
      case measure => omega
noncomputable def nextQ (l : List Nd) : Int := match allQ l with
  | [] => 0
  | k :: _ => (k : Int)
theorem nextQ_no {l : List Nd} (h : allQ l = []) : nextQ l = 0 := by unfold nextQ; rw [h]
theorem nextQ_yes {l : List Nd} {k : Nat} {r : List Nat} (h : allQ l = k :: r) : nextQ l = (k : Int) := by unfold nextQ; rw [h]
set_option maxRecDepth 100000 in
set_option maxHeartbeats 4000000 in
theorem next_any (l : List Nd) (hO : RightO l) (hl : l.length ≤ 1000) (hid : ∀ n, n ∈ l → IdOk n.id) (w : World) (hw : KW w) (v : Value) (h : ndE.Row w l v) :
    Calls Tryz.prog 17 #[v] w fun e w' => e = .returned (.tuple #[.int .i64 (nextQ l), .bool (!(allQ l).isEmpty)]) ∧ Ext w w' := by
  have HQ := Lib.hid (queued_any l hO hl hid w hw v h)
  obtain ⟨a, c, rfl, hc1, hc2⟩ := h.slice
  clear h hw hid
  go_enter Tryz.func17, Tryz.ntmps17
  go_wp2_with fail
  refine HQ.out.mono ?_
  rintro e w1 ⟨B, u, a0, n0, rfl, hq, hwB, hn, hE⟩
  have hd := drain_all hq.hp hq.mem hq.inj
  have HE := Lib.hid hE
  cases n0 with
  | zero =>
    have HD := Lib.hid (show allQ l = [] by rw [← hd]; rfl)
    obtain ⟨m, cc, rfl⟩ : ∃ m cc, u = .slice m 0 cc := by
      rcases hq.hq.row.2 with ⟨e1, e2⟩ | ⟨g, cap, cur, e1, _⟩
      · exact ⟨none, 0, e1⟩
      · exact ⟨_, _, e1⟩
    have hc := hq.hq.box.cell 0 _ rfl
    clear hq hd hE
    go_wp2_with fail
    refine (rowlen_any _ _ _ w1).mono ?_
    rintro e w2 ⟨rfl, rfl⟩
    go_wp2_with fail
    exact bodyPost_ret (v := .tuple #[.int .i64 0, .bool false]) (by simp [results, Tryz.results17, go_sem]) rfl ⟨by rw [HD.out, nextQ_no HD.out]; rfl, HE.out⟩
  | succ n =>
    obtain ⟨g, cap, rfl, -, -⟩ := hq.hq.row.form (by omega)
    obtain ⟨i, -, -, hi⟩ := (hq.mem (a0 0)).1 ⟨0, by omega, rfl⟩
    have HD := Lib.hid (show allQ l = i :: (drainF ltR n (downF ltR n (swp a0 0 n) 0)).map plc by rw [← hd, drainF, List.map_cons, hi, plc_rank])
    have hc := hq.hq.box.cell 0 _ rfl
    have c2 : w1.cell? ⟨g, 2, none⟩ = some (.int .i64 (i : Int)) := by
      have := hq.hq.row.at (i := 0) (by omega) 2 (.int .i64 (a0 0).place) rfl
      rw [hi] at this
      simpa [rankF] using this
    have hne : (((n + 1 : Nat) : Int) == 0) = false := by simp; omega
    have hgt : (0 : Int) < ((n + 1 : Nat) : Int) := by omega
    clear hq hd hE hi
    go_wp2_with fail
    refine (rowlen_any _ _ _ w1).mono ?_
    rintro e w2 ⟨rfl, rfl⟩
    go_wp2_with fail
    exact bodyPost_ret (v := .tuple #[.int .i64 (i : Int), .bool true]) (by simp [results, Tryz.results17, go_sem]) rfl ⟨by rw [HD.out, nextQ_yes HD.out]; rfl, HE.out⟩
end Go.Proofs.YtbciamploeejiaaGreat

open Go.RowKit Go.Shelf
namespace Go.Proofs
def Tryz.lays189_ren : Go.Shelf.Ren := ⟨fun | 189 => 21 | 125 => 29 | 257 => 28 | 128 => 42 | 129 => 43 | 294 => 33 | 295 => 34 | 296 => 35 | 297 => 36 | 298 => 37 | 299 => 38 | 216 => 39 | 300 => 40 | 301 => 41 | 328 => 46 | 329 => 47 | 330 => 48 | 331 => 49 | 332 => 50 | 215 => 51 | 343 => 54 | n => n, fun | 28 => 22 | 3 => 3 | 46 => 37 | 0 => 0 | 51 => 78 | 53 => 80 | 4 => 4 | 183 => 71 | 182 => 70 | 131 => 43 | 5 => 5 | 9 => 9 | 218 => 84 | 222 => 88 | 228 => 93 | 229 => 94 | n => n, fun | n => n⟩
theorem Tryz.lays189 : Go.Proofs.Lays.n189 Tryz.prog Tryz.lays189_ren := {
  mixed := by kernel_rfl
  f125 := Tryz.func29.trans (congrArg some (by kernel_rfl))
  f128 := Tryz.func42.trans (congrArg some (by kernel_rfl))
  f129 := Tryz.func43.trans (congrArg some (by kernel_rfl))
  f189 := Tryz.func21.trans (congrArg some (by kernel_rfl))
  f215 := Tryz.func51.trans (congrArg some (by kernel_rfl))
  f216 := Tryz.func39.trans (congrArg some (by kernel_rfl))
  f257 := Tryz.func28.trans (congrArg some (by kernel_rfl))
  f294 := Tryz.func33.trans (congrArg some (by kernel_rfl))
  f295 := Tryz.func34.trans (congrArg some (by kernel_rfl))
  f296 := Tryz.func35.trans (congrArg some (by kernel_rfl))
  f297 := Tryz.func36.trans (congrArg some (by kernel_rfl))
  f298 := Tryz.func37.trans (congrArg some (by kernel_rfl))
  f299 := Tryz.func38.trans (congrArg some (by kernel_rfl))
  f300 := Tryz.func40.trans (congrArg some (by kernel_rfl))
  f301 := Tryz.func41.trans (congrArg some (by kernel_rfl))
  f328 := Tryz.func46.trans (congrArg some (by kernel_rfl))
  f329 := Tryz.func47.trans (congrArg some (by kernel_rfl))
  f330 := Tryz.func48.trans (congrArg some (by kernel_rfl))
  f331 := Tryz.func49.trans (congrArg some (by kernel_rfl))
  f332 := Tryz.func50.trans (congrArg some (by kernel_rfl))
  f343 := Tryz.func54.trans (congrArg some (by kernel_rfl))
  t0 := Tryz.underlying0
  a0 := Tryz.isAgg0
  z0 := Tryz.sizeOf0
  v0 := Tryz.zeroValue0
  t3 := Tryz.underlying3
  a3 := Tryz.isAgg3
  z3 := Tryz.sizeOf3
  v3 := Tryz.zeroValue3
  t4 := Tryz.underlying4
  a4 := Tryz.isAgg4
  z4 := Tryz.sizeOf4
  v4 := Tryz.zeroValue4
  t5 := Tryz.underlying5
  a5 := Tryz.isAgg5
  z5 := Tryz.sizeOf5
  v5 := Tryz.zeroValue5
  t9 := Tryz.underlying9
  a9 := Tryz.isAgg9
  z9 := Tryz.sizeOf9
  v9 := Tryz.zeroValue9
  t28 := Tryz.underlying22
  a28 := Tryz.isAgg22
  z28 := Tryz.sizeOf22
  v28 := Tryz.zeroValue22
  t46 := Tryz.underlying37
  a46 := Tryz.isAgg37
  z46 := Tryz.sizeOf37
  v46 := Tryz.zeroValue37
  t51 := Tryz.underlying78
  a51 := Tryz.isAgg78
  z51 := Tryz.sizeOf78
  v51 := Tryz.zeroValue78
  t53 := Tryz.underlying80
  a53 := Tryz.isAgg80
  z53 := Tryz.sizeOf80
  v53 := Tryz.zeroValue80
  t131 := Tryz.underlying43
  a131 := Tryz.isAgg43
  z131 := Tryz.sizeOf43
  v131 := Tryz.zeroValue43
  t182 := Tryz.underlying70
  a182 := Tryz.isAgg70
  z182 := Tryz.sizeOf70
  v182 := Tryz.zeroValue70
  t183 := Tryz.underlying71
  a183 := Tryz.isAgg71
  z183 := Tryz.sizeOf71
  v183 := Tryz.zeroValue71
  t218 := Tryz.underlying84
  a218 := Tryz.isAgg84
  z218 := Tryz.sizeOf84
  v218 := Tryz.zeroValue84
  t222 := Tryz.underlying88
  a222 := Tryz.isAgg88
  z222 := Tryz.sizeOf88
  v222 := Tryz.zeroValue88
  t228 := Tryz.underlying93
  a228 := Tryz.isAgg93
  z228 := Tryz.sizeOf93
  v228 := Tryz.zeroValue93
  t229 := Tryz.underlying94
  a229 := Tryz.isAgg94
  z229 := Tryz.sizeOf94
  v229 := Tryz.zeroValue94 }
def Tryz.lays2_20_ren : Go.Shelf.Ren := ⟨fun | 20 => 22 | n => n, fun | 22 => 22 | 3 => 3 | 4 => 4 | 0 => 0 | n => n, fun | n => n⟩
theorem Tryz.lays2_20 : Go.Proofs.Lays2.n20 Tryz.prog Tryz.lays2_20_ren := {
  mixed := by kernel_rfl
  f20 := Tryz.func22.trans (congrArg some (by kernel_rfl))
  t0 := Tryz.underlying0
  a0 := Tryz.isAgg0
  z0 := Tryz.sizeOf0
  v0 := Tryz.zeroValue0
  t3 := Tryz.underlying3
  a3 := Tryz.isAgg3
  z3 := Tryz.sizeOf3
  v3 := Tryz.zeroValue3
  t4 := Tryz.underlying4
  a4 := Tryz.isAgg4
  z4 := Tryz.sizeOf4
  v4 := Tryz.zeroValue4
  t22 := Tryz.underlying22
  a22 := Tryz.isAgg22
  z22 := Tryz.sizeOf22
  v22 := Tryz.zeroValue22
  i3 := by kernel_rfl }
def Tryz.lays107_ren : Go.Shelf.Ren := ⟨fun | 107 => 15 | 108 => 26 | n => n, fun | 28 => 22 | 3 => 3 | 4 => 4 | 0 => 0 | n => n, fun | n => n⟩
theorem Tryz.lays107 : Go.Proofs.Lays.n107 Tryz.prog Tryz.lays107_ren := {
  mixed := by kernel_rfl
  f107 := Tryz.func15.trans (congrArg some (by kernel_rfl))
  f108 := Tryz.func26.trans (congrArg some (by kernel_rfl))
  t0 := Tryz.underlying0
  a0 := Tryz.isAgg0
  z0 := Tryz.sizeOf0
  v0 := Tryz.zeroValue0
  t3 := Tryz.underlying3
  a3 := Tryz.isAgg3
  z3 := Tryz.sizeOf3
  v3 := Tryz.zeroValue3
  t4 := Tryz.underlying4
  a4 := Tryz.isAgg4
  z4 := Tryz.sizeOf4
  v4 := Tryz.zeroValue4
  t28 := Tryz.underlying22
  a28 := Tryz.isAgg22
  z28 := Tryz.sizeOf22
  v28 := Tryz.zeroValue22 }
def Tryz.cloneI_ren : Go.Shelf.Ren := ⟨fun | 41 => 19 | n => n, fun | 22 => 22 | 23 => 3 | 4 => 4 | n => n, fun | n => n⟩
theorem Tryz.cloneI : SlLaysE0.n41 Tryz.prog Tryz.cloneI_ren := {
  mixed := by kernel_rfl
  f41 := ⟨Tryz.f19.name, by kernel_rfl, Tryz.func19.trans (congrArg some (by kernel_rfl))⟩
  t4 := Tryz.underlying4
  a4 := Tryz.isAgg4
  z4 := Tryz.sizeOf4
  v4 := Tryz.zeroValue4
  t22 := Tryz.underlying22
  a22 := Tryz.isAgg22
  z22 := Tryz.sizeOf22
  v22 := Tryz.zeroValue22 }
def Tryz.delI_ren : Go.Shelf.Ren := ⟨fun | 6 => 27 | 10 => 18 | n => n, fun | 0 => 0 | 3 => 3 | 4 => 4 | 22 => 22 | 23 => 3 | 25 => 40 | n => n, fun | n => n⟩
theorem Tryz.delI : SlLaysH.n10 Tryz.prog Tryz.delI_ren := {
  mixed := by kernel_rfl
  f6 := ⟨Tryz.f27.name, by kernel_rfl, Tryz.func27.trans (congrArg some (by kernel_rfl))⟩
  f10 := ⟨Tryz.f18.name, by kernel_rfl, Tryz.func18.trans (congrArg some (by kernel_rfl))⟩
  t0 := Tryz.underlying0
  a0 := Tryz.isAgg0
  z0 := Tryz.sizeOf0
  v0 := Tryz.zeroValue0
  t3 := Tryz.underlying3
  a3 := Tryz.isAgg3
  z3 := Tryz.sizeOf3
  v3 := Tryz.zeroValue3
  t4 := Tryz.underlying4
  a4 := Tryz.isAgg4
  z4 := Tryz.sizeOf4
  v4 := Tryz.zeroValue4
  t22 := Tryz.underlying22
  a22 := Tryz.isAgg22
  z22 := Tryz.sizeOf22
  v22 := Tryz.zeroValue22
  a23 := Tryz.isAgg3
  z23 := Tryz.sizeOf3
  t25 := Tryz.underlying40
  a25 := Tryz.isAgg40
  z25 := Tryz.sizeOf40
  v25 := Tryz.zeroValue40 }
end Go.Proofs

open Go.RowKit Go.Shelf
namespace Fm
open Go Go.RowKit Go.Sort
theorem ext_putRow {w0 w : World} (h : Ext w0 w) {g : Nat} (hg : w0.heap.size ≤ g) (q : Nat) (d : Array Int) : Ext w0 (putRow (Value.int .i64) (Sort.ahead w q) g 0 d) := Lib.below_putRow h hg
theorem compact_le (zs : List Int) : (Lib.compact zs).length ≤ zs.length := by
  unfold Lib.compact Lib.compactUpTo
  rw [List.length_map]
  refine Nat.le_trans (List.length_filter_le _ _) ?_
  simp
end Fm
namespace Go.Proofs.YtbciamploeejiaaGreat
open Go Go.Proofs Fm

theorem info_intR : ∃ i, Tryz.prog.info? 3 = some i ∧ i.zero = some (.int .i64 0) ∧ i.size = 1 ∧ i.bytes = 8 := by
  have h : (Tryz.prog.info? 3).map (fun i => (i.zero, i.size, i.bytes)) = some (some (.int .i64 0), 1, 8) := by kernel_rfl
  exact info_parts h
set_option maxHeartbeats 2000000 in
set_option maxRecDepth 100000 in
theorem cloneR_zero (ad : Addr) (c : Nat) (w : World) :
    Calls Tryz.prog 19 #[.slice (some ad) 0 c] w fun e w' => ∃ v', e = .returned v' ∧ w'.ownsRow w.heap.size 3 1 v' 0 [] ∧ Ext w w' := by
  have q22 : ∀ (w : World) (a : Option Addr) (n c n' c' : Nat), (binOp .eql 22 (.slice a n c) (.slice none n' c')).run Tryz.prog w = .ok (.bool a.isNone) w := fun w a n c n' c' => Lib.run_eql_slice_nil w _ _ a n c n' c' Tryz.underlying22
  obtain ⟨i0, hi, hz0, hz1, hz2⟩ := info_intR
  go_enter Tryz.func19, Tryz.ntmps19
  go_wp2_with (at_builtin; refine wpList_append_own _ rfl _ _ 22 rfl w.heap.size 3 i0 _ 1 8 Tryz.underlying22 hi hz0 hz1 hz2 rfl (by omega) _ _ _ rfl (World.ownsRow_made w #[] 0 (Nat.le_refl _) (Nat.zero_le _) (by simp)) ad 0 c [] rfl (by simp) (fun j u hj => by simp at hj) (fun u hu => by cases hu) (by unfold maxLen; omega) (by omega) (by simp) ?_)
  intro v' w1 hown hgrow hnil
  go_wp2
  go_ret
  exact ⟨v', rfl, by simpa using hown, ((Ext.refl w).alloc _).grown hgrow (by intro k hk; simp [Value.ownBlock] at hk; omega)⟩
theorem cloneR_any (l : List Int) (w : World) (v : Value) (hv : intE.Row w l v) (hl : l.length ≤ 100000) :
    Calls Tryz.prog 19 #[v] w fun e w' => ∃ v', e = .returned v' ∧ OwnN 3 w.heap.size w' v' l ∧ Ext w w' := by
  obtain ⟨a, c, rfl, hc, -⟩ := hv.slice
  cases a with
  | none =>
    have hl0 : l = [] := by
      cases hx : l with
      | nil => rfl
      | cons y r =>
        obtain ⟨_, b, off, h, _⟩ := hv.at (by rw [hx]; simp)
        cases h
    subst hl0
    refine (AnyE.slices_Clone_nil Tryz.cloneI _ _ w).mono ?_
    rintro e w' ⟨rfl, rfl⟩
    exact ⟨_, rfl, OwnN.nil _ _ _, Ext.refl _⟩
  | some ad =>
    by_cases h0 : l.length = 0
    · have hs0 : l = [] := List.eq_nil_of_length_eq_zero h0
      subst hs0
      refine (cloneR_zero ad c w).mono ?_
      rintro e w' ⟨v', rfl, h1, h2⟩
      exact ⟨v', rfl, h1, h2⟩
    · obtain ⟨-, b, off, hab, hb, hat⟩ := hv.at (by omega)
      injection hab with hab
      subst hab
      obtain ⟨i0, hi, hz0, hz1, hz2⟩ := info_intR
      refine (AnyE.slices_Clone Tryz.cloneI i0 _ 1 8 hi hz0 hz1 hz2 rfl (by omega) Tryz.sizeOf3 b off l.length c (l.map (Value.int .i64)) w (by simp) (by unfold maxLen; omega) (by omega) (fun j u hu => ?_) (fun u hu => ?_)).mono ?_
      · obtain ⟨x, hx, rfl⟩ := List.mem_iff_getElem?.1 (List.mem_of_getElem? hu) |>.elim (fun _ _ => by
          rw [List.getElem?_map] at hu
          exact Option.map_eq_some_iff.1 hu)
        obtain ⟨hj, rfl⟩ := List.getElem?_eq_some_iff.1 hx
        obtain ⟨cc, hR, hcell⟩ := hat j hj
        have := hcell 0 (by decide) w (Ext.refl w)
        rw [show off + j = off + (j * intE.sz + 0) by show off + j = off + (j * 1 + 0); omega, this, hR.1]
      · simp only [List.mem_map] at hu
        obtain ⟨x, -, rfl⟩ := hu
        rfl
      · rintro e w' ⟨v', rfl, h1, -, h2⟩
        exact ⟨v', rfl, h1, h2⟩
theorem enc_int : OneCell (Value.int .i64) := fun _ => rfl
set_option maxHeartbeats 1000000 in
theorem waits1_any (l : List Nd) (x : Int) (b : Nat) (W : World) (v : Value) (h : ndE.Row W l v) (hb : W.cell? ⟨b, 0, none⟩ = some v) :
    Calls Tryz.prog 20 #[.int .i64 x, .pointer (some ⟨b, 0, none⟩)] W fun e w' => e = .returned (.bool (doneF l x)) ∧ W = w' := by
  have HC := Lib.hid (rddone_any l x W v h)
  obtain ⟨a, c, rfl, -, -⟩ := h.slice
  clear h
  go_enter Tryz.func20, Tryz.ntmps20
  go_wp2_with fail
  refine HC.out.mono ?_
  rintro e w1 ⟨rfl, rfl⟩
  go_wp2
  go_ret
  exact ⟨rfl, rfl⟩
theorem OwnN.put {e : TypeId} {base g n cap q : Nat} {w : World} {l ys : List Int} (h : OwnN e base w (.slice (some ⟨g, 0, none⟩) n cap) l) (hn : l.length = n) (zs : List Int) (r : List Int) (hy : ys = zs ++ r) (hl : ys.length = n) : OwnN e base (Go.Sort.putRow (Value.int .i64) (Sort.ahead w q) g 0 ys.toArray) (.slice (some ⟨g, 0, none⟩) zs.length cap) zs := by
  have h' : w.ownsRow base e 1 (.slice (some ⟨g, 0, none⟩) n cap) n (l.map (Value.int .i64)) := by rw [← hn]; unfold OwnN at h; rw [← hn] at h; exact h
  have := Lib.ownsRow_putRow (q := q) h' hl (k := zs.length) (by rw [← hl, hy]; simp)
  rw [show ys.take zs.length = zs by rw [hy]; simp] at this
  exact this
set_option maxHeartbeats 1000000 in
theorem idxR_nil (f : Value) (w : World) : Calls Tryz.prog 27 #[.slice none 0 0, f] w fun e w' => e = .returned (.int .i64 (-1)) ∧ w = w' := by
  go_enter Tryz.func27, Tryz.ntmps27
  go_wp2_with fail
  refine wp_loop_rounds 1 ?_
  rw [rounds_succ]
  go_wp2
  go_ret
  exact ⟨rfl, rfl⟩
set_option maxRecDepth 100000 in
set_option maxHeartbeats 4000000 in
/-- Those that are not done are left. -/
theorem delI_any (l : List Nd) (w0 w : World) (hE0 : Ext w0 w) (b : Nat) (hb : b < w0.heap.size) (v : Value) (h : ndE.Row w0 l v) (hbx : w0.cell? ⟨b, 0, none⟩ = some v) (zs : List Int) (u : Value) (hz : OwnN 3 w0.heap.size w u zs) (hlen : zs.length ≤ 100000) :
    Calls Tryz.prog 18 #[u, .func (.func 20) #[] #[.pointer (some ⟨b, 0, none⟩)]] w fun e w' => ∃ u', e = .returned u' ∧ OwnN 3 w0.heap.size w' u' (zs.filter fun a => !doneF l a) ∧ Ext w0 w' := by
  have eg : ∀ args w, (callFunc 20 args).run Tryz.prog w = .ok (.enter 20 args) w := fun _ _ => by kernel_rfl
  by_cases hu : u = .slice none 0 0
  · subst hu
    have hz0 : zs = [] := by
      have := hz.1
      rcases hz.2 with ⟨-, e2⟩ | ⟨g, cap, cur, e1, -⟩
      · exact List.eq_nil_of_length_eq_zero e2
      · cases e1
    subst hz0
    have HE := Lib.hid hE0
    clear hE0 hz h hbx
    go_enter Tryz.func18, Tryz.ntmps18
    go_wp2_with fail
    refine (idxR_nil _ w).mono ?_
    rintro e w1 ⟨rfl, rfl⟩
    go_wp2
    go_ret
    exact ⟨_, rfl, OwnN.nil _ _ _, HE.out⟩
  · obtain ⟨g, cap, rfl, hg, hgl, hn, hm, -, hH⟩ := Lib.holds_of_ownsRow hz hu
    have hfar : ∀ X, Ext w0 X → ∀ x, Calls Tryz.prog 20 #[.int .i64 x, .pointer (some ⟨b, 0, none⟩)] X fun e w' => e = .returned (.bool (doneF l x)) ∧ X = w' := fun X hX x =>
      waits1_any l x b X v (h.ext hX) ((hX.cell (p := ⟨b, 0, none⟩) hb).trans hbx)
    have hgive : ∀ X, Ext w0 X → ∀ x : Int, FnGives Tryz.prog 20 #[.pointer (some ⟨b, 0, none⟩)] #[.int .i64 x] (.bool (doneF l x)) X := fun X hX x =>
      (hfar X hX x).mono (fun e w' he => ⟨he.1, 0, by rw [← he.2]; rfl⟩)
    have hc := AnyE.slices_DeleteFunc Tryz.delI (Value.int .i64) enc_int (doneF l) 20 #[.pointer (some ⟨b, 0, none⟩)] eg 0 Tryz.zeroValue3 g 0 cap zs.toArray w (fun X x hX => hgive X (hE0.trans hX) x)
      (fun n os dk x _ => hgive _ ((ext_putRow hE0 hg n dk).trans (ext_grow _ os)) x) hH (by simp; omega) (by simpa using hn)
    rw [show (zs.toArray).size = zs.length by simp] at hc
    refine hc.mono ?_
    rintro e w' ⟨rfl, q, rfl⟩
    exact ⟨_, rfl, OwnN.put hz rfl _ _ rfl (by have := List.length_filter_le (fun x => !doneF l x) zs; simp; omega), ext_putRow hE0 hg q _⟩
theorem sortR_any (base : Nat) (w0 w : World) (hE : Ext w0 w) (hb : w0.heap.size ≤ base) (zs : List Int) (u : Value) (hz : OwnN 3 base w u zs) (hlen : zs.length ≤ 100000) :
    Calls Tryz.prog 21 #[u] w fun e w' => e = .returned (.tuple #[]) ∧ OwnN 3 base w' u (zs.mergeSort fun x y => decide (x ≤ y)) ∧ Ext w0 w' := by
  by_cases h0 : zs = []
  · subst h0
    obtain ⟨a, c, rfl⟩ : ∃ a c, u = .slice a 0 c := by
      rcases hz.2 with ⟨e1, e2⟩ | ⟨g, cap, cur, e1, -⟩
      · exact ⟨none, 0, e1⟩
      · exact ⟨_, _, e1⟩
    refine (Any.slices_Sort_int_none Tryz.lays189 a c w).mono ?_
    rintro e w' ⟨rfl, rfl⟩
    exact ⟨rfl, by simpa using hz, hE⟩
  · have hu : u ≠ .slice none 0 0 := by
      rintro rfl
      rcases hz.2 with ⟨-, e2⟩ | ⟨g, cap, cur, e1, -⟩
      · exact h0 (List.eq_nil_of_length_eq_zero e2)
      · cases e1
    obtain ⟨g, cap, rfl, hg, hgl, hn, hm, -, hH⟩ := Lib.holds_of_ownsRow hz hu
    refine (Any.slices_Sort_int Tryz.lays189 g 0 cap zs w hH hgl (by omega)).mono ?_
    rintro e w' ⟨rfl, n, os, rfl⟩
    have hl : (zs.mergeSort fun x y => decide (x ≤ y)).length = zs.length := List.length_mergeSort _
    refine ⟨rfl, ?_, (ext_putRow hE (by omega) n _).trans (ext_grow _ os)⟩
    have := OwnN.put (q := n) hz rfl (zs.mergeSort fun x y => decide (x ≤ y)) [] (by simp) hl
    rw [hl] at this
    exact (ext_grow _ os).own this
theorem compactR_any (base : Nat) (w0 w : World) (hE : Ext w0 w) (hb : w0.heap.size ≤ base) (zs : List Int) (u : Value) (hz : OwnN 3 base w u zs) (hlen : zs.length ≤ 100000) :
    Calls Tryz.prog 22 #[u] w fun e w' => ∃ u', e = .returned u' ∧ OwnN 3 base w' u' (Lib.compact zs) ∧ Ext w0 w' := by
  by_cases h0 : zs = []
  · subst h0
    obtain ⟨a, c, rfl⟩ : ∃ a c, u = .slice a 0 c := by
      rcases hz.2 with ⟨e1, e2⟩ | ⟨g, cap, cur, e1, -⟩
      · exact ⟨none, 0, e1⟩
      · exact ⟨_, _, e1⟩
    refine (Any.slices_Compact_int_empty Tryz.lays2_20 a c w).mono ?_
    rintro e w' ⟨rfl, rfl⟩
    exact ⟨_, rfl, hz, hE⟩
  · have hu : u ≠ .slice none 0 0 := by
      rintro rfl
      rcases hz.2 with ⟨-, e2⟩ | ⟨g, cap, cur, e1, -⟩
      · exact h0 (List.eq_nil_of_length_eq_zero e2)
      · cases e1
    obtain ⟨g, cap, rfl, hg, hgl, hn, hm, -, hH⟩ := Lib.holds_of_ownsRow hz hu
    refine (Any.slices_Compact_int Tryz.lays2_20 g 0 cap zs w hH (by omega) hn).mono ?_
    rintro e w' ⟨rfl, q, rfl⟩
    have hcl : (Lib.compact zs).length ≤ zs.length := compact_le zs
    exact ⟨_, rfl, OwnN.put hz rfl _ _ rfl (by simp; omega), ext_putRow hE (by omega) q _⟩
theorem waitsF_no {l : List Nd} {i : Int} (h : placeF l i = false) : waitsF l i = [] := by unfold waitsF; rw [h]; rfl
theorem waitsF_at {l : List Nd} {j : Nat} (hj : j < l.length) : waitsF l (j : Int) = Lib.compact ((l[j].after.filter (fun a => !doneF l a)).mergeSort fun x y => decide (x ≤ y)) := by
  unfold waitsF
  rw [nthF_at hj, placeF_both.2 ⟨by omega, by omega⟩]
  rfl
set_option maxRecDepth 100000 in
set_option maxHeartbeats 4000000 in
theorem waits_any (l : List Nd) (hl : ∀ n, n ∈ l → n.after.length ≤ 100000) (i : Int) (w : World) (v : Value) (h : ndE.Row w l v) :
    Calls Tryz.prog 8 #[v, .int .i64 i] w fun e w' => ∃ v', e = .returned v' ∧ OwnN 3 w.heap.size w' v' (waitsF l i) ∧ Ext w w' := by
  have HP := Lib.hid (fun X (hX : Ext w X) => rdplace_any l i X _ (h.ext hX))
  cases hp : placeF l i with
  | false =>
    have HX := Lib.hid (waitsF_no hp)
    rw [hp] at HP
    obtain ⟨a, c, rfl, -, -⟩ := h.slice
    have HE := Lib.hid ((Ext.refl w).alloc (.cells #[.slice a l.length c] 23))
    clear h
    go_enter Tryz.func8, Tryz.ntmps8
    go_wp2_with fail
    refine (HP.out _ HE.out).mono ?_
    rintro e w1 ⟨rfl, rfl⟩
    go_wp2
    go_ret
    exact ⟨_, rfl, by rw [HX.out]; exact OwnN.nil _ _ _, HE.out⟩
  | true =>
    obtain ⟨h0, h1⟩ := placeF_both.1 hp
    obtain ⟨j, rfl⟩ : ∃ j : Nat, (j : Int) = i := ⟨i.toNat, by omega⟩
    have hj : j < l.length := by omega
    rw [hp] at HP
    have HX := Lib.hid (waitsF_at hj)
    have haf : l[j].after.length ≤ 100000 := hl _ (List.getElem_mem hj)
    have HR := Lib.hid h
    obtain ⟨a, c, rfl, -, -⟩ := h.slice
    have hE1 := (Ext.refl w).alloc (.cells #[.slice a l.length c] 23)
    have hB1 := BoxL.new w [.slice a l.length c] 23
    obtain ⟨b, off, rfl, hb, aa, ma, ca, kk, N, s, d, ⟨-, -, -, -, -, -, x6, -⟩, hnv⟩ := nd_at16 (h.ext hE1) (Ext.refl _) j hj
    have hai : intE.Row (w.alloc (.cells #[.slice (some ⟨b, off, none⟩) l.length c] 23)) l[j].after (.slice aa ma ca) := by
      obtain ⟨a', m', c', k', N', S', d', e, h2, -⟩ := hnv
      injection e with e
      injection e with e
      simp only [ndCells, List.cons.injEq] at e
      rw [e.2.2.2.2.2.2.1]
      exact h2
    have HE1 := Lib.hid hE1
    have hzl : w.heap.size < (w.alloc (.cells #[.slice (some ⟨b, off, none⟩) l.length c] 23)).heap.size := by simp
    have hR1 := h.ext hE1
    obtain ⟨af, haf2⟩ : ∃ af, af = l[j].after := ⟨_, rfl⟩
    rw [← haf2] at hai haf HX
    obtain ⟨W1, hW1⟩ : ∃ W1, W1 = w.alloc (.cells #[.slice (some ⟨b, off, none⟩) l.length c] 23) := ⟨_, rfl⟩
    rw [← hW1] at hE1 hB1 hai HE1 hzl hR1 x6
    obtain ⟨BX, hBX⟩ : ∃ BX, BX = w.heap.size := ⟨_, rfl⟩
    rw [← hBX] at hB1 hzl
    have HW1 := Lib.hid hW1
    have HBX := Lib.hid hBX
    have hcb := hB1.cell 0 _ rfl
    have HR1 := Lib.hid hR1
    have HAI := Lib.hid hai
    have hi0 : (0 : Int) ≤ (j : Int) := by omega
    have hi1 : (j : Int) < (l.length : Int) := by omega
    have HZ := Lib.hid hzl
    have HSz := Lib.hid (show w.heap.size ≤ W1.heap.size from hE1.size)
    clear hnv hai h hE1 hp h0 h1 hW1 hBX haf2 hR1 hzl HR hb
    go_enter Tryz.func8, Tryz.ntmps8
    go_upto_region 1 with (fail)
    rw [← HW1.out, ← HBX.out]
    clear HW1
    go_wp2_with fail
    refine (HP.out _ HE1.out).mono ?_
    rintro e w1 ⟨rfl, rfl⟩
    go_wp2_with fail
    refine (cloneR_any af W1 _ HAI.out haf).mono ?_
    rintro e w2 ⟨u, rfl, ho, hE2⟩
    have HO := Lib.hid ho
    have HE2 := Lib.hid hE2
    clear ho hE2
    go_wp2_with fail
    refine (delI_any l W1 w2 HE2.out BX HZ.out _ HR1.out hcb af u HO.out haf).mono ?_
    rintro e w3 ⟨u3, rfl, ho, hE3⟩
    have HO3 := Lib.hid ho
    have HE3 := Lib.hid hE3
    have HL3 := Lib.hid (show (af.filter fun a => !doneF l a).length ≤ 100000 from Nat.le_trans (List.length_filter_le _ _) haf)
    clear ho hE3 HO HE2
    go_wp2_with fail
    refine (sortR_any W1.heap.size W1 w3 HE3.out (Nat.le_refl _) _ u3 HO3.out HL3.out).mono ?_
    rintro e w4 ⟨rfl, ho, hE4⟩
    have HO4 := Lib.hid ho
    have HE4 := Lib.hid hE4
    clear ho hE4 HO3 HE3
    go_wp2_with fail
    refine (compactR_any W1.heap.size W1 w4 HE4.out (Nat.le_refl _) _ u3 HO4.out (by rw [List.length_mergeSort]; exact HL3.out)).mono ?_
    rintro e w5 ⟨u5, rfl, ho, hE5⟩
    have HO5 := Lib.hid ho
    have HE5 := Lib.hid hE5
    clear ho hE5 HO4 HE4
    go_wp2
    go_ret
    exact ⟨_, rfl, by rw [HX.out]; exact ownsRow_mono HO5.out HSz.out, HE1.out.trans HE5.out⟩
end Go.Proofs.YtbciamploeejiaaGreat

open Go.RowKit Go.Shelf
namespace Go.Proofs.YtbciamploeejiaaGreat
open Go Go.Proofs Fm

set_option maxRecDepth 100000 in
set_option maxHeartbeats 1000000 in
theorem indexN_inv (l : List Int) (f : FuncId) (eg : ∀ args w, (callFunc f args).run Tryz.prog w = .ok (.enter f args) w) (caps : Array Value) (q : Nat → Bool) (J : Nat → World → Prop) (w : World) (v : Value) (h : intE.Row w l v) (hJ : ∀ i w', J i w' → Ext w w') (h0 : J 0 w)
    (hf : ∀ i (hi : i < l.length) w', J i w' → (∀ j, j < i → q j = false) → isI64 l[i] → Calls Tryz.prog f (#[.int .i64 l[i]] ++ caps) w' fun e w'' => e = .returned (.bool (q i)) ∧ J (i + 1) w'') :
    Calls Tryz.prog 27 #[v, .func (.func f) #[] caps] w (IdxPost l.length q J) := by
  obtain ⟨a, c, rfl, hlc, hcm⟩ := h.slice
  have HR := Lib.hid h
  have HF := Lib.hid hf
  have HJ := Lib.hid hJ
  have hlm : l.length ≤ 9223372036854775807 := by omega
  clear h hf hJ
  go_enter Tryz.func27, Tryz.ntmps27
  go_wp2_with fail
  go_loopw [8] (fun i wr => ∃ j : Nat, j ≤ l.length ∧ i = .int .i64 j ∧ Hid (J j wr) ∧ Hid (∀ k, k < j → q k = false)) (fun i _ => l.length - (intOf i).toNat)
  case atStart => exact ⟨0, by omega, rfl, Lib.hid h0, Lib.hid (fun k hk => by omega)⟩
  case round =>
    clear h0
    obtain ⟨j, hj, rfl, HJj, HQ⟩ := hrel
    by_cases hlt : j < l.length
    · obtain ⟨b, off, rfl, hb, c0, hs⟩ := int_at HR.out (HJ.out _ _ HJj.out) j hlt
      have HS := Lib.hid hs
      clear hs
      go_wp2_with fail
      refine (HF.out j hlt wr HJj.out HQ.out HS.out).mono ?_
      rintro e w1 ⟨rfl, hJ1⟩
      have HJ1 := Lib.hid hJ1
      clear hJ1 c0
      cases hq : q j with
      | true =>
        have HX : Hid (IdxPost l.length q J (.returned (.int .i64 (j : Int))) w1) := Lib.hid (.inl ⟨j, hlt, hq, HQ.out, rfl, HJ1.out⟩)
        clear hq
        go_wp2
        go_ret
        exact HX.out
      | false =>
        have HQ1 : Hid (∀ k, k < j + 1 → q k = false) := Lib.hid (fun k hk => by
          by_cases h : k = j
          · rw [h]; exact hq
          · exact HQ.out k (by omega))
        clear hq
        go_wp2
        go_roundw
        case rel => exact ⟨j + 1, by omega, by go_num, HJ1, HQ1⟩
        case measure => simp [intOf]; omega
    · obtain rfl : j = l.length := by omega
      have HX : Hid (IdxPost l.length q J (.returned (.int .i64 (-1))) wr) := Lib.hid (.inr ⟨HQ.out, rfl, HJj.out⟩)
      go_wp2
      go_ret
      exact HX.out
set_option maxRecDepth 100000 in
set_option maxHeartbeats 1000000 in
theorem hasN_inv (l : List Int) (f : FuncId) (eg : ∀ args w, (callFunc f args).run Tryz.prog w = .ok (.enter f args) w) (caps : Array Value) (q : Nat → Bool) (J : Nat → World → Prop) (w : World) (v : Value) (h : intE.Row w l v) (hJ : ∀ i w', J i w' → Ext w w') (h0 : J 0 w)
    (hf : ∀ i (hi : i < l.length) w', J i w' → (∀ j, j < i → q j = false) → isI64 l[i] → Calls Tryz.prog f (#[.int .i64 l[i]] ++ caps) w' fun e w'' => e = .returned (.bool (q i)) ∧ J (i + 1) w'') :
    Calls Tryz.prog 16 #[v, .func (.func f) #[] caps] w (HasPost l.length q J) := by
  have hC := indexN_inv l f eg caps q J w v h hJ h0 hf
  obtain ⟨a, c, rfl, hlc, hcm⟩ := h.slice
  have HC := Lib.hid hC
  clear h hf hJ hC h0
  go_enter Tryz.func16, Tryz.ntmps16
  go_wp2_with fail
  refine HC.out.mono ?_
  rintro e w1 (⟨i, hi, h1, h2, rfl, h3⟩ | ⟨h1, rfl, h3⟩)
  · have HX : Hid (HasPost l.length q J (.returned (.bool true)) w1) := Lib.hid (.inl ⟨i, hi, h1, h2, rfl, h3⟩)
    clear h1 h2 h3
    have h0 : (0 : Int) ≤ (i : Int) := by omega
    go_wp2
    go_ret
    exact HX.out
  · have HX : Hid (HasPost l.length q J (.returned (.bool false)) w1) := Lib.hid (.inr ⟨h1, rfl, h3⟩)
    clear h1 h3
    go_wp2
    go_ret
    exact HX.out
/-- Where the world only grows. -/
theorem hasN_any (l : List Int) (f : FuncId) (eg : ∀ args w, (callFunc f args).run Tryz.prog w = .ok (.enter f args) w) (caps : Array Value) (q : Nat → Bool) (w : World) (v : Value) (h : intE.Row w l v)
    (hf : ∀ i (hi : i < l.length) w', Ext w w' → isI64 l[i] → Calls Tryz.prog f (#[.int .i64 l[i]] ++ caps) w' fun e w'' => e = .returned (.bool (q i)) ∧ Ext w' w'') :
    Calls Tryz.prog 16 #[v, .func (.func f) #[] caps] w fun e w' => ∃ b, e = .returned (.bool b) ∧ (b = true ↔ ∃ i, i < l.length ∧ q i = true) ∧ Ext w w' := by
  refine (hasN_inv l f eg caps q (fun _ => Ext w) w v h (fun _ _ h => h) (Ext.refl w) (fun i hi w' hE _ hs => (hf i hi w' hE hs).mono fun e w'' ⟨a, b⟩ => ⟨a, hE.trans b⟩)).mono ?_
  rintro e w' (⟨i, hi, h1, h2, rfl, hE⟩ | ⟨h1, rfl, hE⟩)
  · exact ⟨true, rfl, ⟨fun _ => ⟨i, hi, h1⟩, fun _ => rfl⟩, hE⟩
  · exact ⟨false, rfl, ⟨(fun h => by cases h), (fun ⟨i, hi, h⟩ => by rw [h1 i hi] at h; cases h)⟩, hE⟩

end Go.Proofs.YtbciamploeejiaaGreat

open Go.RowKit Go.Shelf
namespace Go.Proofs.YtbciamploeejiaaGreat
open Go Go.Proofs Fm

set_option maxHeartbeats 2000000 in
theorem wakes1_any (l : List Nd) (i x : Int) (bi b : Nat) (W : World) (v : Value) (h : ndE.Row W l v) (hi : W.cell? ⟨bi, 0, none⟩ = some (.int .i64 i)) (hb : W.cell? ⟨b, 0, none⟩ = some v) :
    Calls Tryz.prog 13 #[.int .i64 x, .pointer (some ⟨bi, 0, none⟩), .pointer (some ⟨b, 0, none⟩)] W fun e w' => e = .returned (.bool (!(decide (x = i) || doneF l x))) ∧ W = w' := by
  have HC := Lib.hid (rddone_any l x W v h)
  obtain ⟨a, c, rfl, -, -⟩ := h.slice
  clear h
  by_cases hx : x = i
  · have hne : (x != i) = false := by simp [hx]
    have HX := Lib.hid (show (!(decide (x = i) || doneF l x)) = false by simp [hx])
    clear hx
    go_enter Tryz.func13, Tryz.ntmps13
    go_wp2
    go_ret
    exact ⟨by rw [HX.out]; rfl, rfl⟩
  · have hne : (x != i) = true := by simp [hx]
    have HX := Lib.hid (show (!(decide (x = i) || doneF l x)) = !(doneF l x) by simp [hx])
    clear hx
    go_enter Tryz.func13, Tryz.ntmps13
    go_wp2_with fail
    refine HC.out.mono ?_
    rintro e w1 ⟨rfl, rfl⟩
    go_wp2
    go_ret
    exact ⟨by rw [HX.out]; rfl, rfl⟩
theorem containsR_any (zs : List Int) (x : Int) (w : World) (v : Value) (h : intE.Row w zs v) (hl : zs.length ≤ 100000) :
    Calls Tryz.prog 15 #[v, .int .i64 x] w fun e w' => e = .returned (.bool (decide (x ∈ zs))) ∧ w = w' := by
  obtain ⟨a, c, rfl, hc, -⟩ := h.slice
  by_cases h0 : zs.length = 0
  · have hz : zs = [] := List.eq_nil_of_length_eq_zero h0
    subst hz
    refine (Any.slices_Contains_int_empty Tryz.lays107 a c x w).mono ?_
    rintro e w' ⟨rfl, rfl⟩
    exact ⟨by simp, rfl⟩
  · obtain ⟨-, b, off, rfl, hb, hat⟩ := h.at (by omega)
    refine (Any.slices_Contains_int Tryz.lays107 b off zs.length c zs x w (Nat.le_refl _) (by omega) (fun j hj => ?_)).mono ?_
    · obtain ⟨cc, hR, hcell⟩ := hat j hj
      have := hcell 0 (by decide) w (Ext.refl w)
      rw [show off + j = off + (j * intE.sz + 0) by show off + j = off + (j * 1 + 0); omega, this, hR.1]
      simp [hj]
    · rintro e w' ⟨rfl, rfl⟩
      exact ⟨by simp, rfl⟩
def wakesTo (l : List Nd) (i : Int) (j : Nat) : List Nat := (List.range j).filter (fun k => wakeOne l i (nthF l (k : Int)))
theorem wakesTo_succ (l : List Nd) (i : Int) (j : Nat) : wakesTo l i (j + 1) = wakesTo l i j ++ (if wakeOne l i (nthF l (j : Int)) then [j] else []) := by
  unfold wakesTo
  rw [List.range_succ, List.filter_append, List.filter_cons, List.filter_nil]
theorem wakesTo_len (l : List Nd) (i : Int) (j : Nat) : (wakesTo l i j).length ≤ j := by
  unfold wakesTo
  refine Nat.le_trans (List.length_filter_le _ _) ?_
  simp
theorem wakesF_no {l : List Nd} {i : Int} (h : placeF l i = false) : wakesF l i = [] := by unfold wakesF; rw [h]; rfl
theorem wakesF_at {l : List Nd} {i : Int} (h : placeF l i = true) : wakesF l i = wakesTo l i l.length := by unfold wakesF; rw [h]; rfl
theorem natsR_len (l : List Nat) : (natsI l).length = l.length := List.length_map _
set_option maxRecDepth 100000 in
set_option maxHeartbeats 4000000 in
theorem wakes_any (l : List Nd) (hll : l.length ≤ 1000) (hl : ∀ n, n ∈ l → n.after.length ≤ 100000) (i : Int) (w : World) (v : Value) (h : ndE.Row w l v) :
    Calls Tryz.prog 6 #[v, .int .i64 i] w fun e w' => ∃ v', e = .returned v' ∧ OwnN 3 w.heap.size w' v' (natsI (wakesF l i)) ∧ Ext w w' := by
  obtain ⟨i0, hi, hz0, hz1, hz2⟩ := info_parts infoint_F
  have HP := Lib.hid (fun X (hX : Ext w X) => rdplace_any l i X _ (h.ext hX))
  have HR := Lib.hid h
  obtain ⟨a, c, rfl, hc1, hc2⟩ := h.slice
  have hB1 := (BoxL.new w [.slice a l.length c] 23).ext ((Ext.refl _).alloc (.cells #[.int .i64 i] 3))
  have hB2 := BoxL.new (w.alloc (.cells #[.slice a l.length c] 23)) [.int .i64 i] 3
  have hE1 : Ext w ((w.alloc (.cells #[.slice a l.length c] 23)).alloc (.cells #[.int .i64 i] 3)) := ((Ext.refl w).alloc _).alloc _
  rw [show (w.alloc (.cells #[.slice a l.length c] 23)).heap.size = w.heap.size + 1 by simp] at hB2
  obtain ⟨W1, hW1⟩ : ∃ W1, W1 = (w.alloc (.cells #[.slice a l.length c] 23)).alloc (.cells #[.int .i64 i] 3) := ⟨_, rfl⟩
  rw [← hW1] at hB1 hB2 hE1
  obtain ⟨BX, hBX⟩ : ∃ BX, BX = w.heap.size := ⟨_, rfl⟩
  rw [← hBX] at hB1 hB2
  have HW1 := Lib.hid hW1
  have HBX := Lib.hid hBX
  have HE1 := Lib.hid hE1
  have HB1 := Lib.hid hB1
  have HB2 := Lib.hid hB2
  have hc1' := hB1.cell 0 _ rfl
  have hc2' := hB2.cell 0 _ rfl
  obtain ⟨LN, hLN⟩ : ∃ LN, LN = l.length := ⟨_, rfl⟩
  have HLN := Lib.hid hLN
  clear h hB1 hB2 hE1 hW1 hBX hLN
  go_enter Tryz.func6, Tryz.ntmps6
  go_upto_region 1 with (fail)
  rw [← HW1.out, ← HBX.out]
  rw [← HLN.out] at HP HR hc1' HB1 hc1 hll ⊢
  clear HW1
  go_wp2_with fail
  refine (HP.out _ HE1.out).mono ?_
  rintro e w1 ⟨rfl, rfl⟩
  cases hp : placeF l i with
  | false =>
    have HX := Lib.hid (wakesF_no hp)
    clear hp
    go_wp2
    go_ret
    exact ⟨_, rfl, by rw [HX.out]; exact OwnN.nil _ _ _, HE1.out⟩
  | true =>
    have HX := Lib.hid (wakesF_at hp)
    clear hp
    go_wp2_with fail
    go_loopw [5, 15] (fun o k wr => ∃ (j : Nat) (A : Option Addr) (C : Nat), j ≤ LN ∧ k = .int .i64 (j : Int) ∧ o = .slice A (natsI (wakesTo l i j)).length C ∧ Hid (Ext W1 wr) ∧ Hid (OwnN 3 W1.heap.size wr (.slice A (natsI (wakesTo l i j)).length C) (natsI (wakesTo l i j)))) (fun _ k _ => LN - (intOf k).toNat)
    case atStart => exact ⟨0, none, 0, by omega, rfl, rfl, Lib.hid (Ext.refl _), Lib.hid (OwnN.nil _ _ _)⟩
    case round =>
      obtain ⟨j, A, C, hj, rfl, rfl, HE, HO⟩ := hrel
      obtain ⟨S, hS⟩ : ∃ S, S = natsI (wakesTo l i j) := ⟨_, rfl⟩
      rw [← hS] at HO ⊢
      have hSl : S.length ≤ j := by rw [hS, natsR_len]; exact wakesTo_len _ _ _
      have HS := Lib.hid hS
      clear hS
      by_cases hlt : j < LN
      case neg =>
        have HY := Lib.hid (show S = natsI (wakesF l i) by rw [HS.out, HX.out, ← HLN.out, show j = LN by omega])
        go_wp2
        go_ret
        exact ⟨_, rfl, by rw [← HY.out]; exact ownsRow_mono HO.out HE1.out.size, HE1.out.trans HE.out⟩
      have hi' : j < l.length := by have := HLN.out; omega
      have HR1 := Lib.hid (HR.out.ext HE1.out)
      obtain ⟨g, off, Cs, aa, ma, ca, k0, n0, s0, a0, m0, c0, rfl, hb, hCs, hrg, hnv, hl16, hone⟩ := nd_rangeC HR1.out HE.out j hi'
      have hai : intE.Row W1 l[j].after (.slice aa ma ca) := by
        rw [hCs] at hnv
        obtain ⟨a', m', c', k', N', S', d', e, h2, -⟩ := hnv
        injection e with e
        injection e with e
        simp only [ndCells, List.cons.injEq] at e
        rw [e.2.2.2.2.2.2.1]
        exact h2
      have HAI := Lib.hid hai
      have HRg := Lib.hid hrg
      have HLn : Hid ((Tryz.prog.info? 32).map (·.size) = some Cs.length) := Lib.hid (by rw [hl16]; exact sizenode_C)
      have HL16 := Lib.hid hl16
      have HN1 := Lib.hid hone
      have HCo : Hid (Cs[9]? = some (.int .u8 (l[j].stand.toNat : Int)) ∧ Cs[6]? = some (.slice aa ma ca)) := Lib.hid (by rw [hCs]; exact ⟨rfl, rfl⟩)
      clear hrg hnv hCs hl16 hone hai
      have hj0 : (0 : Int) ≤ (j : Int) := by omega
      have hj1 : (j : Int) < (LN : Int) := by omega
      have HBa := HB1.out.ext HE.out
      have HBb := HB2.out.ext HE.out
      go_upto_region 7 with (first | (refine wpList_load_mid rfl _ _ rfl _ _ rfl _ _ HRg.out Tryz.underlying32 rfl HLn.out ?_) | (refine wpList_storeBox rfl _ _ _ rfl _ _ _ _ rfl rfl rfl rfl sizenode_C rfl HL16.out HN1.out ?_))
      have hE2 := (Ext.refl wr).alloc (.cells Cs.toArray 32)
      have hB3 := BoxL.new wr Cs 32
      have HBa := Lib.hid (HBa.ext hE2)
      have HBb := Lib.hid (HBb.ext hE2)
      have HO2 := Lib.hid (HO.out.ext hE2)
      have HE2 := Lib.hid (HE.out.trans hE2)
      generalize wr.alloc (.cells Cs.toArray 32) = W2 at *
      generalize wr.heap.size = NB at *
      have q9 := hB3.cell 9 _ HCo.out.1
      have q6 := hB3.cell 6 _ HCo.out.2
      have qa := HBa.out.cell 0 _ rfl
      have qb := HBb.out.cell 0 _ rfl
      clear hE2 hB3 HO HE HRg HLn HN1 HCo HL16 hc1' hc2'
      have hk := u8_is (k := l[j].stand) 0
      rw [show (((0 : UInt8).toNat : Nat) : Int) = 0 from rfl] at hk
      have haf : l[j].after.length ≤ 100000 := hl _ (List.getElem_mem hi')
      have HT := Lib.hid (wakesTo_succ l i j)
      have HY := Lib.hid (show wakeOne l i (nthF l (j : Int)) = (decide (l[j].stand = 0) && (decide (i ∈ l[j].after) && l[j].after.all (fun a => decide (a = i) || doneF l a))) by rw [nthF_at hi']; rfl)
      obtain ⟨st, hst⟩ : ∃ st, st = l[j].stand := ⟨_, rfl⟩
      rw [← hst] at hk HY q9
      obtain ⟨af, haf2⟩ : ∃ af, af = l[j].after := ⟨_, rfl⟩
      rw [← haf2] at haf HY HAI
      clear hst haf2
      have hskip : wakeOne l i (nthF l (j : Int)) = false → natsI (wakesTo l i (j + 1)) = S := fun h => by rw [HT.out, h, HS.out]; simp
      have HSk := Lib.hid hskip
      clear hskip
      by_cases hs : st = 0
      case neg =>
        have hk' : ((st.toNat : Int) == 0) = false := by rw [hk]; simpa using hs
        have HX5 := Lib.hid (HSk.out (by rw [HY.out]; simp [hs]))
        have HO5 := Lib.hid (show OwnN 3 W1.heap.size W2 (.slice A (natsI (wakesTo l i (j + 1))).length C) (natsI (wakesTo l i (j + 1))) by rw [HX5.out]; exact HO2.out)
        clear hk hs
        go_wp2_with fail
        go_roundw
        case rel => exact ⟨j + 1, _, _, by omega, by go_num, by rw [HX5.out], HE2, HO5⟩
        case measure => simp [intOf]; omega
      have hk' : ((st.toNat : Int) == 0) = true := by rw [hk]; simpa using hs
      have HCo := Lib.hid (containsR_any af i W2 _ (HAI.out.ext HE2.out) haf)
      go_wp2_with fail
      refine HCo.out.mono ?_
      rintro e w3 ⟨rfl, rfl⟩
      by_cases him : i ∈ af
      case neg =>
        have hd : decide (i ∈ af) = false := by simpa using him
        have HX5 := Lib.hid (HSk.out (by rw [HY.out]; simp [him]))
        have HO5 := Lib.hid (show OwnN 3 W1.heap.size W2 (.slice A (natsI (wakesTo l i (j + 1))).length C) (natsI (wakesTo l i (j + 1))) by rw [HX5.out]; exact HO2.out)
        rw [hd]
        clear hk hs him hd
        go_wp2_with fail
        go_roundw
        case rel => exact ⟨j + 1, _, _, by omega, by go_num, by rw [HX5.out], HE2, HO5⟩
        case measure => simp [intOf]; omega
      have hd : decide (i ∈ af) = true := by simpa using him
      rw [hd]
      have eg : ∀ args w, (callFunc 13 args).run Tryz.prog w = .ok (.enter 13 args) w := fun _ _ => by kernel_rfl
      have HCf := Lib.hid (hasN_any af 13 eg #[.pointer (some ⟨BX + 1, 0, none⟩), .pointer (some ⟨BX, 0, none⟩)] (fun k => !(decide (af.getD k 0 = i) || doneF l (af.getD k 0))) W2 _ (HAI.out.ext HE2.out) (fun k hk w' hE' _ => by
        have hg : af.getD k 0 = af[k] := by rw [List.getD_eq_getElem?_getD, List.getElem?_eq_getElem hk, Option.getD_some]
        rw [hg]
        exact (wakes1_any l i af[k] (BX + 1) BX w' _ (HR1.out.ext (HE2.out.trans hE')) ((HBb.out.ext hE').cell 0 _ rfl) ((HBa.out.ext hE').cell 0 _ rfl)).mono (fun e w'' he => ⟨he.1, by rw [← he.2]; exact Ext.refl _⟩)))
      have HAl : Hid (∀ b : Bool, (b = true ↔ ∃ k, k < af.length ∧ (!(decide (af.getD k 0 = i) || doneF l (af.getD k 0))) = true) → af.all (fun a => decide (a = i) || doneF l a) = !b) := Lib.hid (fun b hb => by
        rw [Bool.eq_iff_iff, List.all_eq_true]
        cases b with
        | true =>
          obtain ⟨k, hk, h2⟩ := hb.1 rfl
          have hg : af.getD k 0 = af[k] := by rw [List.getD_eq_getElem?_getD, List.getElem?_eq_getElem hk, Option.getD_some]
          rw [hg] at h2
          constructor
          · intro h; have := h _ (List.getElem_mem hk); rw [this] at h2; cases h2
          · intro h; cases h
        | false =>
          refine ⟨fun _ => rfl, fun _ a ha => ?_⟩
          obtain ⟨k, hk, rfl⟩ := List.getElem_of_mem ha
          cases h2 : (decide (af[k] = i) || doneF l af[k]) with
          | true => rfl
          | false =>
            have hg : af.getD k 0 = af[k] := by rw [List.getD_eq_getElem?_getD, List.getElem?_eq_getElem hk, Option.getD_some]
            have := hb.2 ⟨k, hk, by rw [hg, h2]; rfl⟩
            cases this)
      have HIM := Lib.hid him
      have HSt := Lib.hid hs
      clear hk hs him hd eg
      go_wp2_with fail
      refine HCf.out.mono ?_
      rintro e w3 ⟨bb, rfl, hbb, hE3⟩
      have hal := HAl.out bb hbb
      have HE3 := Lib.hid (HE2.out.trans hE3)
      have HO3 := Lib.hid (HO2.out.ext hE3)
      clear hbb HAl HCf HCo
      cases bb with
      | true =>
        have HX5 := Lib.hid (HSk.out (by rw [HY.out, hal]; simp))
        have HO5 := Lib.hid (show OwnN 3 W1.heap.size w3 (.slice A (natsI (wakesTo l i (j + 1))).length C) (natsI (wakesTo l i (j + 1))) by rw [HX5.out]; exact HO3.out)
        clear hal hE3
        go_wp2_with fail
        go_roundw
        case rel => exact ⟨j + 1, _, _, by omega, by go_num, by rw [HX5.out], HE3, HO5⟩
        case measure => simp [intOf]; omega
      | false =>
        have HX5 := Lib.hid (show natsI (wakesTo l i (j + 1)) = S ++ [(j : Int)] by rw [HT.out, HY.out, hal, HSt.out, decide_eq_true HIM.out, HS.out]; simp [natsI])
        have hz := HE3.out.size
        clear hal hE3 q9 q6 qa qb
        go_wp2_with (at_builtin; refine wpList_append_own _ rfl _ _ 22 rfl W1.heap.size 3 i0 (.int .i64 0) 1 8 Tryz.underlying22 hi hz0 hz1 hz2 rfl (by decide) _ _ _ rfl (World.ownsRow.alloc HO3.out _) ⟨w3.heap.size, 0, none⟩ 1 1 [.int .i64 (j : Int)] rfl rfl (cell_one_new _ _ _) (by simp [Value.oneCell']) (by unfold maxLen; omega) (by omega) (by simp; omega) ?_; intro v' w5 hown' hgrow _)
        obtain ⟨g', cap', rfl⟩ := ownsRow_succ hown'
        have HE5 := Lib.hid ((HE3.out.alloc (.cells #[.int .i64 (j : Int)] 3)).grown hgrow (fun k e => (World.ownsRow.lt HO3.out k e).1))
        have HO5 := Lib.hid (show OwnN 3 W1.heap.size w5 (.slice (some ⟨g', 0, none⟩) (natsI (wakesTo l i (j + 1))).length cap') (natsI (wakesTo l i (j + 1))) by rw [HX5.out]; unfold OwnN; simpa using hown')
        have HLX := Lib.hid (show S.length + 1 = (natsI (wakesTo l i (j + 1))).length by rw [HX5.out]; simp)
        clear hown' hgrow
        go_wp2
        go_roundw
        case rel => exact ⟨j + 1, _, _, by omega, by go_num, by rw [HLX.out], HE5, HO5⟩
        case measure => simp [intOf]; omega
end Go.Proofs.YtbciamploeejiaaGreat

namespace Fm
open Go Go.RowKit

theorem itoa_small {n : Nat} (h : n < 10) : Lib.itoa (n : Int) = [UInt8.ofNat (48 + n)] := by
  rw [itoa_decD (by omega), Int.toNat_natCast, Lib.decDigits_one h]
theorem itoa_0 : Lib.itoa 0 = [48] := itoa_small (n := 0) (by omega)
theorem itoa_1 : Lib.itoa 1 = [49] := itoa_small (n := 1) (by omega)
def stA0 : Stp := ⟨[97], -1⟩
def sBn : Stp := ⟨[98], -1⟩
def p3 : Pth := ⟨3, []⟩
end Fm

namespace Fm
open Go Go.RowKit

/-- Nodes of which all that is asked stands. -/
structure SameS (l l' : List Nd) (owner : Int) : Prop where
  len : l.length = l'.length
  all : ∀ (i : Nat) (h1 : i < l.length) (h2 : i < l'.length), l'[i].flow = l[i].flow ∧ l'[i].owner = l[i].owner ∧ l'[i].kind = l[i].kind ∧ l'[i].width = l[i].width
  names : ∀ (i : Nat) (h1 : i < l.length) (h2 : i < l'.length), 0 ≤ owner → l[i].flow = (nthF l owner).flow → l[i].owner ∈ ownersF l owner.toNat → l'[i].name = l[i].name
theorem SameS.place {l l' : List Nd} {owner : Int} (h : SameS l l' owner) (i : Int) : placeF l' i = placeF l i := by unfold placeF; rw [h.len]
end Fm

namespace Fm
open Go Go.RowKit

/-- Nodes in a row of one's own, what they hold was there ahead. -/
def OldN (eN : TypeId) (w0 : World) (base : Nat) (w : World) (v : Value) (l : List Nd) : Prop :=
  ∃ cs : List (List Value), cs.length = l.length ∧ w.ownsRow base eN 16 v l.length cs.flatten ∧ ∀ (i : Nat) (hi : i < l.length) (hc : i < cs.length), ∀ W, Ext w0 W → NdV W l[i] (.agg cs[i].toArray)
theorem OldN.nil (eN : TypeId) (w0 : World) (base : Nat) (w : World) : OldN eN w0 base w (.slice none 0 0) [] := ⟨[], rfl, World.ownsRow_nil _ _ _ _, fun i hi => (by cases hi)⟩
theorem OldN.kept {eN : TypeId} {w0 w w' : World} {base : Nat} {v : Value} {l : List Nd} {row : Option Nat} (h : OldN eN w0 base w v l) (hg : w.grownBy w' row) (hr : ∀ b, v.ownBlock = some b → row ≠ some b) : OldN eN w0 base w' v l := by
  obtain ⟨cs, h1, h2, h3⟩ := h
  refine ⟨cs, h1, h2.kept hg ?_, h3⟩
  cases e : v.ownBlock with
  | none => exact .inl rfl
  | some b => exact .inr (fun h => hr b e h.symm)
theorem OldN.ext {eN : TypeId} {w0 w w' : World} {base : Nat} {v : Value} {l : List Nd} (h : OldN eN w0 base w v l) (hE : Ext w w') : OldN eN w0 base w' v l := h.kept hE.grownBy (fun b _ e => by cases e)
theorem OldN.held {eN : TypeId} {w0 w : World} {base : Nat} {v : Value} {l : List Nd} (h : OldN eN w0 base w v l) (hE : Ext w0 w) (hb : w0.heap.size ≤ base) : HeldN eN base w v l := by
  obtain ⟨cs, h1, h2, h3⟩ := h
  exact ⟨cs, h1, h2, fun i hi hc => farNd_of (fun w' hw' => h3 i hi hc w' (hE.grown hw' (fun k hk => by have := (World.ownsRow.lt h2 k hk).1; omega)))⟩
theorem OldN.rowOf {eN : TypeId} {w0 w : World} {base : Nat} {v : Value} {l : List Nd} (h : OldN eN w0 base w v l) : ∃ xs, w.ownsRow base eN 16 v l.length xs ∧ ∀ (w' : World) (v' : Value) (n : Nd) (C : List Value), C.length = 16 → w'.ownsRow base eN 16 v' (l.length + 1) (xs ++ C) → (∀ W, Ext w0 W → NdV W n (.agg C.toArray)) → OldN eN w0 base w' v' (l ++ [n]) := by
  obtain ⟨cs, h1, h2, h3⟩ := h
  refine ⟨_, h2, fun w' v' n C hC hrow hn => ⟨cs ++ [C], by simp [h1], by rw [List.length_append, List.flatten_append]; simpa using hrow, fun i hi hc => ?_⟩⟩
  by_cases hil : i < l.length
  · have hic : i < cs.length := by omega
    rw [List.getElem_append_left hil, List.getElem_append_left hic]
    exact h3 i hil hic
  · have hi' : i = l.length := by rw [List.length_append, List.length_singleton] at hi; omega
    subst hi'
    rw [List.getElem_append_right (by omega)]
    have e2 : (cs ++ [C])[l.length] = C := by rw [List.getElem_append_right (by omega)]; simp [h1]
    rw [e2]
    simpa using hn
/-- One node more that is held. -/
theorem HeldN.rowOf {eN : TypeId} {base : Nat} {w : World} {v : Value} {l : List Nd} (h : HeldN eN base w v l) : ∃ xs, w.ownsRow base eN 16 v l.length xs ∧
    (∀ (w' : World) (v' : Value) (m : List Nd) (ds : List (List Value)), ds.length = m.length → (∀ (i : Nat) (hi : i < m.length) (hc : i < ds.length), FarNd w v.ownBlock m[i] ds[i]) → w'.ownsRow base eN 16 v' (l.length + m.length) (xs ++ ds.flatten) → w.grownBy w' v.ownBlock → (v'.ownBlock = v.ownBlock ∨ v'.ownBlock = some w.heap.size) → HeldN eN base w' v' (l ++ m)) := by
  obtain ⟨cs, h1, h2, h3⟩ := h
  exact ⟨_, h2, fun w' v' m ds g1 g3 hrow hg hat => HeldN.app h1 h3 g1 g3 hrow hg hat⟩
end Fm
namespace Fm
open Go Go.RowKit
/-- The nodes of a copy from the k-th on. -/
def TailN (eN eI eV : TypeId) (base : Nat) (w : World) (v : Value) (n : Nat) (f : Nat → Nd) (k : Nat) : Prop :=
  ∃ (cs : List (List Value)) (lo : Nat → Nat), cs.length = n ∧ w.ownsRow base eN 16 v n cs.flatten ∧ (∀ b, v.ownBlock = some b → b < lo k) ∧ base ≤ lo k ∧ (∀ i, k ≤ i → i < n → lo i ≤ lo (i + 1)) ∧ lo n ≤ w.heap.size ∧ (∀ C, C ∈ cs → C.length = 16) ∧
    ∀ (i : Nat) (_ : i < n) (hc : i < cs.length), k ≤ i → NdW eI eV (lo i) (lo (i + 1)) w (f i) cs[i]
theorem CopyN.tail {eN eI eV : TypeId} {base : Nat} {w : World} {v : Value} {n : Nat} {f : Nat → Nd} (h : CopyN eN eI eV base w v ((List.range n).map f)) : TailN eN eI eV base w v n f 0 := by
  obtain ⟨cs, lo, h1, h2, h3, h4, h5, h6, h7⟩ := h
  rw [List.length_map, List.length_range] at h1 h2 h5 h6
  have h8 : ∀ (i : Nat) (_ : i < n) (hc : i < cs.length), NdW eI eV (lo i) (lo (i + 1)) w (f i) cs[i] := fun i hi hc => by
    have := h7 i (by simpa using hi) hc
    simpa using this
  exact ⟨cs, lo, h1, h2, h3, h4, fun i _ hi => h5 i hi, h6, fun C hC => by
    obtain ⟨i, hi, rfl⟩ := List.getElem_of_mem hC
    exact (h8 i (by omega) hi).cells, fun i hi hc _ => h8 i hi hc⟩
theorem lo_le {n k : Nat} {lo : Nat → Nat} (h5 : ∀ i, k ≤ i → i < n → lo i ≤ lo (i + 1)) : ∀ j, k ≤ j → j ≤ n → lo j ≤ lo n ∧ lo k ≤ lo j := by
  have up : ∀ d j, j + d ≤ n → k ≤ j → lo j ≤ lo (j + d) := fun d => by
    induction d with
    | zero => intro j _ _; exact Nat.le_refl _
    | succ d ih => intro j h1 h2; exact Nat.le_trans (ih j (by omega) h2) (h5 (j + d) (by omega) (by omega))
  intro j h1 h2
  have a := up (n - j) j (by omega) h1
  have b := up (j - k) k (by omega) (Nat.le_refl _)
  rw [show j + (n - j) = n by omega] at a
  rw [show k + (j - k) = j by omega] at b
  exact ⟨a, b⟩
theorem TailN.ext {eN eI eV : TypeId} {base : Nat} {w w' : World} {v : Value} {n k : Nat} {f : Nat → Nd} (h : TailN eN eI eV base w v n f k) (hE : Ext w w') : TailN eN eI eV base w' v n f k := by
  obtain ⟨cs, lo, h1, h2, h3, h4, h5, h6, h7, h8⟩ := h
  refine ⟨cs, lo, h1, hE.own h2, h3, h4, h5, Nat.le_trans h6 hE.size, h7, fun i hi hc hk => (h8 i hi hc hk).far (fun b _ hb => ?_)⟩
  have := (lo_le h5 (i + 1) (by omega) (by omega)).1
  exact hE.grownBy.block b (by omega) (by simp)
theorem TailN.at {eN eI eV : TypeId} {base : Nat} {w : World} {g cap n k : Nat} {f : Nat → Nd} (h : TailN eN eI eV base w (.slice (some ⟨g, 0, none⟩) n cap) n f k) (hk : k < n) :
    ∃ (C : List Value) (p q : Nat), NdW eI eV p q w (f k) C ∧ w.rangeAt g (k * 16) C ∧ base ≤ p ∧ p ≤ q ∧ q ≤ w.heap.size ∧ g < p ∧ base ≤ g ∧
      ∀ w', w.heap.size ≤ w'.heap.size → (∀ b, b < w.heap.size → ¬ (p ≤ b ∧ b < q) → w'.heap[b]? = w.heap[b]?) → TailN eN eI eV base w' (.slice (some ⟨g, 0, none⟩) n cap) n f (k + 1) := by
  obtain ⟨cs, lo, h1, h2, h3, h4, h5, h6, h7, h8⟩ := h
  have hle := lo_le h5
  have hc : k < cs.length := by omega
  have hg := h3 g rfl
  have hl : cs.flatten.length = n * 16 := h2.1
  have q1 := hle (k + 1) (by omega) (by omega)
  refine ⟨cs[k], lo k, lo (k + 1), h8 k hk hc (Nat.le_refl _), fun j v hv => ?_, h4, h5 k (Nat.le_refl _) hk, by omega, hg, (World.ownsRow.lt h2 g rfl).1, fun w' hs hw' => ?_⟩
  · have hj : j < 16 := by
      have := (List.getElem?_eq_some_iff.1 hv).1
      have := h7 cs[k] (List.getElem_mem hc)
      omega
    rw [World.ownsRow.cellAt h2 _ (by omega), flat16 cs k j hc h7 hj]; exact hv
  · have hgw := (World.ownsRow.lt h2 g rfl).2
    refine ⟨cs, lo, h1, ownsRow_block h2 (fun b hb => hw' b (World.ownsRow.lt h2 b hb).2 (fun hh => ?_)), fun b hb => ?_, by omega, fun i hi hin => h5 i (by omega) hin, by omega, h7, fun i hi hci hki => (h8 i hi hci (by omega)).far (fun b hb1 hb2 => hw' b ?_ (fun hh => ?_))⟩
    · have : b = g := by simpa [Value.ownBlock] using hb.symm
      omega
    · have : b = g := by simpa [Value.ownBlock] using hb.symm
      have := h5 k (Nat.le_refl _) hk
      omega
    · have := (hle (i + 1) (by omega) (by omega)).1
      omega
    · have q2 := lo_le (k := k + 1) (n := n) (lo := lo) (fun i hi hin => h5 i (by omega) hin) i (by omega) (by omega)
      omega
end Fm

namespace Fm
open Go Go.RowKit

/-- The bits of a number, as the walk has them. -/
theorem bits_and_mod (n : Int) (k : Nat) (hk : k ≤ 62) : bits BinOp.and IntKind.i64 n ((2 ^ k - 1 : Nat) : Int) = n % (2 ^ k : Nat) := by
  have h2 : 2 ^ k ≤ 2 ^ 62 := Nat.pow_le_pow_right (by decide) hk
  have h3 : 0 < 2 ^ k := Nat.two_pow_pos k
  have e : (BitVec.ofInt 64 n &&& BitVec.ofInt 64 ((2 ^ k - 1 : Nat) : Int)).toNat = (n % (2 ^ k : Nat)).toNat := by
    rw [BitVec.toNat_and]
    have e2 : (BitVec.ofInt 64 ((2 ^ k - 1 : Nat) : Int)).toNat = 2 ^ k - 1 := by
      rw [BitVec.ofInt_natCast, BitVec.toNat_ofNat]
      exact Nat.mod_eq_of_lt (by omega)
    rw [e2, Nat.and_two_pow_sub_one_eq_mod, BitVec.toNat_ofInt]
    have hd : (2 ^ k : Nat) ∣ 2 ^ 64 := Nat.pow_dvd_pow 2 (by omega)
    have h5 : 0 ≤ n % ((2 ^ 64 : Nat) : Int) := Int.emod_nonneg _ (by decide)
    have h6 : (((n % ((2 ^ 64 : Nat) : Int)).toNat % 2 ^ k : Nat) : Int) = n % ((2 ^ k : Nat) : Int) := by
      rw [Int.natCast_emod, Int.toNat_of_nonneg h5, Int.emod_emod_of_dvd n (Int.natCast_dvd_natCast.2 hd)]
    have h7 : 0 ≤ n % ((2 ^ k : Nat) : Int) := Int.emod_nonneg _ (by omega)
    omega
  show IntKind.i64.wrap ((BitVec.ofInt 64 n &&& BitVec.ofInt 64 ((2 ^ k - 1 : Nat) : Int)).toNat : Int) = _
  have h7 : 0 ≤ n % ((2 ^ k : Nat) : Int) := Int.emod_nonneg _ (by omega)
  have h8 : n % ((2 ^ k : Nat) : Int) < ((2 ^ k : Nat) : Int) := Int.emod_lt_of_pos _ (by omega)
  rw [e, IntKind.wrap_i64]
  omega
theorem and1 (n : Int) : bits BinOp.and IntKind.i64 n 1 = n % 2 := bits_and_mod n 1 (by decide)
theorem and3 (n : Int) : bits BinOp.and IntKind.i64 n 3 = n % 4 := bits_and_mod n 2 (by decide)
theorem and7 (n : Int) : bits BinOp.and IntKind.i64 n 7 = n % 8 := bits_and_mod n 3 (by decide)
theorem and15 (n : Int) : bits BinOp.and IntKind.i64 n 15 = n % 16 := bits_and_mod n 4 (by decide)
theorem and255 (n : Int) : bits BinOp.and IntKind.i64 n 255 = n % 256 := bits_and_mod n 8 (by decide)
/-- One node more. -/
def ndFl (f o : Int) : Nd := ⟨[], [], 0, f, o, 0, [], 0, 0, 0, 0, 0, zT⟩
def forestN (acc : List Nd) (x : Int) : Nd :=
  if x % 256 % ((acc.length : Int) + 3) < acc.length then ndFl (nthF acc (x % 256 % ((acc.length : Int) + 3))).flow (x % 256 % ((acc.length : Int) + 3)) else ndFl (x / 256 % 2) (-1)
def forestTo (l : List Int) : Nat → List Nd
  | 0 => []
  | k + 1 => forestTo l k ++ [forestN (forestTo l k) (l.getD k 0)]
def forestF (l : List Int) : List Nd := forestTo l (min l.length 60)
theorem forestTo_len (l : List Int) : ∀ k, (forestTo l k).length = k
  | 0 => rfl
  | k + 1 => by rw [forestTo, List.length_append, forestTo_len l k]; rfl
theorem forestF_len (l : List Int) : (forestF l).length = min l.length 60 := forestTo_len _ _
def chgTo (g : Nat → Nd → Nd) (l : List Nd) (j : Nat) : List Nd := l.mapIdx (fun i n => if i < j then g i n else n)
def chgF (g : Nat → Nd → Nd) (l : List Nd) : List Nd := l.mapIdx g
theorem chgTo_len (g : Nat → Nd → Nd) (l : List Nd) (j : Nat) : (chgTo g l j).length = l.length := List.length_mapIdx
theorem chgF_len (g : Nat → Nd → Nd) (l : List Nd) : (chgF g l).length = l.length := List.length_mapIdx
theorem chgTo_zero (g : Nat → Nd → Nd) (l : List Nd) : chgTo g l 0 = l := by
  unfold chgTo
  refine List.ext_getElem (by simp) fun i h1 h2 => ?_
  simp
theorem chgTo_all (g : Nat → Nd → Nd) (l : List Nd) : chgTo g l l.length = chgF g l := by
  unfold chgTo chgF
  refine List.ext_getElem (by simp) fun i h1 h2 => ?_
  simp only [List.getElem_mapIdx]
  rw [if_pos (by simpa using h2)]
theorem chgTo_at (g : Nat → Nd → Nd) (l : List Nd) (j : Nat) (hj : j < (chgTo g l j).length) (hl : j < l.length) : (chgTo g l j)[j] = l[j] :=
  (List.getElem_mapIdx (h := hj)).trans (if_neg (Nat.lt_irrefl _))
theorem chgTo_succ (g : Nat → Nd → Nd) (l : List Nd) (j : Nat) (hl : j < l.length) : chgTo g l (j + 1) = (chgTo g l j).set j (g j l[j]) := by
  unfold chgTo
  refine List.ext_getElem (by simp) fun i h1 h2 => ?_
  rw [List.getElem_set]
  simp only [List.getElem_mapIdx]
  by_cases e : j = i
  · subst e; simp
  · rw [if_neg e]
    by_cases h : i < j
    · rw [if_pos h, if_pos (by omega)]
    · rw [if_neg h, if_neg (by omega)]
theorem chgF_at (g : Nat → Nd → Nd) (l : List Nd) (i : Nat) (hi : i < (chgF g l).length) (hl : i < l.length) : (chgF g l)[i] = g i l[i] := List.getElem_mapIdx (h := hi)
end Fm

namespace Fm
open Go Go.RowKit
theorem cmpI_lt {x y : Int} (h : x < y) : cmpI x y = -1 := by unfold cmpI; rw [if_pos h]
theorem cmpI_self (x : Int) : cmpI x x = 0 := by unfold cmpI; simp
theorem ltR_fails {r o : Rk} (h : r.fails < o.fails) : ltR r o = true := by
  unfold ltR thanR
  rw [cmpI_lt h]
  rfl
theorem ltR_up {r o : Rk} (h : r.fails = o.fails) (h2 : r.up < o.up) : ltR r o = true := by
  unfold ltR thanR
  rw [h, cmpI_self, cmpI_lt h2]
  rfl
theorem ltR_id {r o : Rk} (h : r.fails = o.fails) (h2 : r.up = o.up) (h3 : idsC r.id o.id < 0) : ltR r o = true := by
  unfold ltR thanR
  rw [h, h2, cmpI_self, cmpI_self]
  unfold orI
  rw [if_pos rfl, if_pos rfl, if_neg (by omega), decide_eq_true_eq]
  exact h3
def ndX (id : List UInt8) (st : UInt8) (fl f o : Int) (af : List Int) : Nd := ⟨id, [], 0, f, o, 0, af, 0, 0, st, fl, 0, zT⟩
def awL : List Nd := [ndX [48, 47, 97] 1 1 0 (-1) [], ndX [48, 47, 98] 1 0 0 (-1) [], ndX [49, 47, 97] 1 0 1 (-1) [], ndX [48, 47, 98, 47, 99] 1 0 0 1 []]
def awW : List Nd := [ndX [48, 47, 98] 0 0 0 (-1) [], ndX [48, 47, 99] 0 0 0 (-1) [], ndX [48, 47, 100] 0 0 0 (-1) [1, 0]]
def awV : List Nd := [ndX [48, 47, 98] 4 0 0 (-1) [], ndX [48, 47, 99] 0 0 0 (-1) [], ndX [48, 47, 100] 0 0 0 (-1) [1, 0]]
theorem awL_right : RightO awL := by
  intro i hi
  have h4 : i < 4 := hi
  rcases (by omega : i = 0 ∨ i = 1 ∨ i = 2 ∨ i = 3) with rfl | rfl | rfl | rfl
  · exact ⟨by show (-1 : Int) ≤ -1; decide, by show (-1 : Int) < ((0 : Nat) : Int); decide, fun j hj hl => by have : (-1 : Int) = (j : Int) := hj; omega⟩
  · exact ⟨by show (-1 : Int) ≤ -1; decide, by show (-1 : Int) < ((1 : Nat) : Int); decide, fun j hj hl => by have : (-1 : Int) = (j : Int) := hj; omega⟩
  · exact ⟨by show (-1 : Int) ≤ -1; decide, by show (-1 : Int) < ((2 : Nat) : Int); decide, fun j hj hl => by have : (-1 : Int) = (j : Int) := hj; omega⟩
  · exact ⟨by show (-1 : Int) ≤ 1; decide, by show (1 : Int) < ((3 : Nat) : Int); decide, fun j hj hl => by
      have : (1 : Int) = (j : Int) := hj
      obtain rfl : j = 1 := by omega
      rfl⟩
theorem p0b_p : parseP [48, 47, 98] = some ⟨0, [sBn]⟩ := parseP_iff.2 ⟨by decide, by unfold pthS; rw [itoa_0]; rfl, by decide⟩
theorem p1a_p : parseP [49, 47, 97] = some ⟨1, [stA0]⟩ := parseP_iff.2 ⟨by decide, by unfold pthS; rw [itoa_1]; rfl, by decide⟩
theorem aw_ids : idsC [48, 47, 98] [49, 47, 97] < 0 := by
  rw [(idsC_opt _ _).1, p0b_p, p1a_p]
  show thanP _ _ < 0
  unfold thanP
  rw [cmpI_lt (by decide)]
  decide
theorem aw_deep3 : deepF awL 3 = 2 := by decide +kernel
theorem aw_deep1 : deepF awL 1 = 1 := by decide +kernel
theorem aw_deep2 : deepF awL 2 = 1 := by decide +kernel
theorem aw_r0 : rankF awL 0 = ⟨1, -(deepF awL 0), 0, [48, 47, 97]⟩ := rfl
theorem aw_r1 : rankF awL 1 = ⟨0, -1, 1, [48, 47, 98]⟩ := by unfold rankF; rw [show ((1 : Nat) : Int) = 1 from rfl, aw_deep1]; rfl
theorem aw_r2 : rankF awL 2 = ⟨0, -1, 2, [49, 47, 97]⟩ := by unfold rankF; rw [show ((2 : Nat) : Int) = 2 from rfl, aw_deep2]; rfl
theorem aw_r3 : rankF awL 3 = ⟨0, -2, 3, [48, 47, 98, 47, 99]⟩ := by unfold rankF; rw [show ((3 : Nat) : Int) = 3 from rfl, aw_deep3]; rfl
theorem aw_all : allQ awL = [3, 1, 2, 0] := by
  refine (allQ_of ?_ (fun x => ?_)).symm
  · unfold SortR
    have h31 : ltR (rankF awL 3) (rankF awL 1) = true := by rw [aw_r3, aw_r1]; exact ltR_up rfl (by decide)
    have h32 : ltR (rankF awL 3) (rankF awL 2) = true := by rw [aw_r3, aw_r2]; exact ltR_up rfl (by decide)
    have h30 : ltR (rankF awL 3) (rankF awL 0) = true := by rw [aw_r3, aw_r0]; exact ltR_fails (by decide)
    have h12 : ltR (rankF awL 1) (rankF awL 2) = true := by rw [aw_r1, aw_r2]; exact ltR_id rfl rfl aw_ids
    have h10 : ltR (rankF awL 1) (rankF awL 0) = true := by rw [aw_r1, aw_r0]; exact ltR_fails (by decide)
    have h20 : ltR (rankF awL 2) (rankF awL 0) = true := by rw [aw_r2, aw_r0]; exact ltR_fails (by decide)
    simp [h31, h32, h30, h12, h10, h20]
  · constructor
    · intro h
      simp only [List.mem_cons, List.not_mem_nil, or_false] at h
      rcases h with rfl | rfl | rfl | rfl <;> exact ⟨by decide, by decide⟩
    · rintro ⟨h, -⟩
      have h4 : x < 4 := h
      rcases (by omega : x = 0 ∨ x = 1 ∨ x = 2 ∨ x = 3) with rfl | rfl | rfl | rfl <;> simp
theorem aw_waits : waitsF awW 2 = [0, 1] := by
  have h : waitsF awW 2 = sortF [1, 0] := rfl
  rw [h]
  obtain ⟨h1, h2⟩ := sortF_both [1, 0]
  exact lt_ext h1 (by decide) (fun x => by rw [h2]; simp; omega)
theorem aw_wakes : wakesF awW 1 = [] := by decide
theorem aw_wakes2 : wakesF awV 1 = [2] := by decide
end Fm

namespace Fm
open Go Go.RowKit

/-- Nodes in a row of one's own, that hold whatever the memory holds. -/
def FreeN (eN : TypeId) (base : Nat) (w : World) (v : Value) (l : List Nd) : Prop :=
  ∃ cs : List (List Value), cs.length = l.length ∧ w.ownsRow base eN 16 v l.length cs.flatten ∧ ∀ (i : Nat) (hi : i < l.length) (hc : i < cs.length), ∀ W, NdV W l[i] (.agg cs[i].toArray)
theorem FreeN.held {eN : TypeId} {base : Nat} {w : World} {v : Value} {l : List Nd} (h : FreeN eN base w v l) : HeldN eN base w v l := by
  obtain ⟨cs, h1, h2, h3⟩ := h
  exact ⟨cs, h1, h2, fun i hi hc => farNd_of (fun w' _ => h3 i hi hc w')⟩
theorem FreeN.row {eN : TypeId} {base : Nat} {w : World} {v : Value} {l : List Nd} (h : FreeN eN base w v l) : ndE.Row w l v := h.held.row
theorem FreeN.kept {eN : TypeId} {base : Nat} {w w' : World} {v : Value} {l : List Nd} {row : Option Nat} (h : FreeN eN base w v l) (hg : w.grownBy w' row) (hr : ∀ b, v.ownBlock = some b → row ≠ some b) : FreeN eN base w' v l := by
  obtain ⟨cs, h1, h2, h3⟩ := h
  refine ⟨cs, h1, h2.kept hg ?_, h3⟩
  cases e : v.ownBlock with
  | none => exact .inl rfl
  | some b => exact .inr (fun h => hr b e h.symm)
theorem FreeN.ext {eN : TypeId} {base : Nat} {w w' : World} {v : Value} {l : List Nd} (h : FreeN eN base w v l) (hE : Ext w w') : FreeN eN base w' v l := h.kept hE.grownBy (fun b _ e => by cases e)
theorem FreeN.mono {eN : TypeId} {base base' : Nat} {w : World} {v : Value} {l : List Nd} (h : FreeN eN base w v l) (hb : base' ≤ base) : FreeN eN base' w v l := by
  obtain ⟨cs, h1, h2, h3⟩ := h
  exact ⟨cs, h1, ownsRow_mono h2 hb, h3⟩
theorem FreeN.slice {eN : TypeId} {base : Nat} {w : World} {v : Value} {l : List Nd} (h : FreeN eN base w v l) : ∃ a c, v = .slice a l.length c := h.held.slice
theorem FreeN.form {eN : TypeId} {base : Nat} {w : World} {v : Value} {l : List Nd} (h : FreeN eN base w v l) (hl : 0 < l.length) : ∃ g c, v = .slice (some ⟨g, 0, none⟩) l.length c ∧ base ≤ g ∧ g < w.heap.size := h.held.form hl
theorem FreeN.lt {eN : TypeId} {base : Nat} {w : World} {v : Value} {l : List Nd} (h : FreeN eN base w v l) : ∀ k, v.ownBlock = some k → base ≤ k ∧ k < w.heap.size := h.held.lt
theorem FreeN.nil (eN : TypeId) (base : Nat) (w : World) : FreeN eN base w (.slice none 0 0) [] := ⟨[], rfl, World.ownsRow_nil _ _ _ _, fun i hi => (by cases hi)⟩
theorem FreeN.spot {eN : TypeId} {base : Nat} {w : World} {g cap : Nat} {l : List Nd} (h : FreeN eN base w (.slice (some ⟨g, 0, none⟩) l.length cap) l) {i : Nat} (hi : i < l.length) (j : Nat) (hj : j < 16) : (∃ u, w.cell? ⟨g, i * 16 + j, none⟩ = some u) ∧ w.frozen? ⟨g, i * 16 + j, none⟩ = false := h.held.spot hi j hj
theorem FreeN.relen {eN : TypeId} {base n m cap : Nat} {w : World} {a : Option Addr} {l : List Nd} (h : FreeN eN base w (.slice a n cap) l) (e : n = m) : FreeN eN base w (.slice a m cap) l := by subst e; exact h
/-- One cell of one node is written. -/
theorem FreeN.put {eN : TypeId} {base : Nat} {w : World} {g cap : Nat} {l : List Nd} (h : FreeN eN base w (.slice (some ⟨g, 0, none⟩) l.length cap) l) {i : Nat} (hi : i < l.length) (j : Nat) (hj : j < 16) (u : Value) (n' : Nd)
    (hN : ∀ (w' : World) (C : List Value), NdV w' (l[i]'hi) (.agg C.toArray) → NdV w' n' (.agg (C.set j u).toArray)) : FreeN eN base (w.setCell ⟨g, i * 16 + j, none⟩ u) (.slice (some ⟨g, 0, none⟩) l.length cap) (l.set i n') ∧ w.grownBy (w.setCell ⟨g, i * 16 + j, none⟩ u) (some g) := by
  refine ⟨?_, setOne_grown w g (i * 16 + j) u⟩
  obtain ⟨cs, h1, h2, h3⟩ := h
  have hc : i < cs.length := by omega
  have h16 : ∀ D, D ∈ cs → D.length = 16 := fun D hD => by
    obtain ⟨k, hk, rfl⟩ := List.getElem_of_mem hD
    exact (ndV_one (h3 k (by omega) hk w)).1
  refine ⟨cs.set i (cs[i].set j u), by simp [h1], ?_, fun k hk hd W => ?_⟩
  · rw [List.length_set, ← flat16_set1 hc h16 hj]
    exact (h2.stored (i * 16 + j) u).1
  · have hk' : k < l.length := by simpa using hk
    have hd' : k < cs.length := by simpa using hd
    by_cases e : i = k
    · subst e
      rw [List.getElem_set_self, List.getElem_set_self]
      exact hN W _ (h3 i hi hc W)
    · rw [List.getElem_set_ne e, List.getElem_set_ne e]
      exact h3 k hk' hd' W
theorem ndV_fails {w : World} {n : Nd} {C : List Value} (h : NdV w n (.agg C.toArray)) {x : Int} (hx : isI64 x) : NdV w { n with fails := x } (.agg (C.set 10 (.int .i64 x)).toArray) := by
  obtain ⟨a, m, c, k, N, S, d, e, h1, h2, h3, h4, h5, h6, h7, h8, h9, h10, h11⟩ := h
  injection e with e
  injection e with e
  subst e
  exact ⟨a, m, c, k, N, S, d, rfl, h1, h2, h3, h4, h5, h6, h7, h8, h9, hx, h11⟩
/-- One node more. -/
theorem FreeN.rowOf {eN : TypeId} {base : Nat} {w : World} {v : Value} {l : List Nd} (h : FreeN eN base w v l) : ∃ xs, w.ownsRow base eN 16 v l.length xs ∧
    (∀ (w' : World) (v' : Value) (n : Nd) (C : List Value), C.length = 16 → w'.ownsRow base eN 16 v' (l.length + 1) (xs ++ C) → (∀ W, NdV W n (.agg C.toArray)) → FreeN eN base w' v' (l ++ [n])) := by
  obtain ⟨cs, h1, h2, h3⟩ := h
  refine ⟨_, h2, fun w' v' n C hC hrow hn => ⟨cs ++ [C], by simp [h1], by rw [List.length_append, List.flatten_append]; simpa using hrow, fun i hi hc W => ?_⟩⟩
  by_cases hil : i < l.length
  · have hic : i < cs.length := by omega
    rw [List.getElem_append_left hil, List.getElem_append_left hic]
    exact h3 i hil hic W
  · have hi' : i = l.length := by rw [List.length_append, List.length_singleton] at hi; omega
    subst hi'
    rw [List.getElem_append_right (by omega)]
    have e2 : (cs ++ [C])[l.length] = C := by rw [List.getElem_append_right (by omega)]; simp [h1]
    rw [e2]
    simpa using hn W
end Fm

namespace Fm
open Go Go.RowKit

/-- Numbers that stay, whatever becomes of that block. -/
def FarI (w : World) (row : Option Nat) (l : List Int) (v : Value) : Prop := ∀ w', w.grownBy w' row → intE.Row w' l v
theorem FarI.row {w : World} {row : Option Nat} {l : List Int} {v : Value} (h : FarI w row l v) : intE.Row w l v := h w (grown_ext (Ext.refl w) row)
theorem FarI.then {w w' : World} {row row' : Option Nat} {l : List Int} {v : Value} (h : FarI w row l v) (hg : w.grownBy w' row) (hr : row' = row ∨ ∃ g, row' = some g ∧ w.heap.size ≤ g) : FarI w' row' l v := fun w'' hg' => h w'' (grown_row hg hg' hr)
theorem FarI.ext {w w' : World} {row : Option Nat} {l : List Int} {v : Value} (h : FarI w row l v) (hE : Ext w w') : FarI w' row l v := h.then (grown_ext hE row) (.inl rfl)
end Fm
namespace Fm
open Go Go.RowKit
/-! ### instances done one by one -/
end Fm
namespace Fm
open Go Go.RowKit
end Fm

open Go.RowKit Go.Shelf
namespace Fm
open Go Go.RowKit
end Fm
namespace Go.Proofs.YtbciamploeejiaaGreat
open Go Go.Proofs Fm
attribute [local go_sem] Oper.semAt_some

theorem natsI_i64 {l : List Nat} {n : Nat} (h : ∀ i, i ∈ l → i < n) (hn : n ≤ 1000000) : ∀ x, x ∈ natsI l → isI64 x := by
  intro x hx
  obtain ⟨i, hi, rfl⟩ := List.mem_map.1 hx
  have := h i hi
  unfold isI64
  omega
end Go.Proofs.YtbciamploeejiaaGreat

open Go.RowKit Go.Shelf
namespace Fm
open Go Go.RowKit
def flC (f o : Int) : List Value := [.string { data := #[] }, .string { data := #[] }, .int .u8 0, .int .i64 f, .int .i64 o, .int .i64 0, .slice none 0 0, .int .i64 0, .int .i64 0, .int .u8 0, .int .i64 0, .int .i64 0, .int .u8 0, .int .i64 0, .string { data := #[] }, .slice none 0 0]
theorem zT_liesF (W : World) : Lies W zT (.agg #[.int .u8 0, .int .i64 0, .string { data := #[] }, .slice none 0 0]) := (OwnT.mk (e := 0) (base := 0) (n := 0) (k := 0) (s := []) (by unfold isI64; omega) (by simp) (OwnL.nil _ _ _)).lies
theorem ndFl_v {f o : Int} (hf : isI64 f) (ho : isI64 o) (W : World) : NdV W (ndFl f o) (.agg (flC f o).toArray) := by
  have z : isI64 0 := by unfold isI64; omega
  exact ⟨none, 0, 0, .int .u8 0, .int .i64 0, .string { data := #[] }, .slice none 0 0, rfl, Elem.Row.void _ _ _, zT_liesF W, by simp [ndFl], by simp [ndFl], hf, ho, z, z, z, z, z⟩
end Fm
namespace Go.Proofs.YtbciamploeejiaaGreat
open Go Go.Proofs Fm
attribute [local go_sem] Oper.semAt_some

theorem sizeof_intC : ∀ w, (sizeOf (Tryz.prog.elem 22)).run Tryz.prog w = .ok 1 w := fun _ => by kernel_rfl
theorem slice_int_to (a : Option Addr) (len cap k : Nat) (h1 : k ≤ cap) (w : World) :
    (Instr.slice 22 (.slice a len cap) none (some (.int .i64 (k : Int))) none).run Tryz.prog w = .ok (.slice a k cap) w := by
  rw [run_slice_h (ht := by kernel_rfl) (h0 := by omega) (h2 := by omega), sizeof_intC]
  cases a <;> simp [Result.andThen, sliced, Addr.add]
theorem fill_nodesC {C : List Value} (hC : C.length = 16) (n : Nat) (hn : n = 16) (z : Value) (hz : z = .agg ndZ.toArray) :
    Instr.fill (fun i => some (i * n, n)) ((Array.range (1 * n)).map (z.cells[· % z.cells.size]!)) [(0, .agg C.toArray)] = some C.toArray := by
  subst hn hz
  obtain ⟨c0, c1, c2, c3, c4, c5, c6, c7, c8, c9, c10, c11, c12, c13, c14, c15, rfl⟩ := list_of16 hC
  kernel_rfl
/-- A slice of one node, whatever its cells. -/
theorem wpList_nodesC {ops : Array Oper} {rest : List Oper} {o : Oper} {a : Act} {w : World} {Q : Exit → Act → World → Prop} {C : List Value} (hg : Region.wanted o (yielded ops a.tmps) = true) (s1 : Operand) (ho : o.op = .buildSlice 23 1 #[(0, s1)])
    (h1 : a.eval s1 = .agg C.toArray) (hC : C.length = 16)
    (h : wpList Tryz.prog ops Q rest (a.put o.dst (.slice (some ⟨w.heap.size, 0, none⟩) 1 1)) (w.alloc (.cells C.toArray 32))) : wpList Tryz.prog ops Q (o :: rest) a w := by
  obtain ⟨i, i1, i2, i3, i4⟩ := info_parts infonode_F
  unfold wpList
  rw [if_pos hg]
  left
  refine wp_buildSlice 23 32 1 _ ho C.toArray i (.agg ndZ.toArray) Tryz.underlying23 i1 i2 (by rw [i3]; decide) (by rw [i3]; decide) ?_ h
  have e : (#[(0, s1)].map fun (x : Nat × Operand) => (x.1, a.eval x.2)).toList = [(0, .agg C.toArray)] := by simp [h1]
  exact (congrArg _ e).trans (fill_nodesC hC i.size i3 _ rfl)
end Go.Proofs.YtbciamploeejiaaGreat
