/- The contracts of package wire, second part: groups, Size, AppendSeq, Clone, Num, Text. -/
import Derived.Test.YtdienbcjfljjnaaDoorWireA
import Derived.Test.YtdienbcjfljjnaaDoorPlA
import Derived.RangeFuncNested
import Derived.RangeFuncBound
import Derived.RangeFuncCalls
import Derived.RangeFuncLeaves
import Derived.OwnWalkIn
import Derived.TacticsInMore
import Derived.LoopNIn
import Derived.LoopIn
import Derived.Maps.AppendAt
import Derived.Shelf.Abstract
open Go.RowKit Go.Shelf
namespace Go.Proofs.YtdienbcjfljjnaaDoor
open Go Go.Proofs Fm
attribute [local go_sem] Oper.semAt_some

theorem cell_new_l (W : World) (v : Value) (t : TypeId) : (W.alloc (.cells #[v] t)).cell? ⟨W.heap.size, 0, none⟩ = some v ∧ (W.alloc (.cells #[v] t)).frozen? ⟨W.heap.size, 0, none⟩ = false :=
  ⟨(Boxed.new W t v).cell, (Boxed.new W t v).frozen⟩
theorem cell_alloc_l {W : World} {a : Addr} {v : Value} (o : Obj) (h : W.cell? a = some v) : (W.alloc o).cell? a = some v := cell_kept h (World.grownBy_alloc W o none) (fun r e => by cases e)
theorem frozen_alloc_l {W : World} {a : Addr} {v : Value} (o : Obj) (h : W.cell? a = some v) (hf : W.frozen? a = false) : (W.alloc o).frozen? a = false := (frozen_kept h (World.grownBy_alloc W o none) (fun r e => by cases e)).trans hf

theorem or_128 (v : Nat) : bits BinOp.or IntKind.u8 ((v : Int) % 256) 128 = ((UInt8.ofNat (v % 128 + 128)).toNat : Int) := by
  have e : ((v : Int) % 256) = ((v % 256 : Nat) : Int) := by omega
  have := u8_or_nat (v % 256) 128 (by omega) (by omega)
  rw [e]
  rw [show ((128 : Nat) : Int) = 128 from rfl] at this
  rw [this, toNat_ofNat_lt (by omega)]
  congr 1
  have hd : ∀ b : Fin 256, b.val ||| 128 = b.val % 128 + 128 := by decide +kernel
  have := hd ⟨v % 256, by omega⟩
  simp only at this
  omega

theorem grp_cons {v i : Nat} (hi : i < 10) (hv : ¬ v < 128) : grpN (10 - i) v = UInt8.ofNat (v % 128 + 128) :: grpN (10 - (i + 1)) (v / 128) := by
  rw [show 10 - i = (10 - (i + 1)) + 1 by omega, grpN, if_neg hv]
theorem grp_last {v i : Nat} (hi : i < 10) (hv : v < 128) : grpN (10 - i) v = [UInt8.ofNat v] := by
  rw [show 10 - i = (9 - i) + 1 by omega, grpN, if_pos hv]

set_option maxHeartbeats 1000000 in
/-- The groups of a number, one by one: whatever the rounds do. -/
theorem groups1_in (n l Bn : Nat) (m : Int) (h : isI64 m) (J Jx : List UInt8 → World → Prop)
    (hY : ∀ pre x W, J pre W → pre.length < (numB m).length → YieldAt Fence.wide (n - 1) Tryd.prog l #[bv x] W fun e W' =>
      (e = .returned (.bool true) ∧ J (pre ++ [x]) W') ∨ (e = .returned (.bool false) ∧ Jx (pre ++ [x]) W'))
    (W : World) (hBn : W.cell? ⟨Bn, 0, none⟩ = some (.int .i64 m)) (h0 : J [] W) :
    CallsIn Fence.wide n Tryd.prog 96 #[.func (.yield l) #[] #[], .pointer (some ⟨Bn, 0, none⟩)] W fun e W' =>
      (∃ v, e = .returned v) ∧ (J (numB m) W' ∨ ∃ pre, pre <+: numB m ∧ Jx pre W') := by
  have hfn : ∀ f, Fence.wide.fn f := fun _ => trivial
  have hdp : Fence.wide.depth.isSome = false := rfl
  refine callsIn_of_wp Tryd.func96 rfl trivial ?_ rfl
  simp only [Tryd.ntmps96, List.size_toArray, List.length_cons, List.length_nil, Nat.reduceAdd, Nat.reduceSub, Array.replicate_succ, Array.replicate_zero, List.push_toArray, List.append_toArray, List.nil_append, List.cons_append]
  gi_wp2_with (gi_at_call 97; refine (callsIn_wide.2 (plain_any m h _)).mono ?_; rintro e w' ⟨rfl, rfl⟩)
  gi_loopw [3] (fun u wr => ∃ (pre : List UInt8) (v : Nat), u = .int .u64 v ∧ Hid (numB m = pre ++ grpN (10 - pre.length) v) ∧ Hid (v * 128 ^ pre.length < 18446744073709551616 ∧ (pre.length = 0 ∨ 0 < v)) ∧ J pre wr)
    (fun u _ => (intOf u).toNat)
  case atStart =>
    exact ⟨[], zig m, rfl, rfl, ⟨by simpa using zig_lt h, .inl rfl⟩, h0⟩
  case round =>
    obtain ⟨pre, v, rfl, HN, HV, hJs⟩ := hrel
    have hv64 : v < 18446744073709551616 := by
      have h1 := HV.out.1
      have h2 : v * 1 ≤ v * 128 ^ pre.length := Nat.mul_le_mul_left _ (Nat.pow_pos (by omega))
      omega
    have hpl : pre.length < 10 := by
      rcases HV.out.2 with h0 | h0
      · omega
      · have := le9 h0 HV.out.1; omega
    by_cases hv : v < 128
    · have hg := grp_last hpl hv
      obtain ⟨fn, tmps, assign, body, hy, hR⟩ := hY pre (UInt8.ofNat v) wr hJs (by rw [HN.out, hg]; simp)
      unfold bv at hy
      rw [toNat_ofNat_lt (by omega)] at hy
      have HG := Lib.hid (HN.out.trans (by rw [hg])); clear hg
      have hv' : ¬ (128 : Int) ≤ v := by omega
      clear hJs h0 hY
      gi_wp2
      refine hR.mono ?_
      rintro e W3 (⟨rfl, hJ3⟩ | ⟨rfl, hJx3⟩)
      · gi_wp2
        go_end0
        exact ⟨⟨_, rfl⟩, .inl (by rw [HG.out]; exact hJ3)⟩
      · gi_wp2
        go_end0
        exact ⟨⟨_, rfl⟩, .inr ⟨_, ⟨[], by rw [HG.out]; simp⟩, hJx3⟩⟩
    · have hg := grp_cons hpl hv
      have hv' : (128 : Int) ≤ v := by omega
      have hst := step_eq 0 v pre.length
      obtain ⟨x, hx⟩ : ∃ x, x = UInt8.ofNat (v % 128 + 128) := ⟨_, rfl⟩
      have hor := or_128 v
      rw [← hx] at hg hor
      obtain ⟨fn, tmps, assign, body, hy, hR⟩ := hY pre x wr hJs (by rw [HN.out, hg]; simp)
      unfold bv at hy
      have HG := Lib.hid (HN.out.trans (by rw [hg])); clear hg
      have HST := Lib.hid hst; clear hst
      have H64 := Lib.hid hv64; clear hv64
      have hvm : (v : Int) / 128 ≤ 18446744073709551615 := by have := H64.out; omega
      have hvp : (v : Int) ≤ 18446744073709551615 := by have := H64.out; omega
      clear hJs h0 hY hx
      gi_wp2
      refine hR.mono ?_
      rintro e W3 (⟨rfl, hJ3⟩ | ⟨rfl, hJx3⟩)
      · gi_wp2
        go_roundw
        case rel => exact ⟨pre ++ [x], v / 128, by go_num, by have := HG.out; simpa [Hid] using this, by
          have h1 := HV.out
          have h2 := HST.out
          constructor
          · rw [List.length_append, List.length_cons, List.length_nil, Nat.zero_add]; omega
          · right; omega, hJ3⟩
        case measure => simp [intOf]; omega
      · gi_wp2
        refine bodyPost_ret (results_none rfl _ _ _) rfl ?_
        exact ⟨⟨_, rfl⟩, .inr ⟨pre ++ [x], ⟨grpN (10 - (pre.length + 1)) (v / 128), by rw [HG.out]; simp⟩, hJx3⟩⟩

theorem groups_any (m : Int) (w : World) :
    Calls Tryd.prog 68 #[.int .i64 m] w fun e w' => e = .returned (.func (.func 96) #[] #[.pointer (some ⟨w.heap.size, 0, none⟩)]) ∧ w.alloc (.cells #[.int .i64 m] 2) = w' := by
  go_enter Tryd.func68, Tryd.ntmps68
  go_wp2
  go_ret
  exact ⟨rfl, rfl⟩

/-- The groups' contract as an iterator's. -/
theorem groups1_stops (n Bn : Nat) (m : Int) (h : isI64 m) (w : World) (hlt : Bn < w.heap.size) (hBn : w.cell? ⟨Bn, 0, none⟩ = some (.int .i64 m)) :
    SeqStopsK Fence.wide n Tryd.prog 96 #[.pointer (some ⟨Bn, 0, none⟩)] (fun x => #[bv x]) (fun _ _ => True) (fun xs => xs = numB m) (fun pre => pre <+: numB m) (numB m).length w := by
  intro l J Jx W hW hJ hJx hY h0
  refine (groups1_in n l Bn m h J Jx (fun pre x W1 hj hl => ?_) W ((hW.cell (p := ⟨Bn, 0, none⟩) hlt).trans hBn) h0).mono ?_
  · obtain ⟨fn, tmps, assign, body, hy, hR⟩ := hY pre x W1 hj hl
    refine ⟨fn, tmps, assign, body, hy, hR.mono ?_⟩
    rintro e W' (⟨h1, h2, _⟩ | h1)
    · exact .inl ⟨h1, h2⟩
    · exact .inr h1
  · rintro e W' ⟨hv, h1 | ⟨pre, h1, h2⟩⟩
    · exact ⟨hv, .inl ⟨_, rfl, h1⟩⟩
    · exact ⟨hv, .inr ⟨pre, h1, h2⟩⟩

theorem info_u8 : (Tryd.prog.info? 5).map (fun i => (i.zero, i.size, i.bytes)) = some (some (.int .u8 0), 1, 1) := by kernel_rfl

/-- The call has made a slice of its own of these bytes, and nothing that lay has turned. -/
def OwnBytes (w w' : World) (v : Value) (xs : List UInt8) : Prop :=
  w'.ownsRow w.heap.size 5 1 v xs.length (xs.map bv) ∧ Ext w w'
def RetBytes (w : World) (xs : List UInt8) (e : Ending) (w' : World) : Prop := ∃ v, e = .returned v ∧ OwnBytes w w' v xs
theorem OwnBytes.bytes {w w' : World} {v : Value} {xs : List UInt8} (h : OwnBytes w w' v xs) : Bytes w' v xs := Bytes.of_own h.1
theorem map_bv_length (xs : List UInt8) : (xs.map bv).length = xs.length := by simp

theorem cells_bytes {w : World} {b off : Nat} {xs : List UInt8} (hc : ∀ j, j < xs.length → w.cell? ⟨b, off + j, none⟩ = some (bv (xs[j]?.getD 0))) :
    ∀ j u, (xs.map bv)[j]? = some u → w.cell? ((⟨b, off, none⟩ : Addr).add j) = some u := by
  intro j u hu
  have hj : j < xs.length := by have := (List.getElem?_eq_some_iff.1 hu).1; simpa using this
  rw [Addr.add_lit, hc j hj]
  rw [List.getElem?_map] at hu
  simp [hj] at hu ⊢
  exact hu
theorem bv_one (xs : List UInt8) : ∀ u ∈ xs.map bv, u.oneCell' = true := by
  intro u hu
  obtain ⟨x, _, rfl⟩ := List.mem_map.1 hu
  rfl

theorem clone_any (v : Value) (xs : List UInt8) (w : World) (h : Bytes w v xs) (hs : xs.length ≤ 1099511627776) :
    Calls Tryd.prog 67 #[v] w (RetBytes w xs) := by
  obtain ⟨i0, hi, hz0, hz1, hz2⟩ := info_parts info_u8
  have hq := fun a n c => Lib.run_eql_slice_nil (P := Tryd.prog) w 27 5 a n c 0 0 Tryd.underlying27
  rcases h.parts with ⟨a, rfl, rfl⟩ | ⟨b, off, cap, rfl, hl, hc, hb, hcell⟩
  · cases a with
    | none =>
      go_enter Tryd.func67, Tryd.ntmps67
      go_wp2
      go_ret
      exact ⟨_, rfl, World.ownsRow_nil _ _ _ _, Ext.refl _⟩
    | some ad =>
      have HO := Lib.hid (World.ownsRow_made w #[] 0 (base := w.heap.size) (e := 5) (size := 1) (Nat.le_refl _) (by simp) rfl)
      go_enter Tryd.func67, Tryd.ntmps67
      go_wp2_with (at_builtin; refine wpList_append_own _ rfl _ _ 27 rfl w.heap.size 5 i0 (.int .u8 0) 1 1 Tryd.underlying27 hi hz0 hz1 hz2 rfl (by decide) _ _ _ rfl HO.out ad 0 0 [] rfl rfl (fun _ _ h => by cases h) (fun _ h => by cases h) ?c1 ?c2 ?c3 ?_)
      case c1 => unfold maxLen; omega
      case c2 => omega
      case c3 => simp
      intro v' w1 hown' hgrow _
      have hE : Ext w w1 := ((Ext.refl w).alloc _).grown hgrow (fun k e => by simp [Value.ownBlock] at e; omega)
      clear hi hz0 hz1 hz2
      go_wp2
      go_ret
      exact ⟨v', rfl, hown', hE⟩
  · unfold maxLen at hc
    have hcx := cells_bytes (fun j hj => (World.cell?_alloc_lt (w := w) (a := ⟨b, off + j, none⟩) (o := .cells #[] 5) hb).trans (hcell j hj))
    have hown := World.ownsRow_made w #[] 0 (base := w.heap.size) (e := 5) (size := 1) (Nat.le_refl _) (by simp) rfl
    have HC := Lib.hid hcx; clear hcx hcell h
    have HO := Lib.hid hown; clear hown
    go_enter Tryd.func67, Tryd.ntmps67
    go_wp2_with (at_builtin; refine wpList_append_own _ rfl _ _ 27 rfl w.heap.size 5 i0 (.int .u8 0) 1 1 Tryd.underlying27 hi hz0 hz1 hz2 rfl (by decide) _ _ _ rfl HO.out ⟨b, off, none⟩ xs.length cap (xs.map bv) rfl (by simp) HC.out (bv_one xs) ?c1 ?c2 ?c3 ?_)
    case c1 => unfold maxLen; omega
    case c2 => omega
    case c3 => simp
    intro v' w1 hown' hgrow _
    have hE : Ext w w1 := ((Ext.refl w).alloc _).grown hgrow (fun k e => by simp [Value.ownBlock] at e; omega)
    clear hi hz0 hz1 hz2
    go_wp2
    go_ret
    exact ⟨v', rfl, hown', hE⟩


set_option maxRecDepth 100000 in
set_option maxHeartbeats 2000000 in
/-- slices.AppendSeq(s, groups(m)), s a slice that the caller owns from n₀ on. -/
theorem appendSeq_any (n₀ Bn : Nat) (m : Int) (h : isI64 m) (v : Value) (xs : List UInt8) (hs : xs.length ≤ 2199023255552) (w : World) (hn₀ : n₀ ≤ w.heap.size) (hBn : Bn < w.heap.size) (hcell : w.cell? ⟨Bn, 0, none⟩ = some (.int .i64 m))
    (hrow : w.ownsRow n₀ 5 1 v xs.length (xs.map bv)) :
    Calls Tryd.prog 66 #[v, .func (.func 96) #[] #[.pointer (some ⟨Bn, 0, none⟩)]] w fun e w' =>
      ∃ v', e = .returned v' ∧ w'.ownsRow n₀ 5 1 v' (xs.length + (numB m).length) (xs.map bv ++ (numB m).map bv) ∧ Below n₀ w w' := by
  have hfn : ∀ f, Fence.wide.fn f := fun _ => trivial
  have hdp : Fence.wide.depth.isSome = false := rfl
  have hlen := numB_le m
  obtain ⟨i0, hi, hz0, hz1, hz2⟩ := info_parts info_u8
  refine (callsIn_wide (n := 3)).1 ?_
  refine callsIn_of_wp_marks Tryd.func66 rfl trivial ?_ rfl
  simp only [Tryd.ntmps66, List.size_toArray, List.length_cons, List.length_nil, Nat.reduceAdd, Nat.reduceSub, Array.replicate_succ, Array.replicate_zero, List.push_toArray, List.append_toArray, List.nil_append, List.cons_append]
  have hvs : ∃ a c, v = .slice a xs.length c := by
    rcases hrow.2 with ⟨rfl, h0⟩ | ⟨g, cap, cur, rfl, _⟩
    · exact ⟨_, _, by rw [h0]⟩
    · exact ⟨_, _, rfl⟩
  obtain ⟨a0, c0, rfl⟩ := hvs
  have HR := Lib.hid hrow; clear hrow
  gi_wp2
  have hrow := HR.out
  have bO := Boxed.new w 27 (.slice a0 xs.length c0)
  have hB0 : Below n₀ w (w.alloc (.cells #[.slice a0 xs.length c0] 27)) := (Below.refl _ w).alloc hn₀ _
  refine wpIn_rangeFunc_ownG rfl (by decide) (gf := 96) (lb := #[.pointer (some ⟨Bn, 0, none⟩)]) rfl trivial (enters_of Tryd.func96 (by kernel_rfl) rfl)
    (groups1_stops _ Bn m h _ (by simp; omega) (cell_alloc_l _ hcell)) (fun _ _ => trivial) (fun _ _ _ _ _ _ _ _ => trivial) (Below.refl _ _) (fun _ => rfl)
    (fun pre W => (∃ v, Boxed W w.heap.size 27 v ∧ W.ownsRow n₀ 5 1 v (xs.length + pre.length) (xs.map bv ++ pre.map bv) ∧ True) ∧ Below n₀ w W)
    (fun _ _ _ => False)
    (OwnFrom.and (Own.from (holdsRow_own n₀ w.heap.size 27 5 1 (fun pre : List UInt8 => xs.length + pre.length) (fun pre : List UInt8 => xs.map bv ++ pre.map bv) (fun _ _ => True)) _) (ownFrom_below hn₀ (by simp; omega)))
    (fun _ _ _ _ _ hs _ _ => hs)
    ⟨⟨_, bO, by simpa using hrow.alloc _, trivial⟩, hB0⟩
    (fun x => { tmps := #[.slice a0 xs.length c0, .func (.func 96) #[] #[.pointer (some ⟨Bn, 0, none⟩)], .pointer (some ⟨w.heap.size, 0, none⟩), undef, .slice none 0 0, .int .u8 x.toNat, .func (.func 96) #[] #[.pointer (some ⟨Bn, 0, none⟩)], .int .u8 x.toNat, undef, undef, undef, undef, undef], defers := [] }) ?assign ?body ?done ?stop
  case assign =>
    intro l x W K hK
    gi_wp2
    exact hK
  case body =>
    rintro l pre x W ⟨⟨v, hv, hrow, _⟩, hB⟩ hlt
    have hc := hv.cell
    clear hcell
    gi_wp2_with (gi_at_builtin; refine wpListIn_append_own _ rfl _ _ 27 rfl n₀ 5 i0 (.int .u8 0) 1 1 Tryd.underlying27 hi hz0 hz1 hz2 rfl (by decide) _ _ _ rfl (hrow.alloc _) ⟨W.heap.size, 0, none⟩ 1 1 [.int .u8 x.toNat] rfl rfl (cell_one_new _ _ _) (by simp [Value.oneCell']) (by unfold maxLen; omega) (by omega) (by have := hB.size; simp; omega) ?_; intro v' w1 hown' hgrow _; obtain ⟨g', cap', rfl⟩ := ownsRow_succ hown'; obtain ⟨hv1, hv2, hr2, hk2, hb2⟩ := hv.appended (by decide) hrow (Nat.le_trans hn₀ (by have := hv.lt; omega)) hn₀ hown' hgrow; have hc1 := hv1.cell; have hf1 := hv1.frozen)
    exact ⟨hk2.from _, trivial, ⟨_, hv2, by simpa [List.append_assoc, bv, Nat.add_assoc] using hr2, trivial⟩, hB.trans hb2⟩
  case done =>
    rintro D ys W hD rfl ⟨⟨v, hv, hrow, _⟩, hB⟩ hK
    have hc := hv.cell
    clear hcell
    gi_wp2
    refine ⟨by simp, .inl ⟨_, _, rfl, run_takeDeferred hK, ?_⟩⟩
    exact ⟨_, results_tmp rfl _ _ _, v, rfl, ownsRow_putObj hrow _ hK rfl, hB.trans (belowK_b (w := w) hn₀ W D _ _ (by simp at hD; omega) hK rfl rfl)⟩
  case stop =>
    rintro D c pre W _ _ h _
    exact h.elim
end Go.Proofs.YtdienbcjfljjnaaDoor
