/- slices.Grow at []byte out of the shelf; slices.Concat at []byte; rows of bytes. -/
import Derived.Test.YtdienbcjfljjnaaGreatDoorSnZ
import Derived.Test.YtdienbcjfljjnaaGreatDoorWireR
import Derived.Shelf.Spec.SlicesGrow
import Derived.Test.YtdienbcjfljjnaaGreatDoorWireB
import Derived.Test.YtdienbcjfljjnaaGreatDoorShelfF
open Go.RowKit Go.Shelf
namespace Fm
open Go
/-- A whole struct is loaded in a region that draws its order. -/
theorem take_load2 {P : Program} {ops : Array Oper} {Q : Exit → Act → World → Prop} {md : Region.Mode} {S : World → Prop} (i : Nat) (d : Option Tmp) {fuel : Nat} {listed : Array Bool} {a : Act} {w : World}
    (hi : ops[i]? = some (ops.getD i default)) (hd : (ops.getD i default).dst = d) (hs : Region.noSelect ops = true) (hf : Region.free md ops listed i = true) (hr : (Region.ready md ops listed).contains i = true) {cs : List Value}
    (hQ : ∀ c a w, Q (.panic c) (a.put d (.agg cs.toArray)) w → Q (.panic c) a w) (hw : Region.wanted (ops.getD i default) (yielded ops a.tmps) = true) (ty : TypeId) (x : Operand) (ho : (ops.getD i default).op = .load ty x)
    (b o : Nat) (hx : a.eval x = .pointer (some ⟨b, o, none⟩)) (cs' : List Value := cs) (td : TypeDesc) (hc : ∀ w, S w → w.rangeAt b o cs) (hu : P.underlying ty = some td) (hrow : td.isRow = true) (hin : (P.info? ty).map (·.size) = some cs.length) (hS : S w)
    (h : wpAnyH P md ops Q S fuel (listed.setIfInBounds i true) (a.put d (.agg cs.toArray)) w) : wpAnyH P md ops Q S (fuel + 1) listed a w := by
  subst hd; exact wpAnyH_take hi hs hf hr hQ (yieldsIf_load_mid hw ty x ho b o hx cs td hc hu hrow hin) hS h
end Fm
namespace Go.Proofs.YtdienbcjfljjnaaGreatDoor
open Go Go.Proofs Fm

set_option maxRecDepth 100000 in
set_option maxHeartbeats 16000000 in
theorem rsSame_any (o p : Sn) (w : World) (v x : Value) (hv : SnV w o v) (hx : SnV w p x) :
    Calls Tryz.prog 11 #[v, x] w fun e w' => e = .returned (.bool (eqSn o p)) ∧ Ext w w' := by
  obtain ⟨a, m, c, rfl, hr, -⟩ := hv
  obtain ⟨a', m', c', rfl, hr', -⟩ := hx
  obtain ⟨C, hC⟩ : ∃ z, z = o.cq := ⟨_, rfl⟩
  obtain ⟨C', hC'⟩ : ∃ z, z = p.cq := ⟨_, rfl⟩
  obtain ⟨D, hD⟩ : ∃ z, z = o.cd := ⟨_, rfl⟩
  obtain ⟨D', hD'⟩ : ∃ z, z = p.cd := ⟨_, rfl⟩
  obtain ⟨W, hW⟩ : ∃ z, z = o.cw := ⟨_, rfl⟩
  obtain ⟨W', hW'⟩ : ∃ z, z = p.cw := ⟨_, rfl⟩
  obtain ⟨R, hR⟩ : ∃ z, z = o.cr := ⟨_, rfl⟩
  obtain ⟨R', hR'⟩ : ∃ z, z = p.cr := ⟨_, rfl⟩
  obtain ⟨G, hG⟩ : ∃ z, z = o.cf := ⟨_, rfl⟩
  obtain ⟨G', hG'⟩ : ∃ z, z = p.cf := ⟨_, rfl⟩
  obtain ⟨F, hF⟩ : ∃ z, z = o.flows := ⟨_, rfl⟩
  obtain ⟨F', hF'⟩ : ∃ z, z = p.flows := ⟨_, rfl⟩
  obtain ⟨T, hT⟩ : ∃ z, z = o.tok := ⟨_, rfl⟩
  obtain ⟨T', hT'⟩ : ∃ z, z = p.tok := ⟨_, rfl⟩
  have hX : eqSn o p = ((C == C') && ((D == D') && ((W == W') && ((R == R') && ((G == G') && ((F == F') && ((T == T') && eqNds o.nodes p.nodes))))))) := by
    rw [eqSn_all, hC, hC', hD, hD', hW, hW', hR, hR', hG, hG', hF, hF', hT, hT', int_beq, int_beq, int_beq, int_beq, int_beq, int_beq, int_beq]
  rw [← hC, ← hC', ← hD, ← hD', ← hW, ← hW', ← hR, ← hR', ← hG, ← hG', ← hF, ← hF', ← hT, ← hT']
  obtain rfl : m = o.nodes.length := by obtain ⟨_, _, e, _⟩ := hr.slice; injection e
  obtain rfl : m' = p.nodes.length := by obtain ⟨_, _, e, _⟩ := hr'.slice; injection e
  have hml : o.nodes.length ≤ 9223372036854775807 := hr.length_le
  have HR := Lib.hid hr
  have HR' := Lib.hid hr'
  have HX := Lib.hid hX
  clear hX hr hr' hC hC' hD hD' hW hW' hR hR' hG hG' hF hF' hT hT'
  have h1 := (BoxL.new w [.int .i64 C, .int .i64 D, .int .i64 W, .int .i64 R, .int .i64 G, .int .i64 F, .slice a o.nodes.length c, .int .i64 T] 26).ext ((Ext.refl _).alloc (.cells #[.int .i64 C', .int .i64 D', .int .i64 W', .int .i64 R', .int .i64 G', .int .i64 F', .slice a' p.nodes.length c', .int .i64 T'] 26))
  have h2 := BoxL.new (w.alloc (.cells #[.int .i64 C, .int .i64 D, .int .i64 W, .int .i64 R, .int .i64 G, .int .i64 F, .slice a o.nodes.length c, .int .i64 T] 26)) [.int .i64 C', .int .i64 D', .int .i64 W', .int .i64 R', .int .i64 G', .int .i64 F', .slice a' p.nodes.length c', .int .i64 T'] 26
  have hz : (w.alloc (.cells #[.int .i64 C, .int .i64 D, .int .i64 W, .int .i64 R, .int .i64 G, .int .i64 F, .slice a o.nodes.length c, .int .i64 T] 26)).heap.size = w.heap.size + 1 := by simp
  rw [hz] at h2
  have hE := ((Ext.refl w).alloc (.cells #[.int .i64 C, .int .i64 D, .int .i64 W, .int .i64 R, .int .i64 G, .int .i64 F, .slice a o.nodes.length c, .int .i64 T] 26)).alloc (.cells #[.int .i64 C', .int .i64 D', .int .i64 W', .int .i64 R', .int .i64 G', .int .i64 F', .slice a' p.nodes.length c', .int .i64 T'] 26)
  clear hz
  go_enter Tryz.func11, Tryz.ntmps11
  go_upto_region 1 with (fail)
  have H1 := Lib.hid h1
  have H2 := Lib.hid h2
  have HE := Lib.hid hE
  clear h1 h2 hE
  generalize (w.alloc _).alloc _ = W1 at *
  have ⟨p0, p1, p2, p3, p4, p5, p6, p7⟩ := H1.out.n8
  have ⟨q0, q1, q2, q3, q4, q5, q6, q7⟩ := H2.out.n8
  cases b0 : (C == C') with
  | false =>
    have n0 : (C != C') = true := by rw [bne, b0]; rfl
    have HB := Lib.hid (by rw [HX.out, b0]; simp : eqSn o p = false)
    go_wp2
    go_ret
    exact ⟨by rw [HB.out]; rfl, HE.out⟩
  | true =>
  have n0 : (C != C') = false := by rw [bne, b0]; rfl
  have HX := Lib.hid (by rw [HX.out, b0, Bool.true_and] : eqSn o p = ((D == D') && ((W == W') && ((R == R') && ((G == G') && ((F == F') && ((T == T') && eqNds o.nodes p.nodes)))))))
  cases b1 : (D == D') with
  | false =>
    have n1 : (D != D') = true := by rw [bne, b1]; rfl
    have HB := Lib.hid (by rw [HX.out, b1]; simp : eqSn o p = false)
    go_wp2
    go_ret
    exact ⟨by rw [HB.out]; rfl, HE.out⟩
  | true =>
  have n1 : (D != D') = false := by rw [bne, b1]; rfl
  have HX := Lib.hid (by rw [HX.out, b1, Bool.true_and] : eqSn o p = ((W == W') && ((R == R') && ((G == G') && ((F == F') && ((T == T') && eqNds o.nodes p.nodes))))))
  cases b2 : (W == W') with
  | false =>
    have n2 : (W != W') = true := by rw [bne, b2]; rfl
    have HB := Lib.hid (by rw [HX.out, b2]; simp : eqSn o p = false)
    go_wp2
    go_ret
    exact ⟨by rw [HB.out]; rfl, HE.out⟩
  | true =>
  have n2 : (W != W') = false := by rw [bne, b2]; rfl
  have HX := Lib.hid (by rw [HX.out, b2, Bool.true_and] : eqSn o p = ((R == R') && ((G == G') && ((F == F') && ((T == T') && eqNds o.nodes p.nodes)))))
  cases b3 : (R == R') with
  | false =>
    have n3 : (R != R') = true := by rw [bne, b3]; rfl
    have HB := Lib.hid (by rw [HX.out, b3]; simp : eqSn o p = false)
    go_wp2
    go_ret
    exact ⟨by rw [HB.out]; rfl, HE.out⟩
  | true =>
  have n3 : (R != R') = false := by rw [bne, b3]; rfl
  have HX := Lib.hid (by rw [HX.out, b3, Bool.true_and] : eqSn o p = ((G == G') && ((F == F') && ((T == T') && eqNds o.nodes p.nodes))))
  cases b4 : (G == G') with
  | false =>
    have n4 : (G != G') = true := by rw [bne, b4]; rfl
    have HB := Lib.hid (by rw [HX.out, b4]; simp : eqSn o p = false)
    go_wp2
    go_ret
    exact ⟨by rw [HB.out]; rfl, HE.out⟩
  | true =>
  have n4 : (G != G') = false := by rw [bne, b4]; rfl
  have HX := Lib.hid (by rw [HX.out, b4, Bool.true_and] : eqSn o p = ((F == F') && ((T == T') && eqNds o.nodes p.nodes)))
  cases b5 : (F == F') with
  | false =>
    have n5 : (F != F') = true := by rw [bne, b5]; rfl
    have HB := Lib.hid (by rw [HX.out, b5]; simp : eqSn o p = false)
    go_wp2
    go_ret
    exact ⟨by rw [HB.out]; rfl, HE.out⟩
  | true =>
  have n5 : (F != F') = false := by rw [bne, b5]; rfl
  have HX := Lib.hid (by rw [HX.out, b5, Bool.true_and] : eqSn o p = ((T == T') && eqNds o.nodes p.nodes))
  cases b6 : (T == T') with
  | false =>
    have n6 : (T != T') = true := by rw [bne, b6]; rfl
    have HB := Lib.hid (by rw [HX.out, b6]; simp : eqSn o p = false)
    go_wp2
    go_ret
    exact ⟨by rw [HB.out]; rfl, HE.out⟩
  | true =>
  have n6 : (T != T') = false := by rw [bne, b6]; rfl
  have HX := Lib.hid (by rw [HX.out, b6, Bool.true_and] : eqSn o p = eqNds o.nodes p.nodes)
  by_cases hlen : o.nodes.length = p.nodes.length
  case neg =>
    have f3 : ((o.nodes.length : Int) != (p.nodes.length : Int)) = true := by rw [bne, Bool.not_eq_true']; simp; omega
    have HB : Hid (eqSn o p = false) := Lib.hid (by rw [HX.out]; exact eqNds_ne (fun e => hlen (by rw [e])))
    go_wp2
    go_ret
    exact ⟨by rw [HB.out]; rfl, HE.out⟩
  have f3 : ((o.nodes.length : Int) != (p.nodes.length : Int)) = false := by rw [hlen]; simp
  have HLN := Lib.hid hlen
  clear hlen
  go_wp2_with fail
  clear f3 p0 p1 p2 p3 p4 p5 p6 p7 q0 q1 q2 q3 q4 q5 q6 q7 n0 n1 n2 n3 n4 n5 n6 b0 b1 b2 b3 b4 b5 b6
  go_loopw [5] (fun i wr => ∃ j : Nat, j ≤ o.nodes.length ∧ i = .int .i64 j ∧ Hid (o.nodes.take j = p.nodes.take j) ∧ Hid (Ext W1 wr)) (fun i _ => o.nodes.length - (intOf i).toNat)
  case atStart => exact ⟨0, by omega, rfl, Lib.hid (by simp), Lib.hid (Ext.refl _)⟩
  case round =>
  obtain ⟨j, hj, rfl, HA, HEr⟩ := hrel
  have r6 := (H1.out.ext HEr.out).cell 6 _ rfl
  by_cases hlt : j < o.nodes.length
  case neg =>
    have hj2 : ¬ (j : Int) < (o.nodes.length : Int) := by omega
    have HB : Hid (eqSn o p = true) := Lib.hid (by
      rw [HX.out]
      refine eqNds_iff.2 ?_
      have h := HA.out
      have e1 : j = o.nodes.length := by omega
      rw [e1, List.take_length, HLN.out, List.take_length] at h
      exact h)
    clear HA
    go_wp2
    go_ret
    exact ⟨by rw [HB.out]; rfl, HE.out.trans HEr.out⟩
  have hlp : j < p.nodes.length := by have := HLN.out; omega
  have s6 := (H2.out.ext HEr.out).cell 6 _ rfl
  obtain ⟨b, off, rfl, hb, CN, hC, hC1, hRC, hs⟩ := nd_op HR.out (HE.out.trans HEr.out) j hlt
  obtain ⟨b', off', rfl, hb', DN, hD, hD1, hRD, hs'⟩ := nd_op HR'.out (HE.out.trans HEr.out) j hlp
  have hbz := Nat.lt_of_lt_of_le hb (HE.out.trans HEr.out).size
  have hbz' := Nat.lt_of_lt_of_le hb' (HE.out.trans HEr.out).size
  have HS := Lib.hid (hs.ext (HE.out.trans HEr.out))
  have HS' := Lib.hid (hs'.ext (HE.out.trans HEr.out))
  have HCi : Hid ((Tryz.prog.info? 59).map (·.size) = some CN.length) := Lib.hid (by rw [hC]; exact info_ndY2)
  have HDi : Hid ((Tryz.prog.info? 59).map (·.size) = some DN.length) := Lib.hid (by rw [hD]; exact info_ndY2)
  have HSS : Hid (∀ W2, Ext wr W2 → W2.cell? ⟨w.heap.size, 6, none⟩ = some (.slice (some ⟨b, off, none⟩) o.nodes.length c) ∧ W2.cell? ⟨w.heap.size + 1, 6, none⟩ = some (.slice (some ⟨b', off', none⟩) p.nodes.length c') ∧ W2.rangeAt b (off + j * 16) CN ∧ W2.rangeAt b' (off' + j * 16) DN) :=
    Lib.hid (fun W2 h => ⟨(H1.out.ext (HEr.out.trans h)).cell 6 _ rfl, (H2.out.ext (HEr.out.trans h)).cell 6 _ rfl, rangeAt_ext hRC h hbz, rangeAt_ext hRD h hbz'⟩)
  have hj0 : (0 : Int) ≤ (j : Int) := by omega
  have hj1 : (j : Int) < (o.nodes.length : Int) := by omega
  have hj2 : (j : Int) < (p.nodes.length : Int) := by omega
  clear hs hs' hC hD hC1 hD1 hRC hRD
  go_upto_region 6 with (fail)
  refine wp_region_held_drew (S := (fun w' => w'.cell? ⟨w.heap.size, 6, none⟩ = some (.slice (some ⟨b, off, none⟩) o.nodes.length c) ∧ w'.cell? ⟨w.heap.size + 1, 6, none⟩ = some (.slice (some ⟨b', off', none⟩) p.nodes.length c') ∧ w'.rangeAt b (off + j * 16) CN ∧ w'.rangeAt b' (off' + j * 16) DN)) (by kernel_rfl) ?_ (fun hHeld => ?_)
  · (try dsimp only)
    exact HSS.out _ (Ext.refl _).drew
  refine take_w 0 (some 41) (v := ?_) (by kernel_rfl) (by kernel_rfl) (by kernel_rfl) (by kernel_rfl) (by kernel_rfl) (fun _ _ _ h => h) (by rfl) ?_ (by assumption) ?_
  rotate_left
  · (intro w hSw; (try dsimp only at hSw); go_simp; try with_reducible rfl)
  try simp only [Act.put, List.setIfInBounds_toArray, List.set_cons_zero, List.set_cons_succ]
  refine take_w 1 (some 42) (v := ?_) (by kernel_rfl) (by kernel_rfl) (by kernel_rfl) (by kernel_rfl) (by kernel_rfl) (fun _ _ _ h => h) (by rfl) ?_ (by assumption) ?_
  rotate_left
  · (intro w hSw; (try dsimp only at hSw); go_simp; try with_reducible rfl)
  try simp only [Act.put, List.setIfInBounds_toArray, List.set_cons_zero, List.set_cons_succ]
  refine take_w 2 (some 43) (v := ?_) (by kernel_rfl) (by kernel_rfl) (by kernel_rfl) (by kernel_rfl) (by kernel_rfl) (fun _ _ _ h => h) (by rfl) ?_ (by assumption) ?_
  rotate_left
  · (intro w hSw; (try dsimp only at hSw); go_simp; try with_reducible rfl)
  try simp only [Act.put, List.setIfInBounds_toArray, List.set_cons_zero, List.set_cons_succ]
  refine take_w 3 (some 44) (v := ?_) (by kernel_rfl) (by kernel_rfl) (by kernel_rfl) (by kernel_rfl) (by kernel_rfl) (fun _ _ _ h => h) (by rfl) ?_ (by assumption) ?_
  rotate_left
  · (intro w hSw; (try dsimp only at hSw); go_simp; try with_reducible rfl)
  try simp only [Act.put, List.setIfInBounds_toArray, List.set_cons_zero, List.set_cons_succ]
  refine take_load2 4 (some 45) (by kernel_rfl) (by kernel_rfl) (by kernel_rfl) (by kernel_rfl) (by kernel_rfl) (fun _ _ _ h => h) (by rfl) 59 (.tmp 44) (by kernel_rfl) b (off + j * 16) (by rfl) CN _ (fun w h => h.2.2.1) Tryz.underlying59 rfl HCi.out (by assumption) ?_
  try simp only [Act.put, List.setIfInBounds_toArray, List.set_cons_zero, List.set_cons_succ]
  refine take_w 5 (some 46) (v := ?_) (by kernel_rfl) (by kernel_rfl) (by kernel_rfl) (by kernel_rfl) (by kernel_rfl) (fun _ _ _ h => h) (by rfl) ?_ (by assumption) ?_
  rotate_left
  · (intro w hSw; (try dsimp only at hSw); go_simp; try with_reducible rfl)
  try simp only [Act.put, List.setIfInBounds_toArray, List.set_cons_zero, List.set_cons_succ]
  refine take_w 6 (some 47) (v := ?_) (by kernel_rfl) (by kernel_rfl) (by kernel_rfl) (by kernel_rfl) (by kernel_rfl) (fun _ _ _ h => h) (by rfl) ?_ (by assumption) ?_
  rotate_left
  · (intro w hSw; (try dsimp only at hSw); go_simp; try with_reducible rfl)
  try simp only [Act.put, List.setIfInBounds_toArray, List.set_cons_zero, List.set_cons_succ]
  refine take_w 7 (some 48) (v := ?_) (by kernel_rfl) (by kernel_rfl) (by kernel_rfl) (by kernel_rfl) (by kernel_rfl) (fun _ _ _ h => h) (by rfl) ?_ (by assumption) ?_
  rotate_left
  · (intro w hSw; (try dsimp only at hSw); go_simp; try with_reducible rfl)
  try simp only [Act.put, List.setIfInBounds_toArray, List.set_cons_zero, List.set_cons_succ]
  refine take_w 8 (some 49) (v := ?_) (by kernel_rfl) (by kernel_rfl) (by kernel_rfl) (by kernel_rfl) (by kernel_rfl) (fun _ _ _ h => h) (by rfl) ?_ (by assumption) ?_
  rotate_left
  · (intro w hSw; (try dsimp only at hSw); go_simp; try with_reducible rfl)
  try simp only [Act.put, List.setIfInBounds_toArray, List.set_cons_zero, List.set_cons_succ]
  refine take_load2 9 (some 50) (by kernel_rfl) (by kernel_rfl) (by kernel_rfl) (by kernel_rfl) (by kernel_rfl) (fun _ _ _ h => h) (by rfl) 59 (.tmp 49) (by kernel_rfl) b' (off' + j * 16) (by rfl) DN _ (fun w h => h.2.2.2) Tryz.underlying59 rfl HDi.out (by assumption) ?_
  try simp only [Act.put, List.setIfInBounds_toArray, List.set_cons_zero, List.set_cons_succ]
  refine ready_one 10 (by kernel_rfl) (by kernel_rfl) (by rfl) (fun Kc hKc => ?_)
  go_simp
  refine (rSameNode_any _ _ _ _ _ (HS.out.ext (Ext.refl wr).drew) (HS'.out.ext (Ext.refl wr).drew)).mono ?_
  rintro e wn ⟨rfl, hEn⟩
  have HEn := Lib.hid ((Ext.refl wr).drew.trans hEn)
  clear hEn
  try go_wp2_with fail
  refine hKc.out _ _ ?_ (fun hHeld => ?_)
  · (try dsimp only)
    exact HSS.out _ HEn.out
  clear hKc Kc
  try simp only [Act.put, List.setIfInBounds_toArray, List.set_cons_zero, List.set_cons_succ]
  cases hkx : eqNd o.nodes[j] p.nodes[j] with
  | true =>
    have HA2 := Lib.hid (take_more hlt hlp HA.out (eqNd_iff.1 hkx))
    clear HA HS HS'
    refine take_w 11 (some 52) (v := ?_) (by kernel_rfl) (by kernel_rfl) (by kernel_rfl) (by kernel_rfl) (by kernel_rfl) (fun _ _ _ h => h) (by rfl) ?_ (by assumption) ?_
    rotate_left
    · (intro w hSw; (try dsimp only at hSw); go_simp; try with_reducible rfl)
    try simp only [Act.put, List.setIfInBounds_toArray, List.set_cons_zero, List.set_cons_succ]
    refine wpAnyH_done (by kernel_rfl) ?_ _
    go_wp2
    go_roundw
    case rel => exact ⟨j + 1, by omega, by go_num, HA2, Lib.hid (HEr.out.trans HEn.out)⟩
    case measure => simp [intOf]; omega
  | false =>
    have HB : Hid (eqSn o p = false) := Lib.hid (by
      rw [HX.out]
      refine eqNds_ne (fun e => ?_)
      have e2 : o.nodes[j]? = p.nodes[j]? := by rw [e]
      rw [List.getElem?_eq_getElem hlt, List.getElem?_eq_getElem hlp] at e2
      injection e2 with e2
      rw [e2, eqNd_iff.2 rfl] at hkx
      cases hkx)
    clear HA HS HS'
    refine take_w 11 (some 52) (v := ?_) (by kernel_rfl) (by kernel_rfl) (by kernel_rfl) (by kernel_rfl) (by kernel_rfl) (fun _ _ _ h => h) (by rfl) ?_ (by assumption) ?_
    rotate_left
    · (intro w hSw; (try dsimp only at hSw); go_simp; try with_reducible rfl)
    try simp only [Act.put, List.setIfInBounds_toArray, List.set_cons_zero, List.set_cons_succ]
    refine wpAnyH_done (by kernel_rfl) ?_ _
    go_wp2
    go_ret
    exact ⟨by rw [HB.out]; rfl, HE.out.trans (HEr.out.trans HEn.out)⟩
end Go.Proofs.YtdienbcjfljjnaaGreatDoor

open Go.RowKit Go.Shelf
namespace Go.Proofs
def Tryz.growB_ren : Go.Shelf.Ren := ⟨fun | 4 => 81 | n => n, fun | 22 => 27 | 25 => 5 | 0 => 0 | 3 => 3 | 4 => 4 | 9 => 9 | 20 => 20 | n => n, fun | n => n⟩
theorem Tryz.growB : Lays8.n4 Tryz.prog Tryz.growB_ren := {
  mixed := by kernel_rfl
  f4 := ⟨Tryz.f81.name, by kernel_rfl, Tryz.func81.trans (congrArg some (by kernel_rfl))⟩
  t0 := Tryz.underlying0
  a0 := Tryz.isAgg0
  z0 := Tryz.sizeOf0
  v0 := Tryz.zeroValue0
  t3 := Tryz.underlying3
  a3 := Tryz.isAgg3
  z3 := Tryz.sizeOf3
  v3 := Tryz.zeroValue3
  t4 := Tryz.underlying4
  a4 := Tryz.isAgg4
  z4 := Tryz.sizeOf4
  v4 := Tryz.zeroValue4
  t9 := Tryz.underlying9
  a9 := Tryz.isAgg9
  z9 := Tryz.sizeOf9
  v9 := Tryz.zeroValue9
  t20 := Tryz.underlying20
  a20 := Tryz.isAgg20
  z20 := Tryz.sizeOf20
  v20 := Tryz.zeroValue20
  t22 := Tryz.underlying27
  a22 := Tryz.isAgg27
  z22 := Tryz.sizeOf27
  v22 := Tryz.zeroValue27 }
end Go.Proofs
namespace Go.Proofs.YtdienbcjfljjnaaGreatDoor
open Go Go.Proofs Fm

/-- Nothing, with room for n. -/
theorem grow_any (n : Nat) (w : World) (hn : n ≤ 1000000000) :
    Calls Tryz.prog 81 #[.slice none 0 0, .int .i64 n] w fun e w' => ∃ v, e = .returned v ∧ OwnB w.heap.size w' v [] ∧ Ext w w' := by
  by_cases h0 : n = 0
  · subst h0
    refine (Any8.slices_Grow_room Tryz.growB none 0 0 0 w (by omega) (by omega) (by omega) (by omega)).mono ?_
    rintro e w1 ⟨rfl, rfl⟩
    exact ⟨_, rfl, OwnB.nil _ _, Ext.refl _⟩
  · obtain ⟨hi0, hi1⟩ : (∃ i, Tryz.prog.info? 5 = some i ∧ i.zero = some (.int .u8 0) ∧ i.size = 1 ∧ i.bytes = 1) ∧ True := by
      have h := elem_u8.info
      obtain ⟨i, h1, h2, h3, h4⟩ := info_parts h
      exact ⟨⟨i, h1, h2, h3, h4⟩, trivial⟩
    obtain ⟨i, h1, h2, h3, h4⟩ := hi0
    refine (Any8.slices_Grow_grow Tryz.growB i (.int .u8 0) h1 h2 (by omega) none 0 0 n [] w (by omega) (by omega) (by rw [h4]; omega) (by omega) (by simp) (fun _ => rfl) (fun a h => by cases h)).mono ?_
    rintro e w1 ⟨rfl, rfl⟩
    refine ⟨_, rfl, ?_, (Ext.refl w).drew.alloc _⟩
    refine ⟨rfl, .inr ⟨w.heap.size, _, _, rfl, Nat.le_refl _, heap_alloc_new w.drew _, Nat.zero_le _, grownCap_le_maxLen w (0 + n) 0 _ (by unfold maxLen; omega), ?_, ?_⟩⟩
    · have := grownCap_ge w (0 + n) 0 5
      simp only [Array.size_append, size_zeroCells]
      show 0 + (0 + n - 0) * 1 + (grownCap w (0 + n) 0 5 - (0 + n)) * 1 = grownCap w (0 + n) 0 5 * 1
      omega
    · simp

/-! ### rows of bytes -/
def _root_.Fm.bysE : Elem (List UInt8) where
  sz := 1
  R w x c := Bytes w (c 0) x
  ext hx h := h.ext hx
  loc hc h := by rw [← hc 0 (by omega)]; exact h
theorem bys_at {w wr : World} {l : List (List UInt8)} {a : Option Addr} {n cap : Nat} (h : bysE.Row w l (.slice a n cap)) (hE : Ext w wr) (i : Nat) (hi : i < l.length) :
    ∃ (b off : Nat), a = some ⟨b, off, none⟩ ∧ b < w.heap.size ∧ ∃ (aa : Option Addr) (cc : Nat), wr.cell? ⟨b, off + i, none⟩ = some (.slice aa l[i].length cc) ∧ Bytes w (.slice aa l[i].length cc) l[i] := by
  obtain ⟨hn, b, off, ha, hb, hc⟩ := h.at (by omega)
  obtain ⟨c, r0, hcell⟩ := hc i hi
  have r0 : Bytes w (c 0) l[i] := r0
  obtain ⟨aa, cc, e, -⟩ := id r0
  refine ⟨b, off, ha, hb, aa, cc, ?_, by rw [← e]; exact r0⟩
  have := hcell 0 (by decide) wr hE
  rw [e] at this
  have e2 : i * bysE.sz + 0 = i := by show i * 1 + 0 = i; omega
  rw [e2] at this
  exact this
theorem flatten_at (l : List (List UInt8)) (i : Nat) (hi : i < l.length) : (l.take (i + 1)).flatten = (l.take i).flatten ++ l[i] := by
  rw [List.take_add_one, List.getElem?_eq_getElem hi, Option.toList_some, List.flatten_append, List.flatten_cons, List.flatten_nil, List.append_nil]
theorem flatten_le (l : List (List UInt8)) (i : Nat) : (l.take i).flatten.length ≤ l.flatten.length := by
  have : l.flatten = (l.take i).flatten ++ (l.drop i).flatten := by rw [← List.flatten_append, List.take_append_drop]
  rw [this, List.length_append]; omega

set_option maxRecDepth 100000 in
set_option maxHeartbeats 4000000 in
theorem concat_any (ls : List (List UInt8)) (w : World) (v : Value) (h : bysE.Row w ls v) (hs : ls.flatten.length ≤ 1000000000) :
    Calls Tryz.prog 35 #[v] w (RetBytes w ls.flatten) := by
  obtain ⟨a, cap, rfl, h1, h2⟩ := h.slice
  have HR := Lib.hid h
  have hll : ls.length ≤ 9223372036854775807 := by omega
  clear h h1 h2
  go_enter Tryz.func35, Tryz.ntmps35
  go_wp2_with fail
  go_loop [3, 11] (fun s i => ∃ j : Nat, j ≤ ls.length ∧ i = .int .i64 j ∧ s = .int .i64 ((ls.take j).flatten.length : Nat)) (fun _ i => ls.length - (intOf i).toNat)
  case atStart => exact ⟨0, by omega, rfl, by simp⟩
  case round =>
    obtain ⟨j, hj, rfl, rfl⟩ := hrel
    by_cases hlt : j < ls.length
    · obtain ⟨b, off, rfl, hb, aa, cc, c0, hx⟩ := bys_at HR.out (Ext.refl w) j hlt
      have hl1 := flatten_le ls (j + 1)
      have HA := Lib.hid (flatten_at ls j hlt)
      have hl2 : (ls.take j).flatten.length + ls[j].length ≤ 1000000000 := by rw [HA.out, List.length_append] at hl1; omega
      have HS : Hid (((ls.take (j + 1)).flatten.length : Int) = ((ls.take j).flatten.length : Int) + (ls[j].length : Int)) := Lib.hid (by rw [HA.out, List.length_append]; omega)
      clear hx hl1
      generalize (ls.take j).flatten.length = X at *
      generalize ls[j].length = Y at *
      have hw : ¬ ((X : Int) + (Y : Int) < 0) := by omega
      go_wp2_with fail
      go_round
      case rel => exact ⟨j + 1, by omega, by go_num, by rw [HS.out]⟩
      case measure => simp [intOf]; omega
    · have hjn : j = ls.length := by omega
      obtain ⟨T, hT⟩ : ∃ T, T = ls.flatten.length := ⟨_, rfl⟩
      have HL : Hid ((ls.take j).flatten.length = T) := Lib.hid (by rw [hjn, List.take_length, hT])
      have hsT : T ≤ 1000000000 := by omega
      rw [HL.out]
      clear hjn hT
      go_wp2_with fail
      refine (grow_any T w hsT).mono ?_
      rintro e w1 ⟨v1, rfl, o1, hE1⟩
      have HO1 := Lib.hid o1
      have HE1 := Lib.hid hE1
      clear o1 hE1 HL
      go_wp2_with fail
      go_loopw [6, 27] (fun o i wr => ∃ k : Nat, k ≤ ls.length ∧ i = .int .i64 k ∧ Hid (OwnB w.heap.size wr o ((ls.take k).flatten)) ∧ Hid (Ext w wr)) (fun _ i _ => ls.length - (intOf i).toNat)
      case atStart => exact ⟨0, by omega, rfl, Lib.hid (by simpa using HO1.out), HE1⟩
      case round =>
        clear HO1 HE1
        obtain ⟨k, hk, rfl, HO, HE⟩ := hrel
        by_cases hkl : k < ls.length
        · obtain ⟨b, off, rfl, hb, aa, cc, c0, hx⟩ := bys_at HR.out HE.out k hkl
          have HX := Lib.hid (hx.ext HE.out)
          have HA := Lib.hid (flatten_at ls k hkl)
          have hl1 := flatten_le ls (k + 1)
          have hl2 : (ls.take k).flatten.length + ls[k].length ≤ 1000000000 := by rw [HA.out, List.length_append] at hl1; omega
          have hk0 : (0 : Int) ≤ (k : Int) := by omega
          have hzz := HE.out.size
          clear hx hl1
          go_wp2_with (at_builtin; refine appB rfl _ _ rfl rfl HO.out rfl HX.out (by omega) hzz ?_)
          intro v2 w2 o2 _ B2
          rw [← HA.out] at o2
          have HO2 := Lib.hid o2
          have HE2 := Lib.hid (HE.out.then B2)
          clear o2 B2 HO HE HX c0
          go_wp2
          go_roundw
          case rel => exact ⟨k + 1, by omega, by go_num, HO2, HE2⟩
          case measure => simp [intOf]; omega
        · have hkn : k = ls.length := by omega
          have hQ : ∃ vr, vr = u6 ∧ RetBytes w ls.flatten (.returned vr) wr := ⟨u6, rfl, u6, rfl, by have := HO.out; rw [hkn, List.take_length] at this; exact ⟨this, HE.out⟩⟩
          obtain ⟨vr, rfl, hQ⟩ := hQ
          clear HO HE hkn
          go_wp2
          go_ret
          exact hQ

/-! ### a row of bytes of one's own -/
def OwnBs (base : Nat) (w : World) (v : Value) (ls : List (List UInt8)) : Prop :=
  ∃ ds : List Value, ds.length = ls.length ∧ w.ownsRow base 27 1 v ls.length ds ∧
    ∀ (i : Nat) (hi : i < ls.length) (hd : i < ds.length), OwnB base w ds[i] ls[i] ∧ ∀ b, ds[i].ownBlock = some b → v.ownBlock ≠ some b
theorem OwnBs.nil (base : Nat) (w : World) : OwnBs base w (.slice none 0 0) [] := ⟨[], rfl, World.ownsRow_nil w base _ 1, fun i hi => by simp at hi⟩
theorem OwnBs.ext {base : Nat} {w w' : World} {v : Value} {ls : List (List UInt8)} (h : OwnBs base w v ls) (hE : Ext w w') : OwnBs base w' v ls := by
  obtain ⟨ds, h1, h2, h3⟩ := h
  exact ⟨ds, h1, hE.own h2, fun i hi hd => ⟨(h3 i hi hd).1.ext hE, (h3 i hi hd).2⟩⟩
theorem OwnBs.row {base : Nat} {w : World} {v : Value} {ls : List (List UInt8)} (h : OwnBs base w v ls) : bysE.Row w ls v := by
  obtain ⟨ds, h1, h2, h3⟩ := h
  have hc := fun g => World.ownsRow.cells h2 (g := g)
  rcases h2.2 with ⟨rfl, h0⟩ | ⟨g, cap, cur, rfl, hb, hg, hl, hm, h5, h6⟩
  · have : ls = [] := List.eq_nil_of_length_eq_zero h0
    subst this
    exact Elem.Row.void bysE w none
  · refine Elem.Row.mk rfl hl hm (Array.getElem?_eq_some_iff.1 hg).1 (fun i hi => ?_)
    have hd : i < ds.length := by omega
    refine ⟨fun _ => ds[i], (h3 i hi hd).1.bytes, fun j hj => ?_⟩
    have hj0 : j = 0 := by have : j < 1 := hj; omega
    subst hj0
    have := hc g rfl i ds[i] (List.getElem?_eq_getElem hd)
    rw [Addr.add_lit] at this
    show w.cell? ⟨g, 0 + (i * 1 + 0), none⟩ = some ds[i]
    rw [show 0 + (i * 1 + 0) = 0 + i by omega]
    exact this
theorem OwnBs.row_lt {base : Nat} {w : World} {v : Value} {ls : List (List UInt8)} (h : OwnBs base w v ls) (b : Nat) (hb : v.ownBlock = some b) : b < w.heap.size := by
  obtain ⟨ds, h1, h2, h3⟩ := h
  exact (World.ownsRow.lt h2 b hb).2
theorem OwnBs.snoc {base : Nat} {w w' : World} {v v' d : Value} {ls : List (List UInt8)} {ds : List Value} {y : List UInt8} (h1 : ds.length = ls.length)
    (h3 : ∀ (i : Nat) (hi : i < ls.length) (hd : i < ds.length), OwnB base w ds[i] ls[i] ∧ ∀ b, ds[i].ownBlock = some b → v.ownBlock ≠ some b)
    (hd : OwnB base w d y) (hdv : ∀ b, d.ownBlock = some b → v.ownBlock ≠ some b) (hrow : w'.ownsRow base 27 1 v' (ls.length + 1) (ds ++ [d])) (hg : w.grownBy w' v.ownBlock)
    (hat : v'.ownBlock = v.ownBlock ∨ v'.ownBlock = some w.heap.size) : OwnBs base w' v' (ls ++ [y]) := by
  have keep : ∀ (x : Value) (zs : List UInt8), OwnB base w x zs → (∀ b, x.ownBlock = some b → v.ownBlock ≠ some b) → OwnB base w' x zs ∧ ∀ b, x.ownBlock = some b → v'.ownBlock ≠ some b := by
    intro x zs ho hne
    have hlt := World.ownsRow.lt (show w.ownsRow _ _ _ _ _ _ from ho)
    refine ⟨World.ownsRow.kept (show w.ownsRow _ _ _ _ _ _ from ho) hg ?_, fun b hb e => ?_⟩
    · cases hx : x.ownBlock with
      | none => exact .inl rfl
      | some b => right; intro e; exact hne b hx e.symm
    · rcases hat with h | h
      · exact hne b hb (by rw [← h]; exact e)
      · rw [h] at e; injection e with e; have := (hlt b hb).2; omega
  refine ⟨ds ++ [d], by simp [h1], by rw [List.length_append]; exact hrow, fun i hi hid => ?_⟩
  by_cases hil : i < ls.length
  · have hil2 : i < ds.length := by omega
    rw [List.getElem_append_left hil, List.getElem_append_left hil2]
    obtain ⟨a1, a2⟩ := h3 i hil hil2
    exact keep _ _ a1 a2
  · have e1 : i = ls.length := by simp at hi; omega
    subst e1
    have e2 : (ds ++ [d])[ls.length]'hid = d := by rw [List.getElem_append_right (by omega)]; simp [h1]
    rw [List.getElem_append_right (Nat.le_refl _), e2]
    simp only [Nat.sub_self, List.getElem_cons_zero]
    exact keep _ _ hd hdv
theorem info_bys : (Tryz.prog.info? 27).map (fun i => (i.zero, i.size, i.bytes)) = some (some (.slice none 0 0), 1, 24) := by kernel_rfl
theorem elem_bys : ElemOf Tryz.prog 68 27 (.slice none 0 0) 1 24 := ⟨Tryz.underlying68, info_bys, rfl, by decide⟩
/-- 'append(s, x)' of one element, which a new block holds: longer rows. -/
theorem _root_.Fm.wpList_appOneB {P : Program} {w : World} {ops : Array Oper} {rest : List Oper} {o : Oper} {a : Act} {Q : Exit → Act → World → Prop} {t e : TypeId} {z : Value} {size bytes : Nat} (he : ElemOf P t e z size bytes)
    (hg : Region.wanted o (yielded ops a.tmps) = true) (s x : Operand) (hop : o.op = Op.call { callee := Callee.builtin Builtin.append, args := #[s, x], argTypes := #[t, t] }) {base : Nat}
    {v : Value} {k : Nat} {xs : List Value} (hs : a.eval s = v) (hown : w.ownsRow base e size v k xs) {B cp : Nat} {news : List Value} {e' : TypeId} {fr : Nat × Nat} (hx : a.eval x = .slice (some ⟨B, 0, none⟩) 1 cp)
    (hB : w.heap[B]? = some (.cells news.toArray e' fr)) (hn : news.length = size) (h1 : ∀ u ∈ news, u.oneCell' = true) (hb : k ≤ 100000) (hby : bytes ≤ 1000) (b3 : base ≤ w.heap.size)
    (hK : ∀ v' w', w'.ownsRow base e size v' (k + 1) (xs ++ news) → w.grownBy w' v.ownBlock → (v'.ownBlock = v.ownBlock ∨ v'.ownBlock = some w.heap.size) → wpList P ops Q rest (a.put o.dst v') w') :
    wpList P ops Q (o :: rest) a w := by
  have hm : (k + 1) * bytes ≤ 100001 * 1000 := Nat.mul_le_mul (by omega) hby
  refine wpList_appAt w he hg s x t hop base v k xs hs hown _ 1 news hx (Src.ofSlice _ he.1 _ _ _ _ (by rw [hn]; omega) ?_ h1) (by unfold maxLen; omega) (by omega) b3 hK
  intro j u hu
  rw [Addr.add_lit]
  simp only [World.cell?, hB]
  simpa using hu
end Go.Proofs.YtdienbcjfljjnaaGreatDoor
