/- The reference of states: Same. -/
import Derived.Test.YtpcgpcjleedilaaGreatDoorSnZ
import Derived.Test.YtpcgpcjleedilaaGreatDoorTake
open Go.RowKit Go.Shelf
namespace Fm
open Go
/-- A whole struct is loaded in a region that draws its order. -/
theorem take_load2 {P : Program} {ops : Array Oper} {Q : Exit → Act → World → Prop} {md : Region.Mode} {S : World → Prop} (i : Nat) (d : Option Tmp) {fuel : Nat} {listed : Array Bool} {a : Act} {w : World}
    (hi : ops[i]? = some (ops.getD i default)) (hd : (ops.getD i default).dst = d) (hs : Region.noSelect ops = true) (hf : Region.free md ops listed i = true) (hr : (Region.ready md ops listed).contains i = true) {cs : List Value}
    (hQ : ∀ c a w, Q (.panic c) (a.put d (.agg cs.toArray)) w → Q (.panic c) a w) (hw : Region.wanted (ops.getD i default) (yielded ops a.tmps) = true) (ty : TypeId) (x : Operand) (ho : (ops.getD i default).op = .load ty x)
    (b o : Nat) (hx : a.eval x = .pointer (some ⟨b, o, none⟩)) (cs' : List Value := cs) (td : TypeDesc) (hc : ∀ w, S w → w.rangeAt b o cs) (hu : P.underlying ty = some td) (hrow : td.isRow = true) (hin : (P.info? ty).map (·.size) = some cs.length) (hS : S w)
    (h : wpAnyH P md ops Q S fuel (listed.setIfInBounds i true) (a.put d (.agg cs.toArray)) w) : wpAnyH P md ops Q S (fuel + 1) listed a w := by
  subst hd; exact wpAnyH_take hi hs hf hr hQ (yieldsIf_load_mid hw ty x ho b o hx cs td hc hu hrow hin) hS h
end Fm
namespace Go.Proofs.YtpcgpcjleedilaaGreatDoor
open Go Go.Proofs Fm

set_option maxRecDepth 100000 in
set_option maxHeartbeats 16000000 in
theorem rsSame_any (o p : Sn) (w : World) (v x : Value) (hv : SnV w o v) (hx : SnV w p x) :
    Calls Tryz.prog 32 #[v, x] w fun e w' => e = .returned (.bool (eqSn o p)) ∧ Ext w w' := by
  obtain ⟨a, m, c, rfl, hr, -⟩ := hv
  obtain ⟨a', m', c', rfl, hr', -⟩ := hx
  obtain ⟨C, hC⟩ : ∃ z, z = o.cq := ⟨_, rfl⟩
  obtain ⟨C', hC'⟩ : ∃ z, z = p.cq := ⟨_, rfl⟩
  obtain ⟨D, hD⟩ : ∃ z, z = o.cd := ⟨_, rfl⟩
  obtain ⟨D', hD'⟩ : ∃ z, z = p.cd := ⟨_, rfl⟩
  obtain ⟨W, hW⟩ : ∃ z, z = o.cw := ⟨_, rfl⟩
  obtain ⟨W', hW'⟩ : ∃ z, z = p.cw := ⟨_, rfl⟩
  obtain ⟨R, hR⟩ : ∃ z, z = o.cr := ⟨_, rfl⟩
  obtain ⟨R', hR'⟩ : ∃ z, z = p.cr := ⟨_, rfl⟩
  obtain ⟨G, hG⟩ : ∃ z, z = o.cf := ⟨_, rfl⟩
  obtain ⟨G', hG'⟩ : ∃ z, z = p.cf := ⟨_, rfl⟩
  obtain ⟨F, hF⟩ : ∃ z, z = o.flows := ⟨_, rfl⟩
  obtain ⟨F', hF'⟩ : ∃ z, z = p.flows := ⟨_, rfl⟩
  obtain ⟨T, hT⟩ : ∃ z, z = o.tok := ⟨_, rfl⟩
  obtain ⟨T', hT'⟩ : ∃ z, z = p.tok := ⟨_, rfl⟩
  have hX : eqSn o p = ((C == C') && ((D == D') && ((W == W') && ((R == R') && ((G == G') && ((F == F') && ((T == T') && eqNds o.nodes p.nodes))))))) := by
    rw [eqSn_all, hC, hC', hD, hD', hW, hW', hR, hR', hG, hG', hF, hF', hT, hT', int_beq, int_beq, int_beq, int_beq, int_beq, int_beq, int_beq]
  rw [← hC, ← hC', ← hD, ← hD', ← hW, ← hW', ← hR, ← hR', ← hG, ← hG', ← hF, ← hF', ← hT, ← hT']
  obtain rfl : m = o.nodes.length := by obtain ⟨_, _, e, _⟩ := hr.slice; injection e
  obtain rfl : m' = p.nodes.length := by obtain ⟨_, _, e, _⟩ := hr'.slice; injection e
  have hml : o.nodes.length ≤ 9223372036854775807 := hr.length_le
  have HR := Lib.hid hr
  have HR' := Lib.hid hr'
  have HX := Lib.hid hX
  clear hX hr hr' hC hC' hD hD' hW hW' hR hR' hG hG' hF hF' hT hT'
  have h1 := (BoxL.new w [.int .i64 C, .int .i64 D, .int .i64 W, .int .i64 R, .int .i64 G, .int .i64 F, .slice a o.nodes.length c, .int .i64 T] 51).ext ((Ext.refl _).alloc (.cells #[.int .i64 C', .int .i64 D', .int .i64 W', .int .i64 R', .int .i64 G', .int .i64 F', .slice a' p.nodes.length c', .int .i64 T'] 51))
  have h2 := BoxL.new (w.alloc (.cells #[.int .i64 C, .int .i64 D, .int .i64 W, .int .i64 R, .int .i64 G, .int .i64 F, .slice a o.nodes.length c, .int .i64 T] 51)) [.int .i64 C', .int .i64 D', .int .i64 W', .int .i64 R', .int .i64 G', .int .i64 F', .slice a' p.nodes.length c', .int .i64 T'] 51
  have hz : (w.alloc (.cells #[.int .i64 C, .int .i64 D, .int .i64 W, .int .i64 R, .int .i64 G, .int .i64 F, .slice a o.nodes.length c, .int .i64 T] 51)).heap.size = w.heap.size + 1 := by simp
  rw [hz] at h2
  have hE := ((Ext.refl w).alloc (.cells #[.int .i64 C, .int .i64 D, .int .i64 W, .int .i64 R, .int .i64 G, .int .i64 F, .slice a o.nodes.length c, .int .i64 T] 51)).alloc (.cells #[.int .i64 C', .int .i64 D', .int .i64 W', .int .i64 R', .int .i64 G', .int .i64 F', .slice a' p.nodes.length c', .int .i64 T'] 51)
  clear hz
  go_enter Tryz.func32, Tryz.ntmps32
  go_upto_region 1 with (fail)
  have H1 := Lib.hid h1
  have H2 := Lib.hid h2
  have HE := Lib.hid hE
  clear h1 h2 hE
  generalize (w.alloc _).alloc _ = W1 at *
  have ⟨p0, p1, p2, p3, p4, p5, p6, p7⟩ := H1.out.n8
  have ⟨q0, q1, q2, q3, q4, q5, q6, q7⟩ := H2.out.n8
  cases b0 : (C == C') with
  | false =>
    have n0 : (C != C') = true := by rw [bne, b0]; rfl
    have HB := Lib.hid (by rw [HX.out, b0]; simp : eqSn o p = false)
    go_wp2
    go_ret
    exact ⟨by rw [HB.out]; rfl, HE.out⟩
  | true =>
  have n0 : (C != C') = false := by rw [bne, b0]; rfl
  have HX := Lib.hid (by rw [HX.out, b0, Bool.true_and] : eqSn o p = ((D == D') && ((W == W') && ((R == R') && ((G == G') && ((F == F') && ((T == T') && eqNds o.nodes p.nodes)))))))
  cases b1 : (D == D') with
  | false =>
    have n1 : (D != D') = true := by rw [bne, b1]; rfl
    have HB := Lib.hid (by rw [HX.out, b1]; simp : eqSn o p = false)
    go_wp2
    go_ret
    exact ⟨by rw [HB.out]; rfl, HE.out⟩
  | true =>
  have n1 : (D != D') = false := by rw [bne, b1]; rfl
  have HX := Lib.hid (by rw [HX.out, b1, Bool.true_and] : eqSn o p = ((W == W') && ((R == R') && ((G == G') && ((F == F') && ((T == T') && eqNds o.nodes p.nodes))))))
  cases b2 : (W == W') with
  | false =>
    have n2 : (W != W') = true := by rw [bne, b2]; rfl
    have HB := Lib.hid (by rw [HX.out, b2]; simp : eqSn o p = false)
    go_wp2
    go_ret
    exact ⟨by rw [HB.out]; rfl, HE.out⟩
  | true =>
  have n2 : (W != W') = false := by rw [bne, b2]; rfl
  have HX := Lib.hid (by rw [HX.out, b2, Bool.true_and] : eqSn o p = ((R == R') && ((G == G') && ((F == F') && ((T == T') && eqNds o.nodes p.nodes)))))
  cases b3 : (R == R') with
  | false =>
    have n3 : (R != R') = true := by rw [bne, b3]; rfl
    have HB := Lib.hid (by rw [HX.out, b3]; simp : eqSn o p = false)
    go_wp2
    go_ret
    exact ⟨by rw [HB.out]; rfl, HE.out⟩
  | true =>
  have n3 : (R != R') = false := by rw [bne, b3]; rfl
  have HX := Lib.hid (by rw [HX.out, b3, Bool.true_and] : eqSn o p = ((G == G') && ((F == F') && ((T == T') && eqNds o.nodes p.nodes))))
  cases b4 : (G == G') with
  | false =>
    have n4 : (G != G') = true := by rw [bne, b4]; rfl
    have HB := Lib.hid (by rw [HX.out, b4]; simp : eqSn o p = false)
    go_wp2
    go_ret
    exact ⟨by rw [HB.out]; rfl, HE.out⟩
  | true =>
  have n4 : (G != G') = false := by rw [bne, b4]; rfl
  have HX := Lib.hid (by rw [HX.out, b4, Bool.true_and] : eqSn o p = ((F == F') && ((T == T') && eqNds o.nodes p.nodes)))
  cases b5 : (F == F') with
  | false =>
    have n5 : (F != F') = true := by rw [bne, b5]; rfl
    have HB := Lib.hid (by rw [HX.out, b5]; simp : eqSn o p = false)
    go_wp2
    go_ret
    exact ⟨by rw [HB.out]; rfl, HE.out⟩
  | true =>
  have n5 : (F != F') = false := by rw [bne, b5]; rfl
  have HX := Lib.hid (by rw [HX.out, b5, Bool.true_and] : eqSn o p = ((T == T') && eqNds o.nodes p.nodes))
  cases b6 : (T == T') with
  | false =>
    have n6 : (T != T') = true := by rw [bne, b6]; rfl
    have HB := Lib.hid (by rw [HX.out, b6]; simp : eqSn o p = false)
    go_wp2
    go_ret
    exact ⟨by rw [HB.out]; rfl, HE.out⟩
  | true =>
  have n6 : (T != T') = false := by rw [bne, b6]; rfl
  have HX := Lib.hid (by rw [HX.out, b6, Bool.true_and] : eqSn o p = eqNds o.nodes p.nodes)
  by_cases hlen : o.nodes.length = p.nodes.length
  case neg =>
    have f3 : ((o.nodes.length : Int) != (p.nodes.length : Int)) = true := by rw [bne, Bool.not_eq_true']; simp; omega
    have HB : Hid (eqSn o p = false) := Lib.hid (by rw [HX.out]; exact eqNds_ne (fun e => hlen (by rw [e])))
    go_wp2
    go_ret
    exact ⟨by rw [HB.out]; rfl, HE.out⟩
  have f3 : ((o.nodes.length : Int) != (p.nodes.length : Int)) = false := by rw [hlen]; simp
  have HLN := Lib.hid hlen
  clear hlen
  go_wp2_with fail
  clear f3 p0 p1 p2 p3 p4 p5 p6 p7 q0 q1 q2 q3 q4 q5 q6 q7 n0 n1 n2 n3 n4 n5 n6 b0 b1 b2 b3 b4 b5 b6
  go_loopw [5] (fun i wr => ∃ j : Nat, j ≤ o.nodes.length ∧ i = .int .i64 j ∧ Hid (o.nodes.take j = p.nodes.take j) ∧ Hid (Ext W1 wr)) (fun i _ => o.nodes.length - (intOf i).toNat)
  case atStart => exact ⟨0, by omega, rfl, Lib.hid (by simp), Lib.hid (Ext.refl _)⟩
  case round =>
  obtain ⟨j, hj, rfl, HA, HEr⟩ := hrel
  have r6 := (H1.out.ext HEr.out).cell 6 _ rfl
  by_cases hlt : j < o.nodes.length
  case neg =>
    have hj2 : ¬ (j : Int) < (o.nodes.length : Int) := by omega
    have HB : Hid (eqSn o p = true) := Lib.hid (by
      rw [HX.out]
      refine eqNds_iff.2 ?_
      have h := HA.out
      have e1 : j = o.nodes.length := by omega
      rw [e1, List.take_length, HLN.out, List.take_length] at h
      exact h)
    clear HA
    go_wp2
    go_ret
    exact ⟨by rw [HB.out]; rfl, HE.out.trans HEr.out⟩
  have hlp : j < p.nodes.length := by have := HLN.out; omega
  have s6 := (H2.out.ext HEr.out).cell 6 _ rfl
  obtain ⟨b, off, rfl, hb, CN, hC, hC1, hRC, hs⟩ := nd_op HR.out (HE.out.trans HEr.out) j hlt
  obtain ⟨b', off', rfl, hb', DN, hD, hD1, hRD, hs'⟩ := nd_op HR'.out (HE.out.trans HEr.out) j hlp
  have hbz := Nat.lt_of_lt_of_le hb (HE.out.trans HEr.out).size
  have hbz' := Nat.lt_of_lt_of_le hb' (HE.out.trans HEr.out).size
  have HS := Lib.hid (hs.ext (HE.out.trans HEr.out))
  have HS' := Lib.hid (hs'.ext (HE.out.trans HEr.out))
  have HCi : Hid ((Tryz.prog.info? 46).map (·.size) = some CN.length) := Lib.hid (by rw [hC]; exact info_ndY2)
  have HDi : Hid ((Tryz.prog.info? 46).map (·.size) = some DN.length) := Lib.hid (by rw [hD]; exact info_ndY2)
  have HSS : Hid (∀ W2, Ext wr W2 → W2.cell? ⟨w.heap.size, 6, none⟩ = some (.slice (some ⟨b, off, none⟩) o.nodes.length c) ∧ W2.cell? ⟨w.heap.size + 1, 6, none⟩ = some (.slice (some ⟨b', off', none⟩) p.nodes.length c') ∧ W2.rangeAt b (off + j * 16) CN ∧ W2.rangeAt b' (off' + j * 16) DN) :=
    Lib.hid (fun W2 h => ⟨(H1.out.ext (HEr.out.trans h)).cell 6 _ rfl, (H2.out.ext (HEr.out.trans h)).cell 6 _ rfl, rangeAt_ext hRC h hbz, rangeAt_ext hRD h hbz'⟩)
  have hj0 : (0 : Int) ≤ (j : Int) := by omega
  have hj1 : (j : Int) < (o.nodes.length : Int) := by omega
  have hj2 : (j : Int) < (p.nodes.length : Int) := by omega
  clear hs hs' hC hD hC1 hD1 hRC hRD
  go_upto_region 6 with (fail)
  refine wp_region_held_drew (S := (fun w' => w'.cell? ⟨w.heap.size, 6, none⟩ = some (.slice (some ⟨b, off, none⟩) o.nodes.length c) ∧ w'.cell? ⟨w.heap.size + 1, 6, none⟩ = some (.slice (some ⟨b', off', none⟩) p.nodes.length c') ∧ w'.rangeAt b (off + j * 16) CN ∧ w'.rangeAt b' (off' + j * 16) DN)) (by kernel_rfl) ?_ (fun hHeld => ?_)
  · (try dsimp only)
    exact HSS.out _ (Ext.refl _).drew
  refine take_w 0 (some 41) (v := ?_) (by kernel_rfl) (by kernel_rfl) (by kernel_rfl) (by kernel_rfl) (by kernel_rfl) (fun _ _ _ h => h) (by rfl) ?_ (by assumption) ?_
  rotate_left
  · (intro w hSw; (try dsimp only at hSw); go_simp; try with_reducible rfl)
  try simp only [Act.put, List.setIfInBounds_toArray, List.set_cons_zero, List.set_cons_succ]
  refine take_w 1 (some 42) (v := ?_) (by kernel_rfl) (by kernel_rfl) (by kernel_rfl) (by kernel_rfl) (by kernel_rfl) (fun _ _ _ h => h) (by rfl) ?_ (by assumption) ?_
  rotate_left
  · (intro w hSw; (try dsimp only at hSw); go_simp; try with_reducible rfl)
  try simp only [Act.put, List.setIfInBounds_toArray, List.set_cons_zero, List.set_cons_succ]
  refine take_w 2 (some 43) (v := ?_) (by kernel_rfl) (by kernel_rfl) (by kernel_rfl) (by kernel_rfl) (by kernel_rfl) (fun _ _ _ h => h) (by rfl) ?_ (by assumption) ?_
  rotate_left
  · (intro w hSw; (try dsimp only at hSw); go_simp; try with_reducible rfl)
  try simp only [Act.put, List.setIfInBounds_toArray, List.set_cons_zero, List.set_cons_succ]
  refine take_w 3 (some 44) (v := ?_) (by kernel_rfl) (by kernel_rfl) (by kernel_rfl) (by kernel_rfl) (by kernel_rfl) (fun _ _ _ h => h) (by rfl) ?_ (by assumption) ?_
  rotate_left
  · (intro w hSw; (try dsimp only at hSw); go_simp; try with_reducible rfl)
  try simp only [Act.put, List.setIfInBounds_toArray, List.set_cons_zero, List.set_cons_succ]
  refine take_load2 4 (some 45) (by kernel_rfl) (by kernel_rfl) (by kernel_rfl) (by kernel_rfl) (by kernel_rfl) (fun _ _ _ h => h) (by rfl) 46 (.tmp 44) (by kernel_rfl) b (off + j * 16) (by rfl) CN _ (fun w h => h.2.2.1) Tryz.underlying46 rfl HCi.out (by assumption) ?_
  try simp only [Act.put, List.setIfInBounds_toArray, List.set_cons_zero, List.set_cons_succ]
  refine take_w 5 (some 46) (v := ?_) (by kernel_rfl) (by kernel_rfl) (by kernel_rfl) (by kernel_rfl) (by kernel_rfl) (fun _ _ _ h => h) (by rfl) ?_ (by assumption) ?_
  rotate_left
  · (intro w hSw; (try dsimp only at hSw); go_simp; try with_reducible rfl)
  try simp only [Act.put, List.setIfInBounds_toArray, List.set_cons_zero, List.set_cons_succ]
  refine take_w 6 (some 47) (v := ?_) (by kernel_rfl) (by kernel_rfl) (by kernel_rfl) (by kernel_rfl) (by kernel_rfl) (fun _ _ _ h => h) (by rfl) ?_ (by assumption) ?_
  rotate_left
  · (intro w hSw; (try dsimp only at hSw); go_simp; try with_reducible rfl)
  try simp only [Act.put, List.setIfInBounds_toArray, List.set_cons_zero, List.set_cons_succ]
  refine take_w 7 (some 48) (v := ?_) (by kernel_rfl) (by kernel_rfl) (by kernel_rfl) (by kernel_rfl) (by kernel_rfl) (fun _ _ _ h => h) (by rfl) ?_ (by assumption) ?_
  rotate_left
  · (intro w hSw; (try dsimp only at hSw); go_simp; try with_reducible rfl)
  try simp only [Act.put, List.setIfInBounds_toArray, List.set_cons_zero, List.set_cons_succ]
  refine take_w 8 (some 49) (v := ?_) (by kernel_rfl) (by kernel_rfl) (by kernel_rfl) (by kernel_rfl) (by kernel_rfl) (fun _ _ _ h => h) (by rfl) ?_ (by assumption) ?_
  rotate_left
  · (intro w hSw; (try dsimp only at hSw); go_simp; try with_reducible rfl)
  try simp only [Act.put, List.setIfInBounds_toArray, List.set_cons_zero, List.set_cons_succ]
  refine take_load2 9 (some 50) (by kernel_rfl) (by kernel_rfl) (by kernel_rfl) (by kernel_rfl) (by kernel_rfl) (fun _ _ _ h => h) (by rfl) 46 (.tmp 49) (by kernel_rfl) b' (off' + j * 16) (by rfl) DN _ (fun w h => h.2.2.2) Tryz.underlying46 rfl HDi.out (by assumption) ?_
  try simp only [Act.put, List.setIfInBounds_toArray, List.set_cons_zero, List.set_cons_succ]
  refine ready_one 10 (by kernel_rfl) (by kernel_rfl) (by rfl) (fun Kc hKc => ?_)
  go_simp
  refine (rSameNode_any _ _ _ _ _ (HS.out.ext (Ext.refl wr).drew) (HS'.out.ext (Ext.refl wr).drew)).mono ?_
  rintro e wn ⟨rfl, hEn⟩
  have HEn := Lib.hid ((Ext.refl wr).drew.trans hEn)
  clear hEn
  try go_wp2_with fail
  refine hKc.out _ _ ?_ (fun hHeld => ?_)
  · (try dsimp only)
    exact HSS.out _ HEn.out
  clear hKc Kc
  try simp only [Act.put, List.setIfInBounds_toArray, List.set_cons_zero, List.set_cons_succ]
  cases hkx : eqNd o.nodes[j] p.nodes[j] with
  | true =>
    have HA2 := Lib.hid (take_more hlt hlp HA.out (eqNd_iff.1 hkx))
    clear HA HS HS'
    refine take_w 11 (some 52) (v := ?_) (by kernel_rfl) (by kernel_rfl) (by kernel_rfl) (by kernel_rfl) (by kernel_rfl) (fun _ _ _ h => h) (by rfl) ?_ (by assumption) ?_
    rotate_left
    · (intro w hSw; (try dsimp only at hSw); go_simp; try with_reducible rfl)
    try simp only [Act.put, List.setIfInBounds_toArray, List.set_cons_zero, List.set_cons_succ]
    refine wpAnyH_done (by kernel_rfl) ?_ _
    go_wp2
    go_roundw
    case rel => exact ⟨j + 1, by omega, by go_num, HA2, Lib.hid (HEr.out.trans HEn.out)⟩
    case measure => simp [intOf]; omega
  | false =>
    have HB : Hid (eqSn o p = false) := Lib.hid (by
      rw [HX.out]
      refine eqNds_ne (fun e => ?_)
      have e2 : o.nodes[j]? = p.nodes[j]? := by rw [e]
      rw [List.getElem?_eq_getElem hlt, List.getElem?_eq_getElem hlp] at e2
      injection e2 with e2
      rw [e2, eqNd_iff.2 rfl] at hkx
      cases hkx)
    clear HA HS HS'
    refine take_w 11 (some 52) (v := ?_) (by kernel_rfl) (by kernel_rfl) (by kernel_rfl) (by kernel_rfl) (by kernel_rfl) (fun _ _ _ h => h) (by rfl) ?_ (by assumption) ?_
    rotate_left
    · (intro w hSw; (try dsimp only at hSw); go_simp; try with_reducible rfl)
    try simp only [Act.put, List.setIfInBounds_toArray, List.set_cons_zero, List.set_cons_succ]
    refine wpAnyH_done (by kernel_rfl) ?_ _
    go_wp2
    go_ret
    exact ⟨by rw [HB.out]; rfl, HE.out.trans (HEr.out.trans HEn.out)⟩
end Go.Proofs.YtpcgpcjleedilaaGreatDoor
