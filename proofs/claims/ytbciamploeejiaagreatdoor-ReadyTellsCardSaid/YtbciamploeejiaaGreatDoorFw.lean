/- Walks of the laws: nodes out of numbers (Forest): none of them is after anything, to the cell. -/
import Derived.Test.YtbciamploeejiaaGreatDoorSnH
import Derived.Test.YtbciamploeejiaaGreatDoorPlWb
import Derived.Test.YtbciamploeejiaaGreatDoorTake
import Derived.Test.YtbciamploeejiaaGreatDoorPlQ
open Go.RowKit Go.Shelf
namespace Go.Proofs.YtbciamploeejiaaGreatDoor
open Go Go.Proofs Fm

set_option maxHeartbeats 2000000 in
theorem wakes1_any (l : List Nd) (i x : Int) (bi b : Nat) (W : World) (v : Value) (h : ndE.Row W l v) (hi : W.cell? ⟨bi, 0, none⟩ = some (.int .i64 i)) (hb : W.cell? ⟨b, 0, none⟩ = some v) :
    Calls Tryz.prog 37 #[.int .i64 x, .pointer (some ⟨bi, 0, none⟩), .pointer (some ⟨b, 0, none⟩)] W fun e w' => e = .returned (.bool (!(decide (x = i) || doneF l x))) ∧ W = w' := by
  have HC := Lib.hid (rddone_any l x W v h)
  obtain ⟨a, c, rfl, -, -⟩ := h.slice
  clear h
  by_cases hx : x = i
  · have hne : (x != i) = false := by simp [hx]
    have HX := Lib.hid (show (!(decide (x = i) || doneF l x)) = false by simp [hx])
    clear hx
    go_enter Tryz.func37, Tryz.ntmps37
    go_wp2
    go_ret
    exact ⟨by rw [HX.out]; rfl, rfl⟩
  · have hne : (x != i) = true := by simp [hx]
    have HX := Lib.hid (show (!(decide (x = i) || doneF l x)) = !(doneF l x) by simp [hx])
    clear hx
    go_enter Tryz.func37, Tryz.ntmps37
    go_wp2_with fail
    refine HC.out.mono ?_
    rintro e w1 ⟨rfl, rfl⟩
    go_wp2
    go_ret
    exact ⟨by rw [HX.out]; rfl, rfl⟩
theorem containsR_any (zs : List Int) (x : Int) (w : World) (v : Value) (h : intE.Row w zs v) (hl : zs.length ≤ 100000) :
    Calls Tryz.prog 38 #[v, .int .i64 x] w fun e w' => e = .returned (.bool (decide (x ∈ zs))) ∧ w = w' := by
  obtain ⟨a, c, rfl, hc, -⟩ := h.slice
  by_cases h0 : zs.length = 0
  · have hz : zs = [] := List.eq_nil_of_length_eq_zero h0
    subst hz
    refine (Any.slices_Contains_int_empty Tryz.lays107 a c x w).mono ?_
    rintro e w' ⟨rfl, rfl⟩
    exact ⟨by simp, rfl⟩
  · obtain ⟨-, b, off, rfl, hb, hat⟩ := h.at (by omega)
    refine (Any.slices_Contains_int Tryz.lays107 b off zs.length c zs x w (Nat.le_refl _) (by omega) (fun j hj => ?_)).mono ?_
    · obtain ⟨cc, hR, hcell⟩ := hat j hj
      have := hcell 0 (by decide) w (Ext.refl w)
      rw [show off + j = off + (j * intE.sz + 0) by show off + j = off + (j * 1 + 0); omega, this, hR.1]
      simp [hj]
    · rintro e w' ⟨rfl, rfl⟩
      exact ⟨by simp, rfl⟩
def wakesTo (l : List Nd) (i : Int) (j : Nat) : List Nat := (List.range j).filter (fun k => wakeOne l i (nthF l (k : Int)))
theorem wakesTo_succ (l : List Nd) (i : Int) (j : Nat) : wakesTo l i (j + 1) = wakesTo l i j ++ (if wakeOne l i (nthF l (j : Int)) then [j] else []) := by
  unfold wakesTo
  rw [List.range_succ, List.filter_append, List.filter_cons, List.filter_nil]
theorem wakesTo_len (l : List Nd) (i : Int) (j : Nat) : (wakesTo l i j).length ≤ j := by
  unfold wakesTo
  refine Nat.le_trans (List.length_filter_le _ _) ?_
  simp
theorem wakesF_no {l : List Nd} {i : Int} (h : placeF l i = false) : wakesF l i = [] := by unfold wakesF; rw [h]; rfl
theorem wakesF_at {l : List Nd} {i : Int} (h : placeF l i = true) : wakesF l i = wakesTo l i l.length := by unfold wakesF; rw [h]; rfl
theorem natsR_len (l : List Nat) : (natsI l).length = l.length := List.length_map _
set_option maxRecDepth 100000 in
set_option maxHeartbeats 4000000 in
theorem wakes_any (l : List Nd) (hll : l.length ≤ 1000) (hl : ∀ n, n ∈ l → n.after.length ≤ 100000) (i : Int) (w : World) (v : Value) (h : ndE.Row w l v) :
    Calls Tryz.prog 15 #[v, .int .i64 i] w fun e w' => ∃ v', e = .returned v' ∧ OwnN 3 w.heap.size w' v' (natsI (wakesF l i)) ∧ Ext w w' := by
  obtain ⟨i0, hi, hz0, hz1, hz2⟩ := info_parts infoint_F
  have HP := Lib.hid (fun X (hX : Ext w X) => rdplace_any l i X _ (h.ext hX))
  have HR := Lib.hid h
  obtain ⟨a, c, rfl, hc1, hc2⟩ := h.slice
  have hB1 := (BoxL.new w [.slice a l.length c] 23).ext ((Ext.refl _).alloc (.cells #[.int .i64 i] 3))
  have hB2 := BoxL.new (w.alloc (.cells #[.slice a l.length c] 23)) [.int .i64 i] 3
  have hE1 : Ext w ((w.alloc (.cells #[.slice a l.length c] 23)).alloc (.cells #[.int .i64 i] 3)) := ((Ext.refl w).alloc _).alloc _
  rw [show (w.alloc (.cells #[.slice a l.length c] 23)).heap.size = w.heap.size + 1 by simp] at hB2
  obtain ⟨W1, hW1⟩ : ∃ W1, W1 = (w.alloc (.cells #[.slice a l.length c] 23)).alloc (.cells #[.int .i64 i] 3) := ⟨_, rfl⟩
  rw [← hW1] at hB1 hB2 hE1
  obtain ⟨BX, hBX⟩ : ∃ BX, BX = w.heap.size := ⟨_, rfl⟩
  rw [← hBX] at hB1 hB2
  have HW1 := Lib.hid hW1
  have HBX := Lib.hid hBX
  have HE1 := Lib.hid hE1
  have HB1 := Lib.hid hB1
  have HB2 := Lib.hid hB2
  have hc1' := hB1.cell 0 _ rfl
  have hc2' := hB2.cell 0 _ rfl
  obtain ⟨LN, hLN⟩ : ∃ LN, LN = l.length := ⟨_, rfl⟩
  have HLN := Lib.hid hLN
  clear h hB1 hB2 hE1 hW1 hBX hLN
  go_enter Tryz.func15, Tryz.ntmps15
  go_upto_region 1 with (fail)
  rw [← HW1.out, ← HBX.out]
  rw [← HLN.out] at HP HR hc1' HB1 hc1 hll ⊢
  clear HW1
  go_wp2_with fail
  refine (HP.out _ HE1.out).mono ?_
  rintro e w1 ⟨rfl, rfl⟩
  cases hp : placeF l i with
  | false =>
    have HX := Lib.hid (wakesF_no hp)
    clear hp
    go_wp2
    go_ret
    exact ⟨_, rfl, by rw [HX.out]; exact OwnN.nil _ _ _, HE1.out⟩
  | true =>
    have HX := Lib.hid (wakesF_at hp)
    clear hp
    go_wp2_with fail
    go_loopw [5, 15] (fun o k wr => ∃ (j : Nat) (A : Option Addr) (C : Nat), j ≤ LN ∧ k = .int .i64 (j : Int) ∧ o = .slice A (natsI (wakesTo l i j)).length C ∧ Hid (Ext W1 wr) ∧ Hid (OwnN 3 W1.heap.size wr (.slice A (natsI (wakesTo l i j)).length C) (natsI (wakesTo l i j)))) (fun _ k _ => LN - (intOf k).toNat)
    case atStart => exact ⟨0, none, 0, by omega, rfl, rfl, Lib.hid (Ext.refl _), Lib.hid (OwnN.nil _ _ _)⟩
    case round =>
      obtain ⟨j, A, C, hj, rfl, rfl, HE, HO⟩ := hrel
      obtain ⟨S, hS⟩ : ∃ S, S = natsI (wakesTo l i j) := ⟨_, rfl⟩
      rw [← hS] at HO ⊢
      have hSl : S.length ≤ j := by rw [hS, natsR_len]; exact wakesTo_len _ _ _
      have HS := Lib.hid hS
      clear hS
      by_cases hlt : j < LN
      case neg =>
        have HY := Lib.hid (show S = natsI (wakesF l i) by rw [HS.out, HX.out, ← HLN.out, show j = LN by omega])
        go_wp2
        go_ret
        exact ⟨_, rfl, by rw [← HY.out]; exact ownsRow_mono HO.out HE1.out.size, HE1.out.trans HE.out⟩
      have hi' : j < l.length := by have := HLN.out; omega
      have HR1 := Lib.hid (HR.out.ext HE1.out)
      obtain ⟨g, off, Cs, aa, ma, ca, k0, n0, s0, a0, m0, c0, rfl, hb, hCs, hrg, hnv, hl16, hone⟩ := nd_rangeC HR1.out HE.out j hi'
      have hai : intE.Row W1 l[j].after (.slice aa ma ca) := by
        rw [hCs] at hnv
        obtain ⟨a', m', c', k', N', S', d', e, h2, -⟩ := hnv
        injection e with e
        injection e with e
        simp only [ndCells, List.cons.injEq] at e
        rw [e.2.2.2.2.2.2.1]
        exact h2
      have HAI := Lib.hid hai
      have HRg := Lib.hid hrg
      have HLn : Hid ((Tryz.prog.info? 38).map (·.size) = some Cs.length) := Lib.hid (by rw [hl16]; exact sizenode_C)
      have HL16 := Lib.hid hl16
      have HN1 := Lib.hid hone
      have HCo : Hid (Cs[9]? = some (.int .u8 (l[j].stand.toNat : Int)) ∧ Cs[6]? = some (.slice aa ma ca)) := Lib.hid (by rw [hCs]; exact ⟨rfl, rfl⟩)
      clear hrg hnv hCs hl16 hone hai
      have hj0 : (0 : Int) ≤ (j : Int) := by omega
      have hj1 : (j : Int) < (LN : Int) := by omega
      have HBa := HB1.out.ext HE.out
      have HBb := HB2.out.ext HE.out
      go_upto_region 7 with (first | (refine wpList_load_mid rfl _ _ rfl _ _ rfl _ _ HRg.out Tryz.underlying38 rfl HLn.out ?_) | (refine wpList_storeBox rfl _ _ _ rfl _ _ _ _ rfl rfl rfl rfl sizenode_C rfl HL16.out HN1.out ?_))
      have hE2 := (Ext.refl wr).alloc (.cells Cs.toArray 38)
      have hB3 := BoxL.new wr Cs 38
      have HBa := Lib.hid (HBa.ext hE2)
      have HBb := Lib.hid (HBb.ext hE2)
      have HO2 := Lib.hid (HO.out.ext hE2)
      have HE2 := Lib.hid (HE.out.trans hE2)
      generalize wr.alloc (.cells Cs.toArray 38) = W2 at *
      generalize wr.heap.size = NB at *
      have q9 := hB3.cell 9 _ HCo.out.1
      have q6 := hB3.cell 6 _ HCo.out.2
      have qa := HBa.out.cell 0 _ rfl
      have qb := HBb.out.cell 0 _ rfl
      clear hE2 hB3 HO HE HRg HLn HN1 HCo HL16 hc1' hc2'
      have hk := u8_is (k := l[j].stand) 0
      rw [show (((0 : UInt8).toNat : Nat) : Int) = 0 from rfl] at hk
      have haf : l[j].after.length ≤ 100000 := hl _ (List.getElem_mem hi')
      have HT := Lib.hid (wakesTo_succ l i j)
      have HY := Lib.hid (show wakeOne l i (nthF l (j : Int)) = (decide (l[j].stand = 0) && (decide (i ∈ l[j].after) && l[j].after.all (fun a => decide (a = i) || doneF l a))) by rw [nthF_at hi']; rfl)
      obtain ⟨st, hst⟩ : ∃ st, st = l[j].stand := ⟨_, rfl⟩
      rw [← hst] at hk HY q9
      obtain ⟨af, haf2⟩ : ∃ af, af = l[j].after := ⟨_, rfl⟩
      rw [← haf2] at haf HY HAI
      clear hst haf2
      have hskip : wakeOne l i (nthF l (j : Int)) = false → natsI (wakesTo l i (j + 1)) = S := fun h => by rw [HT.out, h, HS.out]; simp
      have HSk := Lib.hid hskip
      clear hskip
      by_cases hs : st = 0
      case neg =>
        have hk' : ((st.toNat : Int) == 0) = false := by rw [hk]; simpa using hs
        have HX5 := Lib.hid (HSk.out (by rw [HY.out]; simp [hs]))
        have HO5 := Lib.hid (show OwnN 3 W1.heap.size W2 (.slice A (natsI (wakesTo l i (j + 1))).length C) (natsI (wakesTo l i (j + 1))) by rw [HX5.out]; exact HO2.out)
        clear hk hs
        go_wp2_with fail
        go_roundw
        case rel => exact ⟨j + 1, _, _, by omega, by go_num, by rw [HX5.out], HE2, HO5⟩
        case measure => simp [intOf]; omega
      have hk' : ((st.toNat : Int) == 0) = true := by rw [hk]; simpa using hs
      have HCo := Lib.hid (containsR_any af i W2 _ (HAI.out.ext HE2.out) haf)
      go_wp2_with fail
      refine HCo.out.mono ?_
      rintro e w3 ⟨rfl, rfl⟩
      by_cases him : i ∈ af
      case neg =>
        have hd : decide (i ∈ af) = false := by simpa using him
        have HX5 := Lib.hid (HSk.out (by rw [HY.out]; simp [him]))
        have HO5 := Lib.hid (show OwnN 3 W1.heap.size W2 (.slice A (natsI (wakesTo l i (j + 1))).length C) (natsI (wakesTo l i (j + 1))) by rw [HX5.out]; exact HO2.out)
        rw [hd]
        clear hk hs him hd
        go_wp2_with fail
        go_roundw
        case rel => exact ⟨j + 1, _, _, by omega, by go_num, by rw [HX5.out], HE2, HO5⟩
        case measure => simp [intOf]; omega
      have hd : decide (i ∈ af) = true := by simpa using him
      rw [hd]
      have eg : ∀ args w, (callFunc 37 args).run Tryz.prog w = .ok (.enter 37 args) w := fun _ _ => by kernel_rfl
      have HCf := Lib.hid (hasN_any af 37 eg #[.pointer (some ⟨BX + 1, 0, none⟩), .pointer (some ⟨BX, 0, none⟩)] (fun k => !(decide (af.getD k 0 = i) || doneF l (af.getD k 0))) W2 _ (HAI.out.ext HE2.out) (fun k hk w' hE' _ => by
        have hg : af.getD k 0 = af[k] := by rw [List.getD_eq_getElem?_getD, List.getElem?_eq_getElem hk, Option.getD_some]
        rw [hg]
        exact (wakes1_any l i af[k] (BX + 1) BX w' _ (HR1.out.ext (HE2.out.trans hE')) ((HBb.out.ext hE').cell 0 _ rfl) ((HBa.out.ext hE').cell 0 _ rfl)).mono (fun e w'' he => ⟨he.1, by rw [← he.2]; exact Ext.refl _⟩)))
      have HAl : Hid (∀ b : Bool, (b = true ↔ ∃ k, k < af.length ∧ (!(decide (af.getD k 0 = i) || doneF l (af.getD k 0))) = true) → af.all (fun a => decide (a = i) || doneF l a) = !b) := Lib.hid (fun b hb => by
        rw [Bool.eq_iff_iff, List.all_eq_true]
        cases b with
        | true =>
          obtain ⟨k, hk, h2⟩ := hb.1 rfl
          have hg : af.getD k 0 = af[k] := by rw [List.getD_eq_getElem?_getD, List.getElem?_eq_getElem hk, Option.getD_some]
          rw [hg] at h2
          constructor
          · intro h; have := h _ (List.getElem_mem hk); rw [this] at h2; cases h2
          · intro h; cases h
        | false =>
          refine ⟨fun _ => rfl, fun _ a ha => ?_⟩
          obtain ⟨k, hk, rfl⟩ := List.getElem_of_mem ha
          cases h2 : (decide (af[k] = i) || doneF l af[k]) with
          | true => rfl
          | false =>
            have hg : af.getD k 0 = af[k] := by rw [List.getD_eq_getElem?_getD, List.getElem?_eq_getElem hk, Option.getD_some]
            have := hb.2 ⟨k, hk, by rw [hg, h2]; rfl⟩
            cases this)
      have HIM := Lib.hid him
      have HSt := Lib.hid hs
      clear hk hs him hd eg
      go_wp2_with fail
      refine HCf.out.mono ?_
      rintro e w3 ⟨bb, rfl, hbb, hE3⟩
      have hal := HAl.out bb hbb
      have HE3 := Lib.hid (HE2.out.trans hE3)
      have HO3 := Lib.hid (HO2.out.ext hE3)
      clear hbb HAl HCf HCo
      cases bb with
      | true =>
        have HX5 := Lib.hid (HSk.out (by rw [HY.out, hal]; simp))
        have HO5 := Lib.hid (show OwnN 3 W1.heap.size w3 (.slice A (natsI (wakesTo l i (j + 1))).length C) (natsI (wakesTo l i (j + 1))) by rw [HX5.out]; exact HO3.out)
        clear hal hE3
        go_wp2_with fail
        go_roundw
        case rel => exact ⟨j + 1, _, _, by omega, by go_num, by rw [HX5.out], HE3, HO5⟩
        case measure => simp [intOf]; omega
      | false =>
        have HX5 := Lib.hid (show natsI (wakesTo l i (j + 1)) = S ++ [(j : Int)] by rw [HT.out, HY.out, hal, HSt.out, decide_eq_true HIM.out, HS.out]; simp [natsI])
        have hz := HE3.out.size
        clear hal hE3 q9 q6 qa qb
        go_wp2_with (at_builtin; refine wpList_append_own _ rfl _ _ 22 rfl W1.heap.size 3 i0 (.int .i64 0) 1 8 Tryz.underlying22 hi hz0 hz1 hz2 rfl (by decide) _ _ _ rfl (World.ownsRow.alloc HO3.out _) ⟨w3.heap.size, 0, none⟩ 1 1 [.int .i64 (j : Int)] rfl rfl (cell_one_new _ _ _) (by simp [Value.oneCell']) (by unfold maxLen; omega) (by omega) (by simp; omega) ?_; intro v' w5 hown' hgrow _)
        obtain ⟨g', cap', rfl⟩ := ownsRow_succ hown'
        have HE5 := Lib.hid ((HE3.out.alloc (.cells #[.int .i64 (j : Int)] 3)).grown hgrow (fun k e => (World.ownsRow.lt HO3.out k e).1))
        have HO5 := Lib.hid (show OwnN 3 W1.heap.size w5 (.slice (some ⟨g', 0, none⟩) (natsI (wakesTo l i (j + 1))).length cap') (natsI (wakesTo l i (j + 1))) by rw [HX5.out]; unfold OwnN; simpa using hown')
        have HLX := Lib.hid (show S.length + 1 = (natsI (wakesTo l i (j + 1))).length by rw [HX5.out]; simp)
        clear hown' hgrow
        go_wp2
        go_roundw
        case rel => exact ⟨j + 1, _, _, by omega, by go_num, by rw [HLX.out], HE5, HO5⟩
        case measure => simp [intOf]; omega
end Go.Proofs.YtbciamploeejiaaGreatDoor

open Go.RowKit Go.Shelf
namespace Fm
open Go Go.RowKit
def plc (r : Rk) : Nat := r.place.toNat
theorem plc_rank (l : List Nd) (i : Nat) : plc (rankF l i) = i := by unfold plc rankF; exact Int.toNat_natCast i
/-- What a heap of just those that are ready hands out is all of them, in order. -/
theorem drain_all {l : List Nd} {a : Nat → Rk} {n : Nat} (hp : Hp ltR a n) (mem : ∀ x, (∃ k, k < n ∧ a k = x) ↔ ∃ i, i < l.length ∧ readyB l i = true ∧ x = rankF l i) (inj : ∀ i k, i < n → k < n → a i = a k → i = k) : (drainF ltR n a).map plc = allQ l := by
  have hd := drain_mem (lt := ltR) n a inj
  refine allQ_of ?_ (fun x => ?_)
  · have hs := drain_sort ltR_good n a inj (fun i j hi hj hij => ?_) hp
    · unfold SortR
      rw [List.pairwise_map]
      refine hs.imp_of_mem (fun {x y} hx hy h => ?_)
      obtain ⟨i, -, -, rfl⟩ := (mem x).1 ((hd x).1 hx)
      obtain ⟨j, -, -, rfl⟩ := (mem y).1 ((hd y).1 hy)
      rw [plc_rank, plc_rank]
      exact h
    · obtain ⟨p, -, -, e1⟩ := (mem (a i)).1 ⟨i, hi, rfl⟩
      obtain ⟨q, -, -, e2⟩ := (mem (a j)).1 ⟨j, hj, rfl⟩
      rw [e1, e2]
      refine ltR_total (fun e => hij (inj i j hi hj ?_))
      rw [e1, e2, e]
  · rw [List.mem_map]
    constructor
    · rintro ⟨r, hr, rfl⟩
      obtain ⟨i, h1, h2, rfl⟩ := (mem r).1 ((hd r).1 hr)
      rw [plc_rank]
      exact ⟨h1, h2⟩
    · rintro ⟨h1, h2⟩
      exact ⟨rankF l x, (hd _).2 ((mem _).2 ⟨x, h1, h2, rfl⟩), plc_rank l x⟩
theorem HpQ.kept {e : TypeId} {base n B : Nat} {w w' : World} {v : Value} {a : Nat → Rk} {row : Option Nat} (h : HpQ e base w B v a n) (hg : w.grownBy w' row) (h1 : row ≠ some B) (h2 : v.ownBlock = none ∨ v.ownBlock ≠ row) : HpQ e base w' B v a n :=
  ⟨h.box.kept hg h1, h.row.kept hg h2, h.apart, h.low⟩
theorem ownsRow_capR {w : World} {base e size n g cap : Nat} {xs : List Value} (h : w.ownsRow base e size (.slice (some ⟨g, 0, none⟩) n cap) n xs) : n ≤ cap := by
  rcases h.2 with ⟨e1, -⟩ | ⟨g', cap', cur, e1, -, -, h1, -⟩
  · cases e1
  · injection e1 with e1 e2 e3
    rw [e3]; exact h1
end Fm
namespace Go.Proofs.YtbciamploeejiaaGreatDoor
open Go Go.Proofs Fm

theorem rk_field (x0 x1 x2 : Int) (s : ByteArray) (w : World) : (Instr.field 52 (.agg #[.int .i64 x0, .int .i64 x1, .int .i64 x2, .string s]) 2).run Tryz.prog w = .ok (.int .i64 x2) w := by kernel_rfl
set_option maxRecDepth 100000 in
set_option maxHeartbeats 4000000 in
theorem all_any (l : List Nd) (hO : RightO l) (hl : l.length ≤ 1000) (hid : ∀ n, n ∈ l → n.id.length ≤ 1000000) (w : World) (hw : KW w) (v : Value) (h : ndE.Row w l v) :
    Calls Tryz.prog 12 #[v] w fun e w' => ∃ v', e = .returned v' ∧ OwnN 3 w.heap.size w' v' (natsI (allQ l)) ∧ Ext w w' := by
  obtain ⟨i0, hi, hz0, hz1, hz2⟩ := info_parts infoint_F
  have HQ := Lib.hid (queued_any l hO hl hid w hw v h)
  have HW := Lib.hid hw
  obtain ⟨a, c, rfl, hc1, hc2⟩ := h.slice
  clear h hw hid
  go_enter Tryz.func12, Tryz.ntmps12
  go_wp2_with fail
  refine HQ.out.mono ?_
  rintro e w1 ⟨B, u, a0, n0, rfl, hq, hwB, hn, hE⟩
  have HD := Lib.hid (drain_all hq.hp hq.mem hq.inj)
  have HM : Hid (∀ k, k < n0 → ∃ i : Nat, i < 1000 ∧ a0 k = rankF l i) := Lib.hid (fun k hk => by
    obtain ⟨i, h1, -, h2⟩ := (hq.mem (a0 k)).1 ⟨k, hk, rfl⟩
    exact ⟨i, by omega, h2⟩)
  have HE := Lib.hid hE
  have HHq := Lib.hid hq.hq
  have HFi := Lib.hid hq.fit
  have HwB := Lib.hid hwB
  have hBl := hq.hq.box.lt
  clear hq HQ hE hwB
  by_cases h0 : n0 = 0
  · subst h0
    have HD := Lib.hid (show allQ l = [] by rw [← HD.out]; rfl)
    obtain ⟨m, cc, rfl⟩ : ∃ m cc, u = .slice m 0 cc := by
      rcases HHq.out.row.2 with ⟨e1, e2⟩ | ⟨g, cap, cur, e1, _⟩
      · exact ⟨none, 0, e1⟩
      · exact ⟨_, _, e1⟩
    have hc := HHq.out.box.cell 0 _ rfl
    go_wp2_with fail
    refine wp_loop_rounds 1 ?_
    rw [rounds_succ]
    go_wp2_with fail
    refine (rowlen_any _ _ _ w1).mono ?_
    rintro e w2 ⟨rfl, rfl⟩
    go_wp2_with fail
    go_ret
    exact ⟨_, rfl, by rw [HD.out]; exact OwnN.nil _ _ _, HE.out⟩
  obtain ⟨g, cap, rfl, hg1, hg2⟩ := HHq.out.row.form (by omega)
  have hcap := ownsRow_capR HHq.out.row
  have HG1 := Lib.hid hg1
  have HG2 := Lib.hid hg2
  have HBL := Lib.hid hBl
  clear hg1 hg2 hBl
  go_wp2_with fail
  go_loopg [3] (n0 + 1) (fun k o wr => ∃ (n : Nat) (q : Nat → Rk) (out : List Nat) (A : Option Addr) (C : Nat), n < k ∧ n ≤ n0 ∧ o = .slice A (natsI out).length C ∧ (natsI out).length + n ≤ 1000 ∧
    Hid (HpQ 52 B wr B (.slice (some ⟨g, 0, none⟩) n cap) q n ∧ FitA q n ∧ ∀ k, k < n → ∃ i : Nat, i < 1000 ∧ q k = rankF l i) ∧ Hid (Ext w wr) ∧ Hid (OwnN 3 w1.heap.size wr (.slice A (natsI out).length C) (natsI out)) ∧
    Hid (w1.heap.size ≤ wr.heap.size) ∧ Hid (out ++ (drainF ltR n q).map plc = allQ l))
  case atStart => exact ⟨n0, a0, [], none, 0, by omega, by omega, rfl, by simp [natsI]; omega, Lib.hid ⟨HHq.out, HFi.out, HM.out⟩, HE, Lib.hid (OwnN.nil _ _ _), Lib.hid (Nat.le_refl _), Lib.hid (by rw [List.nil_append]; exact HD.out)⟩
  case round =>
    clear HHq HFi HM HE HD
    obtain ⟨n, q, out, A, C, hnk, hnn, rfl, hlen, HQ, HE, HO, HS, HD⟩ := hrel
    have hc := HQ.out.1.box.cell 0 _ rfl
    obtain ⟨S, hS⟩ : ∃ S, S = natsI out := ⟨_, rfl⟩
    rw [← hS] at HO hlen ⊢
    have HSS := Lib.hid hS
    clear hS
    cases n with
    | zero =>
      have HX := Lib.hid (show S = natsI (allQ l) by rw [HSS.out, ← HD.out]; simp [drainF])
      go_wp2_with fail
      refine (rowlen_any _ _ _ wr).mono ?_
      rintro e w2 ⟨rfl, rfl⟩
      go_wp2_with fail
      go_ret
      exact ⟨_, rfl, by rw [← HX.out]; exact (ownsRow_mono HO.out (by have := HBL.out; have := HwB.out; omega)), HE.out⟩
    | succ n =>
      obtain ⟨ix, hix, hq0⟩ := HQ.out.2.2 0 (by omega)
      have hgt : (0 : Int) < ((n + 1 : Nat) : Int) := by omega
      go_wp2_with fail
      refine (rowlen_any _ _ _ wr).mono ?_
      rintro e w2 ⟨rfl, rfl⟩
      go_wp2_with fail
      refine (pop_heap w wr HW.out HE.out HwB.out HQ.out.1 HQ.out.2.1 (by omega) (by omega)).mono ?_
      rintro e w2 ⟨rfl, hq2, hF2, hE2⟩
      have hv : rkV (q 0) = .agg #[.int .i64 (rankF l ix).fails, .int .i64 (rankF l ix).up, .int .i64 (ix : Int), .string (str (rankF l ix).id)] := by rw [hq0]; rfl
      have hpl : plc (q 0) = ix := by rw [hq0, plc_rank]
      have HD := Lib.hid (show (out ++ [ix]) ++ (drainF ltR n (downF ltR n (swp q 0 n) 0)).map plc = allQ l by rw [← HD.out, drainF, List.map_cons, hpl]; simp)
      have hsm : Same q (swp q 0 n) (n + 1) := Same.swp q (by omega) (by omega)
      have hsd : Same (swp q 0 n) (downF ltR n (swp q 0 n) 0) n := downF_same ltR n 0 _ (by omega)
      have HQ2 := Lib.hid (show HpQ 52 B w2 B (.slice (some ⟨g, 0, none⟩) n cap) (downF ltR n (swp q 0 n) 0) n ∧ FitA (downF ltR n (swp q 0 n) 0) n ∧ ∀ k, k < n → ∃ i : Nat, i < 1000 ∧ downF ltR n (swp q 0 n) 0 k = rankF l i from
        ⟨hq2, FitA.of (fun k hk => (HQ.out.2.1.swp (i := 0) (j := n) (by omega) (by omega)) k (by omega)) hsd, fun k hk => by
          obtain ⟨k1, hk1, e1⟩ := (hsd.mem _).1 ⟨k, hk, rfl⟩
          obtain ⟨k2, hk2, e2⟩ := (hsm.mem (swp q 0 n k1)).1 ⟨k1, by omega, rfl⟩
          obtain ⟨i, h1, h2⟩ := HQ.out.2.2 k2 hk2
          exact ⟨i, h1, by rw [← e1, ← e2, h2]⟩⟩)
      have HO2 := Lib.hid (show OwnN 3 w1.heap.size w2 (.slice A S.length C) S from hF2.own HO.out (fun e => by have := (World.ownsRow.lt HO.out B e).1; have := HBL.out; omega) (fun e => by have := (World.ownsRow.lt HO.out g e).1; have := HG2.out; omega))
      have HS2 := Lib.hid (Nat.le_trans HS.out hF2.size)
      have HE2 := Lib.hid hE2
      have hta := rk_assert
      have hfd := rk_field
      obtain ⟨x0, hx0⟩ : ∃ x0, x0 = (rankF l ix).fails := ⟨_, rfl⟩
      obtain ⟨x1, hx1⟩ : ∃ x1, x1 = (rankF l ix).up := ⟨_, rfl⟩
      obtain ⟨x2, hx2⟩ : ∃ x2, x2 = (rankF l ix).id := ⟨_, rfl⟩
      rw [← hx0, ← hx1, ← hx2] at hv
      rw [hv]
      clear hq2 hF2 hE2 HQ HO HS HE hsm hsd hc hx0 hx1 hx2 hv hq0 hpl
      go_wp2_with (at_builtin; refine wpList_append_own _ rfl _ _ 22 rfl w1.heap.size 3 i0 (.int .i64 0) 1 8 Tryz.underlying22 hi hz0 hz1 hz2 rfl (by decide) _ _ _ rfl (World.ownsRow.alloc HO2.out _) ⟨w2.heap.size, 0, none⟩ 1 1 [.int .i64 (ix : Int)] rfl rfl (cell_one_new _ _ _) (by simp [Value.oneCell']) (by unfold maxLen; omega) (by omega) (by have := HS2.out; simp; omega) ?_; intro v' w5 hown' hgrow _)
      obtain ⟨g', cap', rfl⟩ := ownsRow_succ hown'
      have hzz : (w2.alloc (.cells #[.int .i64 (ix : Int)] 3)).heap.size = w2.heap.size + 1 := by simp
      have hb5 : ∀ k, (Value.slice A S.length C).ownBlock = some k → w1.heap.size ≤ k := fun k e => (World.ownsRow.lt HO2.out k e).1
      have HE5 := Lib.hid ((HE2.out.alloc (.cells #[.int .i64 (ix : Int)] 3)).grown hgrow (fun k e => by have := hb5 k e; have := HBL.out; have := HwB.out; omega))
      have HQ5 := Lib.hid (show HpQ 52 B w5 B (.slice (some ⟨g, 0, none⟩) n cap) (downF ltR n (swp q 0 n) 0) n ∧ FitA (downF ltR n (swp q 0 n) 0) n ∧ ∀ k, k < n → ∃ i : Nat, i < 1000 ∧ downF ltR n (swp q 0 n) 0 k = rankF l i from
        ⟨(HQ2.out.1.ext ((Ext.refl w2).alloc _)).kept hgrow (fun e => by have := hb5 B e; have := HBL.out; omega) (.inr (fun e => by have := hb5 g e.symm; have := HG2.out; omega)), HQ2.out.2⟩)
      have HX := Lib.hid (show S ++ [(ix : Int)] = natsI (out ++ [ix]) by rw [HSS.out]; simp [natsI])
      have HO5 := Lib.hid (show OwnN 3 w1.heap.size w5 (.slice (some ⟨g', 0, none⟩) (natsI (out ++ [ix])).length cap') (natsI (out ++ [ix])) by rw [← HX.out]; unfold OwnN; simpa using hown')
      have HLX := Lib.hid (show S.length + 1 = (natsI (out ++ [ix])).length by rw [← HX.out]; simp)
      have HS5 := Lib.hid (show w1.heap.size ≤ w5.heap.size by have := hgrow.size; have := HS2.out; omega)
      clear hown' hgrow HQ2 HO2 HE2 HS2 hzz hb5
      go_wp2
      go_roundg (n + 1)
      case rel => exact ⟨n, _, out ++ [ix], _, _, by omega, by omega, by rw [HLX.out], by rw [← HLX.out]; omega, HQ5, HE5, HO5, HS5, HD⟩
      case measure => omega
noncomputable def nextQ (l : List Nd) : Int := match allQ l with
  | [] => 0
  | k :: _ => (k : Int)
theorem nextQ_no {l : List Nd} (h : allQ l = []) : nextQ l = 0 := by unfold nextQ; rw [h]
theorem nextQ_yes {l : List Nd} {k : Nat} {r : List Nat} (h : allQ l = k :: r) : nextQ l = (k : Int) := by unfold nextQ; rw [h]
set_option maxRecDepth 100000 in
set_option maxHeartbeats 4000000 in
theorem next_any (l : List Nd) (hO : RightO l) (hl : l.length ≤ 1000) (hid : ∀ n, n ∈ l → n.id.length ≤ 1000000) (w : World) (hw : KW w) (v : Value) (h : ndE.Row w l v) :
    Calls Tryz.prog 8 #[v] w fun e w' => e = .returned (.tuple #[.int .i64 (nextQ l), .bool (!(allQ l).isEmpty)]) ∧ Ext w w' := by
  have HQ := Lib.hid (queued_any l hO hl hid w hw v h)
  obtain ⟨a, c, rfl, hc1, hc2⟩ := h.slice
  clear h hw hid
  go_enter Tryz.func8, Tryz.ntmps8
  go_wp2_with fail
  refine HQ.out.mono ?_
  rintro e w1 ⟨B, u, a0, n0, rfl, hq, hwB, hn, hE⟩
  have hd := drain_all hq.hp hq.mem hq.inj
  have HE := Lib.hid hE
  cases n0 with
  | zero =>
    have HD := Lib.hid (show allQ l = [] by rw [← hd]; rfl)
    obtain ⟨m, cc, rfl⟩ : ∃ m cc, u = .slice m 0 cc := by
      rcases hq.hq.row.2 with ⟨e1, e2⟩ | ⟨g, cap, cur, e1, _⟩
      · exact ⟨none, 0, e1⟩
      · exact ⟨_, _, e1⟩
    have hc := hq.hq.box.cell 0 _ rfl
    clear hq hd hE
    go_wp2_with fail
    refine (rowlen_any _ _ _ w1).mono ?_
    rintro e w2 ⟨rfl, rfl⟩
    go_wp2_with fail
    exact bodyPost_ret (v := .tuple #[.int .i64 0, .bool false]) (by simp [results, Tryz.results8, go_sem]) rfl ⟨by rw [HD.out, nextQ_no HD.out]; rfl, HE.out⟩
  | succ n =>
    obtain ⟨g, cap, rfl, -, -⟩ := hq.hq.row.form (by omega)
    obtain ⟨i, -, -, hi⟩ := (hq.mem (a0 0)).1 ⟨0, by omega, rfl⟩
    have HD := Lib.hid (show allQ l = i :: (drainF ltR n (downF ltR n (swp a0 0 n) 0)).map plc by rw [← hd, drainF, List.map_cons, hi, plc_rank])
    have hc := hq.hq.box.cell 0 _ rfl
    have c2 : w1.cell? ⟨g, 2, none⟩ = some (.int .i64 (i : Int)) := by
      have := hq.hq.row.at (i := 0) (by omega) 2 (.int .i64 (a0 0).place) rfl
      rw [hi] at this
      simpa [rankF] using this
    have hne : (((n + 1 : Nat) : Int) == 0) = false := by simp; omega
    have hgt : (0 : Int) < ((n + 1 : Nat) : Int) := by omega
    clear hq hd hE hi
    go_wp2_with fail
    refine (rowlen_any _ _ _ w1).mono ?_
    rintro e w2 ⟨rfl, rfl⟩
    go_wp2_with fail
    exact bodyPost_ret (v := .tuple #[.int .i64 (i : Int), .bool true]) (by simp [results, Tryz.results8, go_sem]) rfl ⟨by rw [HD.out, nextQ_yes HD.out]; rfl, HE.out⟩
end Go.Proofs.YtbciamploeejiaaGreatDoor

open Go.RowKit Go.Shelf
namespace Fm
open Go Go.RowKit
def ndXc (id : ByteArray) (st fl f o : Int) (af : Value) : List Value := [.string id, .string { data := #[] }, .int .u8 0, .int .i64 f, .int .i64 o, .int .i64 0, af, .int .i64 0, .int .i64 0, .int .u8 st, .int .i64 fl, .int .i64 0, .int .u8 0, .int .i64 0, .string { data := #[] }, .slice none 0 0]
theorem ndX_v {W : World} {id : List UInt8} {st : UInt8} {fl f o : Int} {af : List Int} {m c : Nat} {a : Option Addr} (h : intE.Row W af (.slice a m c)) (hi : id.length ≤ 9223372036854775807) (h1 : isI64 fl) (h2 : isI64 f) (h3 : isI64 o) : NdV W (ndX id st fl f o af) (.agg (ndXc (str id) (st.toNat : Int) fl f o (.slice a m c)).toArray) := by
  have z : isI64 0 := by unfold isI64; omega
  exact ⟨a, m, c, .int .u8 0, .int .i64 0, .string { data := #[] }, .slice none 0 0, rfl, h, zT_liesF W, hi, by simp [ndX], h2, h3, z, z, z, h1, z⟩
end Fm
namespace Go.Proofs.YtbciamploeejiaaGreatDoor
open Go Go.Proofs Fm
attribute [local go_sem] Oper.semAt_some

theorem take_more {l m : List Int} {j : Nat} (h : l.take j = m.take j) (h1 : j < l.length) (h2 : j < m.length) (he : l[j] = m[j]) : l.take (j + 1) = m.take (j + 1) := by
  rw [List.take_add_one, List.take_add_one, h, List.getElem?_eq_getElem h1, List.getElem?_eq_getElem h2, he]
set_option maxRecDepth 100000 in
set_option maxHeartbeats 4000000 in
theorem ints16_any (l m : List Int) (w : World) (v v' : Value) (h : intE.Row w l v) (h' : intE.Row w m v') :
    Calls Tryz.prog 11 #[v, v'] w fun e w' => e = .returned (.bool (decide (l = m))) ∧ Ext w w' := by
  have HR := Lib.hid h
  have HR' := Lib.hid h'
  obtain ⟨a, c, rfl, hc1, hc2⟩ := h.slice
  obtain ⟨a', c', rfl, hc1', hc2'⟩ := h'.slice
  clear h h'
  by_cases hlen : l.length = m.length
  case neg =>
    have hne : ((l.length : Int) != (m.length : Int)) = true := by simp; omega
    have HX := Lib.hid (show decide (l = m) = false by simp; intro e; exact hlen (by rw [e]))
    clear hlen
    go_enter Tryz.func11, Tryz.ntmps11
    go_wp2
    go_ret
    exact ⟨by rw [HX.out]; rfl, Ext.refl w⟩
  have hne : ((l.length : Int) != (m.length : Int)) = false := by simp; omega
  have HL := Lib.hid hlen
  go_enter Tryz.func11, Tryz.ntmps11
  go_wp2_with fail
  clear hne
  go_loopw [13] (fun i wr => ∃ j : Nat, j ≤ l.length ∧ i = .int .i64 (j : Int) ∧ Hid (Ext w wr) ∧ Hid (l.take j = m.take j)) (fun i _ => l.length - (intOf i).toNat)
  case atStart => exact ⟨0, by omega, rfl, Lib.hid (Ext.refl w), Lib.hid rfl⟩
  case round =>
    obtain ⟨j, hj, rfl, HE, HT⟩ := hrel
    by_cases hlt : j < l.length
    case neg =>
      have HX := Lib.hid (show decide (l = m) = true by
        have := HT.out
        rw [List.take_of_length_le (by omega), List.take_of_length_le (by omega)] at this
        simpa using this)
      go_wp2
      go_ret
      exact ⟨by rw [HX.out]; rfl, HE.out⟩
    have hlt' : j < m.length := by omega
    obtain ⟨b, off, rfl, hb, hcell, -⟩ := int_at HR.out HE.out j hlt
    obtain ⟨b', off', rfl, hb', hcell', -⟩ := int_at HR'.out HE.out j hlt'
    have hj0 : (0 : Int) ≤ (j : Int) := by omega
    have hj1 : (j : Int) < (l.length : Int) := by omega
    have hj2 : (j : Int) < (m.length : Int) := by omega
    have HM := Lib.hid (fun he : l[j] = m[j] => take_more HT.out hlt hlt' he)
    have HN := Lib.hid (fun he : l[j] ≠ m[j] => show decide (l = m) = false by simp only [decide_eq_false_iff_not]; rintro rfl; exact he rfl)
    obtain ⟨x, hx⟩ : ∃ x, x = l[j] := ⟨_, rfl⟩
    obtain ⟨y, hy⟩ : ∃ y, y = m[j] := ⟨_, rfl⟩
    rw [← hx] at hcell HM HN
    rw [← hy] at hcell' HM HN
    clear hx hy
    by_cases hxy : x = y
    · have hne : (x != y) = false := by simp [hxy]
      have HT2 := Lib.hid (HM.out hxy)
      clear hxy
      go_wp2_with fail
      go_region
      go_wp2_with fail
      go_roundw
      case rel => exact ⟨j + 1, by omega, by go_num, Lib.hid HE.out.drew, HT2⟩
      case measure => simp [intOf]; omega
    · have hne : (x != y) = true := by simp [hxy]
      have HX := Lib.hid (HN.out hxy)
      clear hxy
      go_wp2_with fail
      go_region
      go_wp2
      go_ret
      exact ⟨by rw [HX.out]; rfl, HE.out.drew⟩
theorem rowL_any (W : World) : ndE.Row (W.alloc (.cells (ndXc ⟨#[48, 47, 97]⟩ 1 1 0 (-1) (.slice none 0 0) ++ ndXc ⟨#[48, 47, 98]⟩ 1 0 0 (-1) (.slice none 0 0) ++ ndXc ⟨#[49, 47, 97]⟩ 1 0 1 (-1) (.slice none 0 0) ++ ndXc ⟨#[48, 47, 98, 47, 99]⟩ 1 0 0 1 (.slice none 0 0)).toArray 38)) awL (.slice (some ⟨W.heap.size, 0, none⟩) 4 4) := by
  have z : ∀ k : Int, -1 ≤ k → k ≤ 1 → isI64 k := fun k h1 h2 => by unfold isI64; omega
  have ho := World.ownsRow_lit W (ndXc ⟨#[48, 47, 97]⟩ 1 1 0 (-1) (.slice none 0 0) ++ ndXc ⟨#[48, 47, 98]⟩ 1 0 0 (-1) (.slice none 0 0) ++ ndXc ⟨#[49, 47, 97]⟩ 1 0 1 (-1) (.slice none 0 0) ++ ndXc ⟨#[48, 47, 98, 47, 99]⟩ 1 0 0 1 (.slice none 0 0)).toArray 4 (base := W.heap.size) (e := 38) (size := 16) (Nat.le_refl _) (by unfold maxLen; omega) rfl
  refine ndRow_parts (cs := [ndXc ⟨#[48, 47, 97]⟩ 1 1 0 (-1) (.slice none 0 0), ndXc ⟨#[48, 47, 98]⟩ 1 0 0 (-1) (.slice none 0 0), ndXc ⟨#[49, 47, 97]⟩ 1 0 1 (-1) (.slice none 0 0), ndXc ⟨#[48, 47, 98, 47, 99]⟩ 1 0 0 1 (.slice none 0 0)]) rfl (by simpa [awL] using ho) (fun i hi hc => ?_)
  have hi : i < 4 := hi
  rcases (by omega : i = 0 ∨ i = 1 ∨ i = 2 ∨ i = 3) with rfl | rfl | rfl | rfl
  · exact ⟨rfl, ndX_v (st := 1) (Elem.Row.void intE _ none) (by decide) (z 1 (by omega) (by omega)) (z 0 (by omega) (by omega)) (z (-1) (by omega) (by omega))⟩
  · exact ⟨rfl, ndX_v (st := 1) (Elem.Row.void intE _ none) (by decide) (z 0 (by omega) (by omega)) (z 0 (by omega) (by omega)) (z (-1) (by omega) (by omega))⟩
  · exact ⟨rfl, ndX_v (st := 1) (Elem.Row.void intE _ none) (by decide) (z 0 (by omega) (by omega)) (z 1 (by omega) (by omega)) (z (-1) (by omega) (by omega))⟩
  · exact ⟨rfl, ndX_v (st := 1) (Elem.Row.void intE _ none) (by decide) (z 0 (by omega) (by omega)) (z 0 (by omega) (by omega)) (z 1 (by omega) (by omega))⟩
theorem rowW_any {W : World} {base B b m c : Nat} (st : UInt8) (ho : W.ownsRow base 38 16 (.slice (some ⟨B, 0, none⟩) 3 3) 3 (ndXc ⟨#[48, 47, 98]⟩ (st.toNat : Int) 0 0 (-1) (.slice none 0 0) ++ ndXc ⟨#[48, 47, 99]⟩ 0 0 0 (-1) (.slice none 0 0) ++ ndXc ⟨#[48, 47, 100]⟩ 0 0 0 (-1) (.slice (some ⟨b, 0, none⟩) m c))) (h : intE.Row W [1, 0] (.slice (some ⟨b, 0, none⟩) m c)) :
    ndE.Row W [ndX [48, 47, 98] st 0 0 (-1) [], ndX [48, 47, 99] 0 0 0 (-1) [], ndX [48, 47, 100] 0 0 0 (-1) [1, 0]] (.slice (some ⟨B, 0, none⟩) 3 3) := by
  have z : ∀ k : Int, -1 ≤ k → k ≤ 1 → isI64 k := fun k h1 h2 => by unfold isI64; omega
  refine ndRow_parts (cs := [ndXc ⟨#[48, 47, 98]⟩ (st.toNat : Int) 0 0 (-1) (.slice none 0 0), ndXc ⟨#[48, 47, 99]⟩ 0 0 0 (-1) (.slice none 0 0), ndXc ⟨#[48, 47, 100]⟩ 0 0 0 (-1) (.slice (some ⟨b, 0, none⟩) m c)]) rfl (by simpa using ho) (fun i hi hc => ?_)
  have hi : i < 3 := hi
  rcases (by omega : i = 0 ∨ i = 1 ∨ i = 2) with rfl | rfl | rfl
  · exact ⟨rfl, ndX_v (Elem.Row.void intE _ none) (by decide) (z 0 (by omega) (by omega)) (z 0 (by omega) (by omega)) (z (-1) (by omega) (by omega))⟩
  · exact ⟨rfl, ndX_v (st := 0) (Elem.Row.void intE _ none) (by decide) (z 0 (by omega) (by omega)) (z 0 (by omega) (by omega)) (z (-1) (by omega) (by omega))⟩
  · exact ⟨rfl, ndX_v (st := 0) h (by decide) (z 0 (by omega) (by omega)) (z 0 (by omega) (by omega)) (z (-1) (by omega) (by omega))⟩
theorem litRow (W : World) (zs : List Int) (hz : ∀ z, z ∈ zs → isI64 z) (hl : zs.length ≤ 1000) : intE.Row (W.alloc (.cells (zs.map (Value.int .i64)).toArray 3)) zs (.slice (some ⟨W.heap.size, 0, none⟩) zs.length zs.length) := by
  have ho := World.ownsRow_lit W (zs.map (Value.int .i64)).toArray zs.length (base := W.heap.size) (e := 3) (size := 1) (Nat.le_refl _) (by unfold maxLen; omega) (by simp)
  exact OwnN.row (e := 3) (base := W.heap.size) (by unfold OwnN; simpa using ho) hz
theorem nextQ_aw : nextQ awL = 3 := nextQ_yes aw_all
set_option maxRecDepth 100000 in
set_option maxHeartbeats 8000000 in
theorem awake24_any (w : World) (hw : KW w) : Calls Tryz.prog 17 #[] w fun e w' => e = .returned (.bool true) ∧ Ext w w' := by
  have HW := Lib.hid hw
  clear hw
  have hL := rowL_any w
  have hE1 := (Ext.refl w).alloc (.cells (ndXc ⟨#[48, 47, 97]⟩ 1 1 0 (-1) (.slice none 0 0) ++ ndXc ⟨#[48, 47, 98]⟩ 1 0 0 (-1) (.slice none 0 0) ++ ndXc ⟨#[49, 47, 97]⟩ 1 0 1 (-1) (.slice none 0 0) ++ ndXc ⟨#[48, 47, 98, 47, 99]⟩ 1 0 0 1 (.slice none 0 0)).toArray 38)
  go_enter Tryz.func17, Tryz.ntmps17
  go_upto_region 2 with (fail)
  change Code.wp _ _ _ _ (w.alloc (.cells (ndXc ⟨#[48, 47, 97]⟩ 1 1 0 (-1) (.slice none 0 0) ++ ndXc ⟨#[48, 47, 98]⟩ 1 0 0 (-1) (.slice none 0 0) ++ ndXc ⟨#[49, 47, 97]⟩ 1 0 1 (-1) (.slice none 0 0) ++ ndXc ⟨#[48, 47, 98, 47, 99]⟩ 1 0 0 1 (.slice none 0 0)).toArray 38))
  generalize w.alloc (.cells (ndXc ⟨#[48, 47, 97]⟩ 1 1 0 (-1) (.slice none 0 0) ++ ndXc ⟨#[48, 47, 98]⟩ 1 0 0 (-1) (.slice none 0 0) ++ ndXc ⟨#[49, 47, 97]⟩ 1 0 1 (-1) (.slice none 0 0) ++ ndXc ⟨#[48, 47, 98, 47, 99]⟩ 1 0 0 1 (.slice none 0 0)).toArray 38) = W1 at *
  generalize w.heap.size = LB at *
  have HL := Lib.hid hL
  have HE1 := Lib.hid hE1
  clear hL hE1
  go_wp2_with fail
  refine (next_any awL awL_right (by decide) (by decide) W1 (HW.out.ext HE1.out) _ HL.out).mono ?_
  rintro e w2 ⟨rfl, hE2⟩
  rw [nextQ_aw, aw_all]
  have HE2 := Lib.hid (HE1.out.trans hE2)
  have HL2 := Lib.hid (HL.out.ext hE2)
  clear hE2 HE1 HL
  go_upto_region 3 with (fail)
  have hI := litRow w2 [1, 0] (by intro z hz; simp only [List.mem_cons, List.not_mem_nil, or_false] at hz; rcases hz with rfl | rfl <;> (unfold isI64; omega)) (by decide)
  have hE3 := (Ext.refl w2).alloc (.cells ([1, 0].map (Value.int .i64)).toArray 3)
  go_upto_region 4 with (fail)
  change Code.wp _ _ _ _ ((w2.alloc (.cells ([1, 0].map (Value.int .i64)).toArray 3)).alloc (.cells (ndXc ⟨#[48, 47, 98]⟩ 0 0 0 (-1) (.slice none 0 0) ++ ndXc ⟨#[48, 47, 99]⟩ 0 0 0 (-1) (.slice none 0 0) ++ ndXc ⟨#[48, 47, 100]⟩ 0 0 0 (-1) (.slice (some ⟨w2.heap.size, 0, none⟩) 2 2)).toArray 38))
  have hX : (w2.alloc (.cells ([1, 0].map (Value.int .i64)).toArray 3)).heap.size = w2.heap.size + 1 := by simp
  generalize w2.alloc (.cells ([1, 0].map (Value.int .i64)).toArray 3) = X1 at *
  generalize hIB : w2.heap.size = IB at *
  have ho := World.ownsRow_lit X1 (ndXc ⟨#[48, 47, 98]⟩ 0 0 0 (-1) (.slice none 0 0) ++ ndXc ⟨#[48, 47, 99]⟩ 0 0 0 (-1) (.slice none 0 0) ++ ndXc ⟨#[48, 47, 100]⟩ 0 0 0 (-1) (.slice (some ⟨IB, 0, none⟩) 2 2)).toArray 3 (base := X1.heap.size) (e := 38) (size := 16) (Nat.le_refl _) (by unfold maxLen; omega) rfl
  have hE4 := (Ext.refl X1).alloc (.cells (ndXc ⟨#[48, 47, 98]⟩ 0 0 0 (-1) (.slice none 0 0) ++ ndXc ⟨#[48, 47, 99]⟩ 0 0 0 (-1) (.slice none 0 0) ++ ndXc ⟨#[48, 47, 100]⟩ 0 0 0 (-1) (.slice (some ⟨IB, 0, none⟩) 2 2)).toArray 38)
  rw [hX] at ho
  generalize X1.alloc (.cells (ndXc ⟨#[48, 47, 98]⟩ 0 0 0 (-1) (.slice none 0 0) ++ ndXc ⟨#[48, 47, 99]⟩ 0 0 0 (-1) (.slice none 0 0) ++ ndXc ⟨#[48, 47, 100]⟩ 0 0 0 (-1) (.slice (some ⟨IB, 0, none⟩) 2 2)).toArray 38) = X2 at *
  have HO := Lib.hid (show X2.ownsRow (IB + 1) 38 16 (.slice (some ⟨IB + 1, 0, none⟩) 3 3) 3 (ndXc ⟨#[48, 47, 98]⟩ 0 0 0 (-1) (.slice none 0 0) ++ ndXc ⟨#[48, 47, 99]⟩ 0 0 0 (-1) (.slice none 0 0) ++ ndXc ⟨#[48, 47, 100]⟩ 0 0 0 (-1) (.slice (some ⟨IB, 0, none⟩) 2 2)) from ho)
  have HI := Lib.hid hI
  have HX1 := Lib.hid hX
  have HIBe := Lib.hid hIB
  have HE14 := Lib.hid hE4
  have HE24 := Lib.hid (hE3.trans hE4)
  have HRw := Lib.hid (show ndE.Row X2 awW (.slice (some ⟨IB + 1, 0, none⟩) 3 3) from rowW_any 0 ho (hI.ext hE4))
  have HE4 := Lib.hid ((HE2.out.trans hE3).trans hE4)
  have HZ2 := Lib.hid (show IB + 1 < X2.heap.size from (World.ownsRow.lt ho (IB + 1) rfl).2)
  have HIB := Lib.hid (show w.heap.size ≤ IB + 1 by have := (HE2.out.trans hE3).size; omega)
  clear hI hE3 hE4 ho hX hIB
  go_wp2_with fail
  refine (waits_any awW (by decide) 2 X2 _ HRw.out).mono ?_
  rintro e w3 ⟨v3, rfl, ho3, hE5⟩
  rw [aw_waits] at ho3
  obtain ⟨a3, c3, rfl⟩ : ∃ a c, v3 = .slice a 2 c := by
    obtain ⟨g, c, h, -⟩ := World.ownsRow.form ho3 (by decide)
    exact ⟨_, _, h⟩
  have HO3 := Lib.hid ho3
  have HE5 := Lib.hid hE5
  clear ho3 hE5
  go_wp2_with fail
  refine (wakes_any awW (by decide) (by decide) 1 w3 _ (HRw.out.ext HE5.out)).mono ?_
  rintro e w4 ⟨v4, rfl, ho4, hE6⟩
  rw [aw_wakes] at ho4
  obtain ⟨a4, c4, rfl⟩ : ∃ a c, v4 = .slice a 0 c := by
    rcases ho4.2 with ⟨e1, -⟩ | ⟨g, cap, cur, e1, -⟩
    · exact ⟨none, 0, e1⟩
    · exact ⟨_, _, e1⟩
  have HE6 := Lib.hid (HE5.out.trans hE6)
  have HO3 := Lib.hid (show OwnN 3 X2.heap.size w4 (.slice a3 2 c3) [0, 1] from hE6.own HO3.out)
  clear ho4 hE6 HE5
  have hst := (HE6.out.own HO.out)
  have hc9 : w4.cell? ⟨IB + 1, 9, none⟩ = some (.int .u8 0) := (World.ownsRow.cellAt hst 9 (by omega)).trans rfl
  have hf9 : w4.frozen? ⟨IB + 1, 9, none⟩ = false := World.ownsRow.frozenAt hst 9
  go_upto_region 6 with (fail)
  have HO5 := Lib.hid (show (w4.setCell ⟨IB + 1, 9, none⟩ (.int .u8 4)).ownsRow (IB + 1) 38 16 (.slice (some ⟨IB + 1, 0, none⟩) 3 3) 3 (ndXc ⟨#[48, 47, 98]⟩ 4 0 0 (-1) (.slice none 0 0) ++ ndXc ⟨#[48, 47, 99]⟩ 0 0 0 (-1) (.slice none 0 0) ++ ndXc ⟨#[48, 47, 100]⟩ 0 0 0 (-1) (.slice (some ⟨IB, 0, none⟩) 2 2)) from (hst.stored 9 (.int .u8 4)).1)
  have hg5 := setOne_grown w4 (IB + 1) 9 (.int .u8 4)
  have HE2w := Lib.hid (show Ext w2 (w4.setCell ⟨IB + 1, 9, none⟩ (.int .u8 4)) from (HE24.out.trans HE6.out).setCell (p := ⟨IB + 1, 9, none⟩) (by show w2.heap.size ≤ IB + 1; have := HIBe.out; omega) _)
  have HE1w := Lib.hid (show Ext X1 (w4.setCell ⟨IB + 1, 9, none⟩ (.int .u8 4)) from (HE14.out.trans HE6.out).setCell (p := ⟨IB + 1, 9, none⟩) (by show X1.heap.size ≤ IB + 1; have := HX1.out; omega) _)
  have HV3 := Lib.hid (show intE.Row (w4.setCell ⟨IB + 1, 9, none⟩ (.int .u8 4)) [0, 1] (.slice a3 2 c3) from OwnN.row (World.ownsRow.kept HO3.out hg5 (.inr (fun e => by have := (World.ownsRow.lt HO3.out (IB + 1) e).1; have := HZ2.out; omega))) (by intro z hz; simp only [List.mem_cons, List.not_mem_nil, or_false] at hz; rcases hz with rfl | rfl <;> (unfold isI64; omega)))
  clear hg5 hst hc9 hf9 HO3 HO HRw HE6 HE14 HE24
  generalize w4.setCell ⟨IB + 1, 9, none⟩ (.int .u8 4) = W5 at *
  have HE5 := Lib.hid (HE2.out.trans HE2w.out)
  have HL5 := Lib.hid (HL2.out.ext HE2w.out)
  have HR5 := Lib.hid (show ndE.Row W5 awV (.slice (some ⟨IB + 1, 0, none⟩) 3 3) from rowW_any 4 HO5.out (HI.out.ext HE1w.out))
  clear HE2w HE1w HL2 HE2 HO5 HI HX1 HIBe HZ2
  go_wp2_with fail
  refine (all_any awL awL_right (by decide) (by decide) W5 (HW.out.ext HE5.out) _ HL5.out).mono ?_
  rintro e w6 ⟨v6, rfl, ho6, hE6⟩
  rw [aw_all] at ho6
  have HO6 := Lib.hid ho6
  have HE6 := Lib.hid hE6
  clear ho6 hE6
  have hz4 : ∀ z, z ∈ natsI [3, 1, 2, 0] → isI64 z := by
    intro z hz
    obtain ⟨i, hi, rfl⟩ := List.mem_map.1 hz
    simp only [List.mem_cons, List.not_mem_nil, or_false] at hi
    rcases hi with rfl | rfl | rfl | rfl <;> (unfold isI64; omega)
  have hl6 := litRow w6 (natsI [3, 1, 2, 0]) hz4 (by decide)
  have hE7 := (Ext.refl w6).alloc (.cells ((natsI [3, 1, 2, 0]).map (Value.int .i64)).toArray 3)
  have HV6 := Lib.hid (OwnN.row (hE7.own HO6.out) hz4)
  have HL6 := Lib.hid hl6
  have HE7 := Lib.hid (HE6.out.trans hE7)
  clear hl6 hE7 HO6 HE6
  go_wp2_with fail
  refine (ints16_any (natsI [3, 1, 2, 0]) (natsI [3, 1, 2, 0]) _ _ _ HV6.out HL6.out).mono ?_
  rintro e w7 ⟨he, hE8⟩
  rw [decide_eq_true rfl] at he
  subst he
  have HE8 := Lib.hid (HE7.out.trans hE8)
  clear hE8 HE7 HV6 HL6
  have hz2 : ∀ z, z ∈ ([0, 1] : List Int) → isI64 z := by intro z hz; simp only [List.mem_cons, List.not_mem_nil, or_false] at hz; rcases hz with rfl | rfl <;> (unfold isI64; omega)
  have hl7 := litRow w7 [0, 1] hz2 (by decide)
  have hE9 := (Ext.refl w7).alloc (.cells (([0, 1] : List Int).map (Value.int .i64)).toArray 3)
  have HL7 := Lib.hid hl7
  have HE9 := Lib.hid (HE8.out.trans hE9)
  clear hl7 hE9 HE8
  go_wp2_with fail
  refine (ints16_any [0, 1] [0, 1] _ _ _ (HV3.out.ext HE9.out) HL7.out).mono ?_
  rintro e w8 ⟨he, hE10⟩
  rw [decide_eq_true rfl] at he
  subst he
  have HE10 := Lib.hid (HE9.out.trans hE10)
  clear hE10 HE9 HL7 HV3
  go_wp2_with fail
  refine (wakes_any awV (by decide) (by decide) 1 w8 _ (HR5.out.ext HE10.out)).mono ?_
  rintro e w9 ⟨v9, rfl, ho9, hE11⟩
  rw [aw_wakes2] at ho9
  have HO9 := Lib.hid ho9
  have HE11 := Lib.hid (HE10.out.trans hE11)
  clear ho9 hE11 HE10
  have hz9 : ∀ z, z ∈ natsI [2] → isI64 z := by
    intro z hz
    obtain ⟨i, hi, rfl⟩ := List.mem_map.1 hz
    simp only [List.mem_cons, List.not_mem_nil, or_false] at hi
    subst hi
    unfold isI64; omega
  have hl9 := litRow w9 (natsI [2]) hz9 (by decide)
  have hE12 := (Ext.refl w9).alloc (.cells ((natsI [2]).map (Value.int .i64)).toArray 3)
  have HV9 := Lib.hid (OwnN.row (hE12.own HO9.out) hz9)
  have HL9 := Lib.hid hl9
  have HE12 := Lib.hid (HE11.out.trans hE12)
  clear hl9 hE12 HO9 HE11
  go_wp2_with fail
  refine (ints16_any (natsI [2]) (natsI [2]) _ _ _ HV9.out HL9.out).mono ?_
  rintro e w10 ⟨he, hE13⟩
  rw [decide_eq_true rfl] at he
  subst he
  have HE13 := Lib.hid (HE5.out.trans (HE12.out.trans hE13))
  clear hE13 HE12 HV9 HL9
  go_wp2
  go_ret
  exact ⟨rfl, HE13.out⟩
end Go.Proofs.YtbciamploeejiaaGreatDoor

open Go.RowKit Go.Shelf
namespace Fm
open Go Go.RowKit
theorem insR_len2 (l : List Nd) (i : Nat) : ∀ out : List Nat, (insR l i out).length = out.length + 1
  | [] => rfl
  | k :: out => by
    unfold insR
    split
    · rfl
    · rw [List.length_cons, insR_len2 l i out]; rfl
theorem readyN_len2 (l : List Nd) : ∀ n, (readyN l n).length ≤ n
  | 0 => by simp [readyN]
  | n + 1 => by
    unfold readyN
    have := readyN_len2 l n
    split
    · rw [insR_len2]; omega
    · omega
theorem insSt_len2 (l : List Nd) (i : Nat) (out : List Nat) : (insSt l i out).1.length ≤ out.length + 1 := by
  have := insSt_len l i out [] false
  unfold insSt
  simpa using this
end Fm
namespace Go.Proofs.YtbciamploeejiaaGreatDoor
open Go Go.Proofs Fm
attribute [local go_sem] Oper.semAt_some

theorem natsQ_get (l : List Nat) (p : Nat) (hp : p < (natsI l).length) (hp2 : p < l.length) : (natsI l)[p] = ((l[p] : Nat) : Int) := List.getElem_map _
set_option maxRecDepth 100000 in
set_option maxHeartbeats 4000000 in
theorem rAll24_any (l : List Nd) (hO : RightO l) (hl : l.length ≤ 1000) (hid : ∀ n, n ∈ l → n.id.length ≤ 1000000) (w : World) (v : Value) (h : ndE.Row w l v) :
    Calls Tryz.prog 7 #[v] w fun e w' => ∃ v', e = .returned v' ∧ OwnN 3 w.heap.size w' v' (natsI (allQ l)) ∧ Ext w w' := by
  obtain ⟨i0, hi, hz0, hz1, hz2⟩ := info_parts infoint_F
  have HA := Lib.hid (fun X (hX : Ext w X) (i k : Int) => rAhead24_any l hO (by omega) hid i k X _ (h.ext hX))
  have HR := Lib.hid h
  obtain ⟨a, c, rfl, hc1, hc2⟩ := h.slice
  obtain ⟨LN, hLN⟩ : ∃ LN, LN = l.length := ⟨_, rfl⟩
  have HLN := Lib.hid hLN
  rw [← hLN] at HR HA hc1 hl ⊢
  clear h hid hLN hc2
  go_enter Tryz.func7, Tryz.ntmps7
  go_wp2_with fail
  go_loopw [3, 4] (fun o k wr => ∃ (j : Nat) (A : Option Addr) (C : Nat), j ≤ LN ∧ k = .int .i64 (j : Int) ∧ o = .slice A (natsI (readyN l j)).length C ∧ Hid (Ext w wr) ∧ Hid (OwnN 3 w.heap.size wr (.slice A (natsI (readyN l j)).length C) (natsI (readyN l j)))) (fun _ k _ => LN - (intOf k).toNat)
  case atStart => exact ⟨0, none, 0, by omega, rfl, rfl, Lib.hid (Ext.refl _), Lib.hid (OwnN.nil _ _ _)⟩
  case round =>
    obtain ⟨j, A, C, hj, rfl, rfl, HE, HO⟩ := hrel
    by_cases hlt : j < LN
    case neg =>
      have HY := Lib.hid (show natsI (readyN l j) = natsI (allQ l) by unfold allQ; rw [← HLN.out, show j = LN by omega])
      go_wp2
      go_ret
      exact ⟨_, rfl, by rw [← HY.out]; exact HO.out, HE.out⟩
    have hi' : j < l.length := by have := HLN.out; omega
    obtain ⟨b, off, rfl, hb, aa, ma, ca, kk, N, s, d, ⟨-, -, -, -, -, -, -, -, -, x9, -⟩, -⟩ := nd_at16 HR.out HE.out j hi'
    have HT := Lib.hid (show readyN l (j + 1) = if readyB l j then insR l j (readyN l j) else readyN l j from rfl)
    have HB := Lib.hid (show readyB l j = decide (l[j].stand = 1) by unfold readyB; rw [nthF_at hi'])
    have hk := u8_is (k := l[j].stand) 1
    rw [show (((1 : UInt8).toNat : Nat) : Int) = 1 from rfl] at hk
    generalize l[j].stand = st at *
    have hSl := readyN_len2 l j
    obtain ⟨SN, hSN⟩ : ∃ SN, SN = readyN l j := ⟨_, rfl⟩
    rw [← hSN] at HO HT hSl ⊢
    have HSN := Lib.hid hSN
    obtain ⟨MN, hMN⟩ : ∃ MN, MN = (natsI SN).length := ⟨_, rfl⟩
    rw [← hMN] at HO ⊢
    have HMs := Lib.hid (show MN = SN.length by rw [hMN, natsR_len])
    have hSb : ∀ x, x ∈ SN → x < l.length := fun x hx => by rw [hSN] at hx; have := ((readyN_mem l j x).1 hx).1; omega
    have HSb := Lib.hid hSb
    clear hSN hMN hSb
    have hj0 : (0 : Int) ≤ (j : Int) := by omega
    have hj1 : (j : Int) < (LN : Int) := by omega
    by_cases hs : st = 1
    case neg =>
      have hk' : ((st.toNat : Int) != 1) = true := by have : ((st.toNat : Int) == 1) = false := by rw [hk]; simpa using hs
                                                      simp [bne, this]
      have HX5 := Lib.hid (show readyN l (j + 1) = SN by rw [HT.out, HB.out]; simp [hs])
      clear hk hs
      go_wp2_with fail
      go_roundw
      case rel => exact ⟨j + 1, _, _, by omega, by go_num, by rw [HX5.out, natsR_len, ← HMs.out], HE, by rw [HX5.out, natsR_len, ← HMs.out]; exact HO⟩
      case measure => simp [intOf]; omega
    have hk' : ((st.toNat : Int) != 1) = false := by have : ((st.toNat : Int) == 1) = true := by rw [hk]; simpa using hs
                                                     simp [bne, this]
    have HX5 := Lib.hid (show readyN l (j + 1) = insR l j SN by rw [HT.out, HB.out]; simp [hs])
    have HRo := Lib.hid (show intE.Row wr (natsI SN) (.slice A MN C) from OwnN.row HO.out (fun z hz => by
      unfold natsI at hz
      obtain ⟨x, hx, rfl⟩ := List.mem_map.1 hz
      have := HSb.out x hx
      have := HLN.out
      unfold isI64; omega))
    clear hk hs HT HB
    go_wp2_with fail
    clear hk' x9
    generalize wr = w1 at *
    go_loopw [5, 6, 7] (fun nx pt k wr => ∃ (q : Nat) (A2 : Option Addr) (C2 : Nat), q ≤ MN ∧ k = .int .i64 (q : Int) ∧ nx = .slice A2 (insSt l j (SN.take q)).1.length C2 ∧ pt = .bool (insSt l j (SN.take q)).2 ∧ Hid (Ext w1 wr) ∧ Hid (OwnN 3 w1.heap.size wr (.slice A2 (insSt l j (SN.take q)).1.length C2) (natsI (insSt l j (SN.take q)).1))) (fun _ _ k _ => MN - (intOf k).toNat)
    case atStart => exact ⟨0, none, 0, by omega, rfl, rfl, rfl, Lib.hid (Ext.refl _), Lib.hid (OwnN.nil _ _ _)⟩
    case round =>
      obtain ⟨q, A2, C2, hq, rfl, rfl, rfl, HE2, HO2⟩ := hrel
      have hTl := insSt_len2 l j (SN.take q)
      have hTk : (SN.take q).length = q := by have := HMs.out; rw [List.length_take]; omega
      rw [hTk] at hTl
      obtain ⟨T, hT⟩ : ∃ T, T = insSt l j (SN.take q) := ⟨_, rfl⟩
      have HT := Lib.hid hT
      rw [← hT] at HO2 hTl ⊢
      obtain ⟨T1, T2⟩ := T
      simp only at HO2 hTl ⊢
      clear hT hTk
      by_cases hqm : q < MN
      case neg =>
        have HZ := Lib.hid (show readyN l (j + 1) = insEnd j (T1, T2) by rw [HX5.out, insR_st, HT.out, List.take_of_length_le (by have := HMs.out; omega)])
        cases T2 with
        | true =>
          have HZ := Lib.hid (show natsI (readyN l (j + 1)) = natsI T1 by rw [HZ.out]; rfl)
          have HLX := Lib.hid (show T1.length = (natsI (readyN l (j + 1))).length by rw [HZ.out, natsR_len])
          go_wp2_with fail
          go_roundw
          case rel => exact ⟨j + 1, A2, C2, by omega, by go_num, by rw [HLX.out], Lib.hid (HE.out.trans HE2.out), Lib.hid (by rw [← HLX.out, HZ.out]; exact OwnN.mono HO2.out HE.out.size)⟩
          case measure => simp [intOf]; omega
        | false =>
          have HZ := Lib.hid (show readyN l (j + 1) = T1 ++ [j] by rw [HZ.out]; rfl)
          have HO3 := Lib.hid (show wr.ownsRow w1.heap.size 3 1 (.slice A2 T1.length C2) T1.length ((natsI T1).map (Value.int .i64)) by have := HO2.out; unfold OwnN at this; rw [natsR_len] at this; exact this)
          have hz := HE2.out.size
          have HBo := Lib.hid (show T1.length ≤ 1001 by have := HMs.out; omega)
          go_wp2_with (at_builtin; refine wpList_append_own _ rfl _ _ 22 rfl w1.heap.size 3 i0 (.int .i64 0) 1 8 Tryz.underlying22 hi hz0 hz1 hz2 rfl (by decide) _ _ _ rfl (World.ownsRow.alloc HO3.out _) ⟨wr.heap.size, 0, none⟩ 1 1 [.int .i64 (j : Int)] rfl rfl (cell_one_new _ _ _) (by simp [Value.oneCell']) (by have := HBo.out; unfold maxLen; omega) (by have := HBo.out; omega) (by have := HBo.out; simp; omega) ?_; intro v' w5 hown' hgrow _)
          obtain ⟨g', cap', rfl⟩ := ownsRow_succ hown'
          have HE5 := Lib.hid ((HE2.out.alloc (.cells #[.int .i64 (j : Int)] 3)).grown hgrow (fun k e => (World.ownsRow.lt HO3.out k e).1))
          have HO5 := Lib.hid (show OwnN 3 w.heap.size w5 (.slice (some ⟨g', 0, none⟩) (natsI (readyN l (j + 1))).length cap') (natsI (readyN l (j + 1))) by rw [HZ.out]; refine OwnN.mono ?_ HE.out.size; unfold OwnN; simpa [natsI] using hown')
          have HLX := Lib.hid (show T1.length + 1 = (natsI (readyN l (j + 1))).length by rw [HZ.out]; simp [natsI])
          clear hown' hgrow
          go_wp2
          go_roundw
          case rel => exact ⟨j + 1, _, _, by omega, by go_num, by rw [HLX.out], Lib.hid (HE.out.trans HE5.out), HO5⟩
          case measure => simp [intOf]; omega
      have hqS : q < SN.length := by have := HMs.out; omega
      have hqn : q < (natsI SN).length := by rw [natsR_len]; omega
      obtain ⟨b', off', rfl, hb', hc', -⟩ := int_at HRo.out (Ext.refl w1) q hqn
      rw [natsQ_get _ _ hqn hqS] at hc'
      have hoL : SN[q] < l.length := HSb.out _ (List.getElem_mem hqS)
      have HCe := Lib.hid (fun X (hX : Ext w1 X) => (hX.cell (p := ⟨b', off' + q, none⟩) hb').trans hc')
      have HSc := Lib.hid (show insSt l j (SN.take (q + 1)) = insStep l j (T1, T2) SN[q] by rw [insSt_succ _ _ hqS, HT.out])
      have HAh := Lib.hid (show aheadF l (j : Int) (SN[q] : Int) = ltR (rankF l j) (rankF l SN[q]) from aheadF_nat hi' hoL)
      generalize SN[q] = z at *
      have HO3 := Lib.hid (show wr.ownsRow w1.heap.size 3 1 (.slice A2 T1.length C2) T1.length ((natsI T1).map (Value.int .i64)) by have := HO2.out; unfold OwnN at this; rw [natsR_len] at this; exact this)
      have hq0 : (0 : Int) ≤ (q : Int) := by omega
      have hq1 : (q : Int) < (MN : Int) := by omega
      have hz := HE2.out.size
      have hc2' := HCe.out wr HE2.out
      clear hc'
      cases T2 with
      | true =>
        have HS5 := Lib.hid (show insSt l j (SN.take (q + 1)) = (T1 ++ [z], true) by rw [HSc.out]; unfold insStep; simp)
        have HX2 := HE2
        go_wp2_with (at_builtin; refine wpList_append_own _ rfl _ _ 22 rfl w1.heap.size 3 i0 (.int .i64 0) 1 8 Tryz.underlying22 hi hz0 hz1 hz2 rfl (by decide) _ _ _ rfl (World.ownsRow.alloc HO3.out _) ⟨wr.heap.size, 0, none⟩ 1 1 [.int .i64 (z : Int)] rfl rfl (cell_one_new _ _ _) (by simp [Value.oneCell']) (by have := HMs.out; unfold maxLen; omega) (by omega) (by have := HMs.out; simp; omega) ?_; intro v' w5 hown' hgrow _)
        obtain ⟨g', cap', rfl⟩ := ownsRow_succ hown'
        have HE5 := Lib.hid ((HX2.out.alloc (.cells #[.int .i64 (z : Int)] 3)).grown hgrow (fun k e => (World.ownsRow.lt HO3.out k e).1))
        have HO5 := Lib.hid (show OwnN 3 w1.heap.size w5 (.slice (some ⟨g', 0, none⟩) (insSt l j (SN.take (q + 1))).1.length cap') (natsI (insSt l j (SN.take (q + 1))).1) by rw [HS5.out]; unfold OwnN; simpa [natsI] using hown')
        have HLX := Lib.hid (show T1.length + 1 = (insSt l j (SN.take (q + 1))).1.length by rw [HS5.out]; simp)
        have HPX := Lib.hid (show (insSt l j (SN.take (q + 1))).2 = true by rw [HS5.out])
        clear hown' hgrow
        go_wp2
        go_roundw
        case rel => exact ⟨q + 1, _, _, by omega, by go_num, by rw [HLX.out], by rw [HPX.out], HE5, HO5⟩
        case measure => simp [intOf]; omega
      | false =>
        go_wp2_with fail
        refine (HA.out wr (HE.out.trans HE2.out) (j : Int) (z : Int)).mono ?_
        rintro e w3 ⟨rfl, hE3⟩
        rw [HAh.out]
        have HX2 := Lib.hid (HE2.out.trans hE3)
        have HO3 := Lib.hid (hE3.own HO3.out)
        have hz3 := hE3.size
        clear hE3 hc2'
        have hc2' := HCe.out w3 HX2.out
        cases hlt2 : ltR (rankF l j) (rankF l z) with
        | false =>
          have HS5 := Lib.hid (show insSt l j (SN.take (q + 1)) = (T1 ++ [z], false) by rw [HSc.out]; unfold insStep; simp [hlt2])
          clear hlt2
          go_wp2_with (at_builtin; refine wpList_append_own _ rfl _ _ 22 rfl w1.heap.size 3 i0 (.int .i64 0) 1 8 Tryz.underlying22 hi hz0 hz1 hz2 rfl (by decide) _ _ _ rfl (World.ownsRow.alloc HO3.out _) ⟨w3.heap.size, 0, none⟩ 1 1 [.int .i64 (z : Int)] rfl rfl (cell_one_new _ _ _) (by simp [Value.oneCell']) (by have := HMs.out; unfold maxLen; omega) (by omega) (by have := HMs.out; simp; omega) ?_; intro v' w5 hown' hgrow _)
          obtain ⟨g', cap', rfl⟩ := ownsRow_succ hown'
          have HE5 := Lib.hid ((HX2.out.alloc (.cells #[.int .i64 (z : Int)] 3)).grown hgrow (fun k e => (World.ownsRow.lt HO3.out k e).1))
          have HO5 := Lib.hid (show OwnN 3 w1.heap.size w5 (.slice (some ⟨g', 0, none⟩) (insSt l j (SN.take (q + 1))).1.length cap') (natsI (insSt l j (SN.take (q + 1))).1) by rw [HS5.out]; unfold OwnN; simpa [natsI] using hown')
          have HLX := Lib.hid (show T1.length + 1 = (insSt l j (SN.take (q + 1))).1.length by rw [HS5.out]; simp)
          have HPX := Lib.hid (show (insSt l j (SN.take (q + 1))).2 = false by rw [HS5.out])
          clear hown' hgrow
          go_wp2
          go_roundw
          case rel => exact ⟨q + 1, _, _, by omega, by go_num, by rw [HLX.out], by rw [HPX.out], HE5, HO5⟩
          case measure => simp [intOf]; omega
        | true =>
          have HS5 := Lib.hid (show insSt l j (SN.take (q + 1)) = (T1 ++ [j] ++ [z], true) by rw [HSc.out]; unfold insStep; simp [hlt2])
          clear hlt2
          go_upto_region 13 with (at_builtin; refine wpList_append_own _ rfl _ _ 22 rfl w1.heap.size 3 i0 (.int .i64 0) 1 8 Tryz.underlying22 hi hz0 hz1 hz2 rfl (by decide) _ _ _ rfl (World.ownsRow.alloc HO3.out _) ⟨w3.heap.size, 0, none⟩ 1 1 [.int .i64 (j : Int)] rfl rfl (cell_one_new _ _ _) (by simp [Value.oneCell']) (by have := HMs.out; unfold maxLen; omega) (by omega) (by have := HMs.out; simp; omega) ?_; intro v6 w6 hown6 hgrow6 _)
          obtain ⟨g6, cap6, rfl⟩ := ownsRow_succ hown6
          have HX6 := Lib.hid ((HX2.out.alloc (.cells #[.int .i64 (j : Int)] 3)).grown hgrow6 (fun k e => (World.ownsRow.lt HO3.out k e).1))
          have HO6 := Lib.hid hown6
          have hz5 := HX6.out.size
          clear hown6 hgrow6 HX2 HO3 hc2' hz3
          have HX2 := HX6
          have HO3 := HO6
          have hc2' := HCe.out w6 HX2.out
          go_wp2_with (at_builtin; refine wpList_append_own _ rfl _ _ 22 rfl w1.heap.size 3 i0 (.int .i64 0) 1 8 Tryz.underlying22 hi hz0 hz1 hz2 rfl (by decide) _ _ _ rfl (World.ownsRow.alloc HO3.out _) ⟨w6.heap.size, 0, none⟩ 1 1 [.int .i64 (z : Int)] rfl rfl (cell_one_new _ _ _) (by simp [Value.oneCell']) (by have := HMs.out; unfold maxLen; omega) (by omega) (by have := HMs.out; simp; omega) ?_; intro v' w5 hown' hgrow _)
          obtain ⟨g', cap', rfl⟩ := ownsRow_succ hown'
          have HE5 := Lib.hid ((HX2.out.alloc (.cells #[.int .i64 (z : Int)] 3)).grown hgrow (fun k e => (World.ownsRow.lt HO3.out k e).1))
          have HO5 := Lib.hid (show OwnN 3 w1.heap.size w5 (.slice (some ⟨g', 0, none⟩) (insSt l j (SN.take (q + 1))).1.length cap') (natsI (insSt l j (SN.take (q + 1))).1) by rw [HS5.out]; unfold OwnN; simpa [natsI] using hown')
          have HLX := Lib.hid (show T1.length + 1 + 1 = (insSt l j (SN.take (q + 1))).1.length by rw [HS5.out]; simp)
          have HPX := Lib.hid (show (insSt l j (SN.take (q + 1))).2 = true by rw [HS5.out])
          clear hown' hgrow
          go_wp2
          go_roundw
          case rel => exact ⟨q + 1, _, _, by omega, by go_num, by rw [HLX.out], by rw [HPX.out], HE5, HO5⟩
          case measure => simp [intOf]; omega
end Go.Proofs.YtbciamploeejiaaGreatDoor

open Go.RowKit Go.Shelf
namespace Fm
open Go Go.RowKit
theorem insW_len (a : Int) : ∀ out : List Int, (insW a out).length ≤ out.length + 1
  | [] => by simp [insW]
  | o :: out => by
    unfold insW
    have := insW_len a out
    split
    · simp
    · split <;> simp <;> omega
theorem waitTo_len (l : List Nd) (af : List Int) : ∀ k, (waitTo l af k).length ≤ k
  | 0 => by simp [waitTo]
  | k + 1 => by
    have h1 := waitTo_len l af k
    have h2 := insW_len (af.getD k 0) (waitTo l af k)
    unfold waitTo
    split <;> omega
theorem wSt_len (a : Int) : ∀ (out acc : List Int) (b : Bool), (out.foldl (wStep a) (acc, b)).1.length ≤ acc.length + out.length + 1 := by
  intro out
  induction out with
  | nil => intro acc b; simp
  | cons o out ih =>
    intro acc b
    rw [List.foldl_cons]
    cases h : (!(b || decide (o = a)) && decide (a < o)) with
    | true =>
      rw [show wStep a (acc, b) o = (acc ++ [a] ++ [o], true) by unfold wStep; simp only [h]; rfl, w_put]
      simp; omega
    | false =>
      rw [show wStep a (acc, b) o = (acc ++ [o], b || decide (o = a)) by unfold wStep; simp only [h]; rfl]
      have := ih (acc ++ [o]) (b || decide (o = a))
      simp at this ⊢
      omega
theorem wSt_len2 (a : Int) (out : List Int) : (wSt a out).1.length ≤ out.length + 1 := by
  have := wSt_len a out [] false
  unfold wSt
  simpa using this
end Fm
namespace Go.Proofs.YtbciamploeejiaaGreatDoor
open Go Go.Proofs Fm
attribute [local go_sem] Oper.semAt_some

theorem ownI_of {W : World} {base n c : Nat} {A : Option Addr} {zs : List Int} (h : OwnN 3 base W (.slice A n c) zs) (hn : zs.length = n) : W.ownsRow base 3 1 (.slice A n c) n (zs.map (Value.int .i64)) := by unfold OwnN at h; rw [hn] at h; exact h
set_option maxRecDepth 100000 in
set_option maxHeartbeats 4000000 in
theorem rWaits24_any (l : List Nd) (hl : ∀ n, n ∈ l → n.after.length ≤ 100000) (i : Int) (w : World) (v : Value) (h : ndE.Row w l v) :
    Calls Tryz.prog 14 #[v, .int .i64 i] w fun e w' => ∃ v', e = .returned v' ∧ OwnN 3 w.heap.size w' v' (waitsF l i) ∧ Ext w w' := by
  obtain ⟨i0, hi, hz0, hz1, hz2⟩ := info_parts infoint_F
  have HP := Lib.hid (rplace24_any l i w _ h)
  have HQ := Lib.hid (fun X (hX : Ext w X) (k : Int) => rplace24_any l k X _ (h.ext hX))
  have HR := Lib.hid h
  obtain ⟨a, c, rfl, hc1, hc2⟩ := h.slice
  clear h hc2
  cases hp : placeF l i with
  | false =>
    have HX := Lib.hid (show waitsF l i = [] by unfold waitsF; rw [hp]; rfl)
    rw [hp] at HP
    clear hp
    go_enter Tryz.func14, Tryz.ntmps14
    go_wp2_with fail
    refine HP.out.mono ?_
    rintro e w1 ⟨rfl, rfl⟩
    go_wp2
    go_ret
    exact ⟨_, rfl, by rw [HX.out]; exact OwnN.nil _ _ _, Ext.refl w⟩
  | true =>
    rw [hp] at HP
    obtain ⟨p0, p1⟩ := placeF_both.1 hp
    obtain ⟨p, rfl⟩ : ∃ j : Nat, (j : Int) = i := ⟨i.toNat, by omega⟩
    have hi' : p < l.length := by omega
    obtain ⟨LN, hLN⟩ : ∃ LN, LN = l.length := ⟨_, rfl⟩
    have HLN := Lib.hid hLN
    have HWt := Lib.hid (waitTo_all hi')
    have haf : l[p].after.length ≤ 100000 := hl _ (List.getElem_mem hi')
    obtain ⟨b, off, rfl, hb, aa, ma, ca, kk, N, s, d, ⟨-, -, -, -, -, -, x6, -⟩, hnv⟩ := nd_at16 HR.out (Ext.refl w) p hi'
    have hai : intE.Row w l[p].after (.slice aa ma ca) := by
      obtain ⟨a', m', c', k', N', S', d', e, h2, -⟩ := hnv
      injection e with e
      injection e with e
      simp only [ndCells, List.cons.injEq] at e
      rw [e.2.2.2.2.2.2.1]
      exact h2
    generalize l[p].after = af at *
    obtain ⟨aa', ca', he, -, -⟩ := hai.slice
    injection he with he1 he2 he3
    subst he1 he2 he3
    have HAF := Lib.hid hai
    obtain ⟨AN, hAN⟩ : ∃ AN, AN = af.length := ⟨_, rfl⟩
    have HAN := Lib.hid hAN
    rw [← hAN] at HAF x6 haf
    rw [← hLN] at HP HQ HR hc1 p1 ⊢
    have HX6 := Lib.hid (fun X (hX : Ext w X) => (hX.cell (p := ⟨b, off + p * 16 + 6, none⟩) hb).trans x6)
    have hp0 : (0 : Int) ≤ (p : Int) := by omega
    clear hl hp hnv hai hLN hAN x6 hi'
    go_enter Tryz.func14, Tryz.ntmps14
    go_wp2_with fail
    refine HP.out.mono ?_
    rintro e w1 ⟨rfl, rfl⟩
    go_wp2_with fail
    go_loopw [5, 6] (fun o k wr => ∃ (j : Nat) (A : Option Addr) (C : Nat), j ≤ AN ∧ k = .int .i64 (j : Int) ∧ o = .slice A (waitTo l af j).length C ∧ Hid (Ext w wr) ∧ Hid (OwnN 3 w.heap.size wr (.slice A (waitTo l af j).length C) (waitTo l af j))) (fun _ k _ => AN - (intOf k).toNat)
    case atStart => exact ⟨0, none, 0, by omega, rfl, rfl, Lib.hid (Ext.refl _), Lib.hid (OwnN.nil _ _ _)⟩
    case round =>
      obtain ⟨j, A, C, hj, rfl, rfl, HE, HO⟩ := hrel
      have y6 := HX6.out wr HE.out
      by_cases hlt : j < AN
      case neg =>
        have HY := Lib.hid (show waitTo l af j = waitsF l (p : Int) by rw [← HWt.out, ← HAN.out, show j = AN by omega])
        go_wp2
        go_ret
        exact ⟨_, rfl, by rw [← HY.out]; exact HO.out, HE.out⟩
      have hja : j < af.length := by have := HAN.out; omega
      obtain ⟨b2, off2, hb2e, hb2, h6, hi6⟩ := int_at HAF.out HE.out j hja
      subst hb2e
      have HT := Lib.hid (show waitTo l af (j + 1) = if doneF l (af[j]) then waitTo l af j else insW (af[j]) (waitTo l af j) by rw [show af[j] = af.getD j 0 by rw [List.getD_eq_getElem?_getD, List.getElem?_eq_getElem hja, Option.getD_some]]; rfl)
      have hSl := waitTo_len l af j
      have hSI : ∀ x, x ∈ waitTo l af j → isI64 x := fun x hx => by
        have h1 := ((waitTo_both l af j (by omega)).2 x).1 hx
        have h2 := List.mem_of_mem_take ((List.mem_filter.1 h1).1)
        obtain ⟨q, hq, rfl⟩ := List.getElem_of_mem h2
        obtain ⟨-, -, -, -, -, h7⟩ := int_at HAF.out HE.out q hq
        exact h7
      obtain ⟨SN, hSN⟩ : ∃ SN, SN = waitTo l af j := ⟨_, rfl⟩
      rw [← hSN] at HO HT hSl hSI ⊢
      have HRo := Lib.hid (show intE.Row wr SN (.slice A SN.length C) from OwnN.row HO.out hSI)
      obtain ⟨MN, hMN⟩ : ∃ MN, MN = SN.length := ⟨_, rfl⟩
      have HMs := Lib.hid hMN
      rw [← hMN] at HO HRo hSl ⊢
      generalize af[j] = x at *
      clear hSN hMN hSI hi6
      have hj0 : (0 : Int) ≤ (j : Int) := by omega
      have hj1 : (j : Int) < (AN : Int) := by omega
      have HQx := Lib.hid (HQ.out wr HE.out x)
      go_upto_region 8 with (fail)
      have HE0 := HE
      go_cut [43] from 33 to 43 (fun t wz => t = .bool (doneF l x) ∧ Hid (wz = wr))
      case first =>
        cases hpx : placeF l x with
        | false =>
          rw [hpx] at HQx
          have HD := Lib.hid (doneF_no hpx)
          clear hpx h6 y6
          go_wp2_with fail
          refine HQx.out.mono ?_
          rintro e w3 ⟨rfl, hw3⟩
          subst hw3
          go_wp2_with fail
          go_meet
          case rel => exact ⟨by rw [HD.out], Lib.hid rfl⟩
        | true =>
          rw [hpx] at HQx
          obtain ⟨q0, q1⟩ := placeF_both.1 hpx
          obtain ⟨q, rfl⟩ : ∃ j : Nat, (j : Int) = x := ⟨x.toNat, by omega⟩
          have hq : q < l.length := by omega
          have HD := Lib.hid (doneF_at hq)
          obtain ⟨b3, off3, hb3, -, aa3, ma3, ca3, kk3, N3, s3, d3, ⟨-, -, -, -, -, -, -, -, -, x9, -⟩, -⟩ := nd_at16 HR.out HE.out q hq
          injection hb3 with hb3
          injection hb3 with hb3 hb4
          subst hb3 hb4
          have hk := u8_is (k := l[q].stand) 4
          rw [show (((4 : UInt8).toNat : Nat) : Int) = 4 from rfl] at hk
          generalize l[q].stand = st at *
          have q1' : (q : Int) < (LN : Int) := by have := HLN.out; omega
          clear hpx h6 y6 q1 hq
          go_wp2_with fail
          refine HQx.out.mono ?_
          rintro e w3 ⟨rfl, hw3⟩
          subst hw3
          go_wp2_with fail
          go_meet
          case rel => exact ⟨by rw [HD.out], Lib.hid rfl⟩
      case rest =>
      obtain ⟨rfl, hwc⟩ := hcut
      have hwc := hwc.out
      subst hwc
      rename World => w1
      apply_assumption
      cases hdn : doneF l x with
      | true =>
        have HX5 := Lib.hid (show waitTo l af (j + 1) = SN by rw [HT.out, hdn, if_pos rfl])
        clear hdn y6 h6
        go_wp2_with fail
        go_roundw
        case rel => exact ⟨j + 1, _, _, by omega, by go_num, by rw [HX5.out, ← HMs.out], HE, by rw [HX5.out, ← HMs.out]; exact HO⟩
        case measure => simp [intOf]; omega
      | false =>
      have HX5 := Lib.hid (show waitTo l af (j + 1) = insW x SN by rw [HT.out, hdn, if_neg (by decide)])
      clear hdn HT y6 h6
      go_wp2_with fail
      go_loopw [8, 9, 10] (fun nx pt k wy => ∃ (q : Nat) (A2 : Option Addr) (C2 : Nat), q ≤ MN ∧ k = .int .i64 (q : Int) ∧ nx = .slice A2 (wSt x (SN.take q)).1.length C2 ∧ pt = .bool (wSt x (SN.take q)).2 ∧ Hid (Ext w1 wy) ∧ Hid (OwnN 3 w1.heap.size wy (.slice A2 (wSt x (SN.take q)).1.length C2) (wSt x (SN.take q)).1)) (fun _ _ k _ => MN - (intOf k).toNat)
      case atStart => exact ⟨0, none, 0, by omega, rfl, rfl, rfl, Lib.hid (Ext.refl _), Lib.hid (OwnN.nil _ _ _)⟩
      case round =>
        obtain ⟨q, A2, C2, hq, rfl, rfl, rfl, HE2, HO2⟩ := hrel
        have hTl := wSt_len2 x (SN.take q)
        have hTk : (SN.take q).length = q := by have := HMs.out; rw [List.length_take]; omega
        rw [hTk] at hTl
        obtain ⟨T, hT⟩ : ∃ T, T = wSt x (SN.take q) := ⟨_, rfl⟩
        have HT := Lib.hid hT
        rw [← hT] at HO2 hTl ⊢
        obtain ⟨T1, T2⟩ := T
        simp only at HO2 hTl ⊢
        clear hT hTk
        have HO3 := Lib.hid (ownI_of HO2.out rfl)
        have HBo := Lib.hid (show T1.length ≤ 100001 by omega)
        have hz := HE2.out.size
        by_cases hqm : q < MN
        case neg =>
          have HZ := Lib.hid (show waitTo l af (j + 1) = wEnd x (T1, T2) by rw [HX5.out, insW_st, HT.out, List.take_of_length_le (by have := HMs.out; omega)])
          cases T2 with
          | true =>
            have HZ := Lib.hid (show waitTo l af (j + 1) = T1 by rw [HZ.out]; rfl)
            have HLX := Lib.hid (show T1.length = (waitTo l af (j + 1)).length by rw [HZ.out])
            go_wp2_with fail
            go_roundw
            case rel => exact ⟨j + 1, A2, C2, by omega, by go_num, by rw [HLX.out], Lib.hid (HE.out.trans HE2.out), Lib.hid (by rw [← HLX.out, HZ.out]; exact OwnN.mono HO2.out HE.out.size)⟩
            case measure => simp [intOf]; omega
          | false =>
            have HZ := Lib.hid (show waitTo l af (j + 1) = T1 ++ [x] by rw [HZ.out]; rfl)
            go_wp2_with (at_builtin; refine wpList_append_own _ rfl _ _ 22 rfl w1.heap.size 3 i0 (.int .i64 0) 1 8 Tryz.underlying22 hi hz0 hz1 hz2 rfl (by decide) _ _ _ rfl (World.ownsRow.alloc HO3.out _) ⟨wr.heap.size, 0, none⟩ 1 1 [.int .i64 x] rfl rfl (cell_one_new _ _ _) (by simp [Value.oneCell']) (by have := HBo.out; unfold maxLen; omega) (by have := HBo.out; omega) (by have := HBo.out; simp; omega) ?_; intro v' w5 hown' hgrow _)
            obtain ⟨g', cap', rfl⟩ := ownsRow_succ hown'
            have HE5 := Lib.hid ((HE2.out.alloc (.cells #[.int .i64 x] 3)).grown hgrow (fun k e => (World.ownsRow.lt HO3.out k e).1))
            have HO5 := Lib.hid (show OwnN 3 w.heap.size w5 (.slice (some ⟨g', 0, none⟩) (waitTo l af (j + 1)).length cap') (waitTo l af (j + 1)) by rw [HZ.out]; refine OwnN.mono ?_ HE.out.size; unfold OwnN; simpa using hown')
            have HLX := Lib.hid (show T1.length + 1 = (waitTo l af (j + 1)).length by rw [HZ.out]; simp)
            clear hown' hgrow
            go_wp2
            go_roundw
            case rel => exact ⟨j + 1, _, _, by omega, by go_num, by rw [HLX.out], Lib.hid (HE.out.trans HE5.out), HO5⟩
            case measure => simp [intOf]; omega
        have hqS : q < SN.length := by have := HMs.out; omega
        obtain ⟨b', off', rfl, hb', hc', -⟩ := int_at HRo.out (Ext.refl w1) q hqS
        have HCe := Lib.hid (fun X (hX : Ext w1 X) => (hX.cell (p := ⟨b', off' + q, none⟩) hb').trans hc')
        have HSc := Lib.hid (show wSt x (SN.take (q + 1)) = wStep x (T1, T2) SN[q] by rw [wSt_succ _ hqS, HT.out])
        generalize SN[q] = z at *
        have hq0 : (0 : Int) ≤ (q : Int) := by omega
        have hq1 : (q : Int) < (MN : Int) := by omega
        have hc2' := HCe.out wr HE2.out
        have HX2 := HE2
        clear hc' hqS
        by_cases hzx : z = x
        case pos =>
          have HS5 := Lib.hid (show wSt x (SN.take (q + 1)) = (T1 ++ [z], true) by rw [HSc.out]; unfold wStep; simp [hzx])
          have hzb : (z == x) = true := by simp [hzx]
          clear hzx
          cases T2
          all_goals
            go_wp2_with (at_builtin; refine wpList_append_own _ rfl _ _ 22 rfl w1.heap.size 3 i0 (.int .i64 0) 1 8 Tryz.underlying22 hi hz0 hz1 hz2 rfl (by decide) _ _ _ rfl (World.ownsRow.alloc HO3.out _) ⟨wr.heap.size, 0, none⟩ 1 1 [.int .i64 z] rfl rfl (cell_one_new _ _ _) (by simp [Value.oneCell']) (by have := HBo.out; unfold maxLen; omega) (by have := HBo.out; omega) (by have := HBo.out; simp; omega) ?_; intro v' w5 hown' hgrow _)
            obtain ⟨g', cap', rfl⟩ := ownsRow_succ hown'
            have HE5 := Lib.hid ((HX2.out.alloc (.cells #[.int .i64 z] 3)).grown hgrow (fun k e => (World.ownsRow.lt HO3.out k e).1))
            have HO5 := Lib.hid (show OwnN 3 w1.heap.size w5 (.slice (some ⟨g', 0, none⟩) (wSt x (SN.take (q + 1))).1.length cap') (wSt x (SN.take (q + 1))).1 by rw [HS5.out]; unfold OwnN; simpa using hown')
            have HLX := Lib.hid (show T1.length + 1 = (wSt x (SN.take (q + 1))).1.length by rw [HS5.out]; simp)
            have HPX := Lib.hid (show (wSt x (SN.take (q + 1))).2 = true by rw [HS5.out])
            clear hown' hgrow
            go_wp2
            go_roundw
            case rel => exact ⟨q + 1, _, _, by omega, by go_num, by rw [HLX.out], by rw [HPX.out], HE5, HO5⟩
            case measure => simp [intOf]; omega
        have hzb : (z == x) = false := by simp [hzx]
        cases T2 with
        | true =>
          have HS5 := Lib.hid (show wSt x (SN.take (q + 1)) = (T1 ++ [z], true) by rw [HSc.out]; unfold wStep; simp)
          clear hzx
          go_wp2_with (at_builtin; refine wpList_append_own _ rfl _ _ 22 rfl w1.heap.size 3 i0 (.int .i64 0) 1 8 Tryz.underlying22 hi hz0 hz1 hz2 rfl (by decide) _ _ _ rfl (World.ownsRow.alloc HO3.out _) ⟨wr.heap.size, 0, none⟩ 1 1 [.int .i64 z] rfl rfl (cell_one_new _ _ _) (by simp [Value.oneCell']) (by have := HBo.out; unfold maxLen; omega) (by have := HBo.out; omega) (by have := HBo.out; simp; omega) ?_; intro v' w5 hown' hgrow _)
          obtain ⟨g', cap', rfl⟩ := ownsRow_succ hown'
          have HE5 := Lib.hid ((HX2.out.alloc (.cells #[.int .i64 z] 3)).grown hgrow (fun k e => (World.ownsRow.lt HO3.out k e).1))
          have HO5 := Lib.hid (show OwnN 3 w1.heap.size w5 (.slice (some ⟨g', 0, none⟩) (wSt x (SN.take (q + 1))).1.length cap') (wSt x (SN.take (q + 1))).1 by rw [HS5.out]; unfold OwnN; simpa using hown')
          have HLX := Lib.hid (show T1.length + 1 = (wSt x (SN.take (q + 1))).1.length by rw [HS5.out]; simp)
          have HPX := Lib.hid (show (wSt x (SN.take (q + 1))).2 = true by rw [HS5.out])
          clear hown' hgrow
          go_wp2
          go_roundw
          case rel => exact ⟨q + 1, _, _, by omega, by go_num, by rw [HLX.out], by rw [HPX.out], HE5, HO5⟩
          case measure => simp [intOf]; omega
        | false =>
          by_cases hlt2 : x < z
          case neg =>
            have HS5 := Lib.hid (show wSt x (SN.take (q + 1)) = (T1 ++ [z], false) by rw [HSc.out]; unfold wStep; simp [hzx, hlt2])
            clear hzx
            go_wp2_with (at_builtin; refine wpList_append_own _ rfl _ _ 22 rfl w1.heap.size 3 i0 (.int .i64 0) 1 8 Tryz.underlying22 hi hz0 hz1 hz2 rfl (by decide) _ _ _ rfl (World.ownsRow.alloc HO3.out _) ⟨wr.heap.size, 0, none⟩ 1 1 [.int .i64 z] rfl rfl (cell_one_new _ _ _) (by simp [Value.oneCell']) (by have := HBo.out; unfold maxLen; omega) (by have := HBo.out; omega) (by have := HBo.out; simp; omega) ?_; intro v' w5 hown' hgrow _)
            obtain ⟨g', cap', rfl⟩ := ownsRow_succ hown'
            have HE5 := Lib.hid ((HX2.out.alloc (.cells #[.int .i64 z] 3)).grown hgrow (fun k e => (World.ownsRow.lt HO3.out k e).1))
            have HO5 := Lib.hid (show OwnN 3 w1.heap.size w5 (.slice (some ⟨g', 0, none⟩) (wSt x (SN.take (q + 1))).1.length cap') (wSt x (SN.take (q + 1))).1 by rw [HS5.out]; unfold OwnN; simpa using hown')
            have HLX := Lib.hid (show T1.length + 1 = (wSt x (SN.take (q + 1))).1.length by rw [HS5.out]; simp)
            have HPX := Lib.hid (show (wSt x (SN.take (q + 1))).2 = false by rw [HS5.out])
            clear hown' hgrow
            go_wp2
            go_roundw
            case rel => exact ⟨q + 1, _, _, by omega, by go_num, by rw [HLX.out], by rw [HPX.out], HE5, HO5⟩
            case measure => simp [intOf]; omega
          case pos =>
            have HS5 := Lib.hid (show wSt x (SN.take (q + 1)) = (T1 ++ [x] ++ [z], true) by rw [HSc.out]; unfold wStep; simp [hzx, hlt2])
            clear hzx
            go_upto_region 18 with (at_builtin; refine wpList_append_own _ rfl _ _ 22 rfl w1.heap.size 3 i0 (.int .i64 0) 1 8 Tryz.underlying22 hi hz0 hz1 hz2 rfl (by decide) _ _ _ rfl (World.ownsRow.alloc HO3.out _) ⟨wr.heap.size, 0, none⟩ 1 1 [.int .i64 x] rfl rfl (cell_one_new _ _ _) (by simp [Value.oneCell']) (by have := HBo.out; unfold maxLen; omega) (by have := HBo.out; omega) (by have := HBo.out; simp; omega) ?_; intro v6 w6 hown6 hgrow6 _)
            obtain ⟨g6, cap6, rfl⟩ := ownsRow_succ hown6
            have HX6 := Lib.hid ((HX2.out.alloc (.cells #[.int .i64 x] 3)).grown hgrow6 (fun k e => (World.ownsRow.lt HO3.out k e).1))
            have HO6 := Lib.hid hown6
            have hz5 := HX6.out.size
            clear hown6 hgrow6 HX2 HO3 hc2'
            have HX2 := HX6
            have HO3 := HO6
            have hc2' := HCe.out w6 HX2.out
            go_wp2_with (at_builtin; refine wpList_append_own _ rfl _ _ 22 rfl w1.heap.size 3 i0 (.int .i64 0) 1 8 Tryz.underlying22 hi hz0 hz1 hz2 rfl (by decide) _ _ _ rfl (World.ownsRow.alloc HO3.out _) ⟨w6.heap.size, 0, none⟩ 1 1 [.int .i64 z] rfl rfl (cell_one_new _ _ _) (by simp [Value.oneCell']) (by have := HBo.out; unfold maxLen; omega) (by have := HBo.out; omega) (by have := HBo.out; simp; omega) ?_; intro v' w5 hown' hgrow _)
            obtain ⟨g', cap', rfl⟩ := ownsRow_succ hown'
            have HE5 := Lib.hid ((HX2.out.alloc (.cells #[.int .i64 z] 3)).grown hgrow (fun k e => (World.ownsRow.lt HO3.out k e).1))
            have HO5 := Lib.hid (show OwnN 3 w1.heap.size w5 (.slice (some ⟨g', 0, none⟩) (wSt x (SN.take (q + 1))).1.length cap') (wSt x (SN.take (q + 1))).1 by rw [HS5.out]; unfold OwnN; simpa using hown')
            have HLX := Lib.hid (show T1.length + 1 + 1 = (wSt x (SN.take (q + 1))).1.length by rw [HS5.out]; simp)
            have HPX := Lib.hid (show (wSt x (SN.take (q + 1))).2 = true by rw [HS5.out])
            clear hown' hgrow
            go_wp2
            go_roundw
            case rel => exact ⟨q + 1, _, _, by omega, by go_num, by rw [HLX.out], by rw [HPX.out], HE5, HO5⟩
            case measure => simp [intOf]; omega
end Go.Proofs.YtbciamploeejiaaGreatDoor

open Go.RowKit Go.Shelf
namespace Fm
open Go Go.RowKit
/-- Nobody is waited for but this one. -/
def okW (i : Int) : List Int → Bool
  | [] => true
  | [y] => decide (y = i)
  | _ :: _ :: _ => false
theorem wake_waits {l : List Nd} {k : Nat} (hk : k < l.length) (i : Int) : wakeOne l i (nthF l (k : Int)) = (decide (l[k].stand = 0) && (decide (i ∈ l[k].after) && okW i (waitsF l (k : Int)))) := by
  rw [nthF_at hk]
  unfold wakeOne
  congr 2
  rw [← waitTo_all hk]
  obtain ⟨g1, g2⟩ := waitTo_both l l[k].after l[k].after.length (Nat.le_refl _)
  rw [List.take_length] at g2
  generalize waitTo l l[k].after l[k].after.length = S at *
  generalize l[k].after = af at *
  rw [Bool.eq_iff_iff, List.all_eq_true]
  constructor
  · intro h
    have hS : ∀ y, y ∈ S → y = i := fun y hy => by
      obtain ⟨h1, h2⟩ := List.mem_filter.1 ((g2 y).1 hy)
      have := h y h1
      rcases Bool.or_eq_true_iff.1 this with h3 | h3
      · simpa using h3
      · rw [h3] at h2; cases h2
    match S, g1, hS with
    | [], _, _ => rfl
    | [y], _, hS => show decide (y = i) = true; simpa using hS y (by simp)
    | y :: z :: r, g1, hS =>
      have h1 := (List.pairwise_cons.1 g1).1 z (by simp)
      have h2 := hS y (by simp)
      have h3 := hS z (by simp)
      omega
  · intro h a ha
    cases hd : doneF l a with
    | true => simp
    | false =>
      have hm := (g2 a).2 (List.mem_filter.2 ⟨ha, by rw [hd]; rfl⟩)
      match S, h, hm with
      | [], _, hm => cases hm
      | [y], h, hm =>
        have h1 : y = i := by simpa [okW] using h
        have h2 : a = y := by simpa using hm
        simp [h2, h1]
      | y :: z :: r, h, _ => cases h
end Fm
namespace Go.Proofs.YtbciamploeejiaaGreatDoor
open Go Go.Proofs Fm
attribute [local go_sem] Oper.semAt_some

theorem take_inI {af : List Int} {n : Nat} (hn : n < af.length) (i : Int) : decide (i ∈ af.take (n + 1)) = (decide (i ∈ af.take n) || decide (af[n] = i)) := by
  rw [List.take_add_one, List.getElem?_eq_getElem hn]
  rw [Bool.eq_iff_iff, decide_eq_true_iff, Bool.or_eq_true, decide_eq_true_iff, decide_eq_true_iff, List.mem_append, Option.toList_some, List.mem_singleton]
  exact or_congr Iff.rfl eq_comm
set_option maxRecDepth 100000 in
set_option maxHeartbeats 4000000 in
theorem rWakes24_any (l : List Nd) (hll : l.length ≤ 1000) (hl : ∀ n, n ∈ l → n.after.length ≤ 100000) (i : Int) (w : World) (v : Value) (h : ndE.Row w l v) :
    Calls Tryz.prog 16 #[v, .int .i64 i] w fun e w' => ∃ v', e = .returned v' ∧ OwnN 3 w.heap.size w' v' (natsI (wakesF l i)) ∧ Ext w w' := by
  obtain ⟨i0, hi, hz0, hz1, hz2⟩ := info_parts infoint_F
  have HP := Lib.hid (rplace24_any l i w _ h)
  have HQ := Lib.hid (fun X (hX : Ext w X) (k : Int) => rWaits24_any l hl k X _ (h.ext hX))
  have HR := Lib.hid h
  have HL := Lib.hid hl
  obtain ⟨a, c, rfl, hc1, hc2⟩ := h.slice
  clear h hc2 hl
  cases hp : placeF l i with
  | false =>
    have HX := Lib.hid (wakesF_no hp)
    rw [hp] at HP
    clear hp
    go_enter Tryz.func16, Tryz.ntmps16
    go_wp2_with fail
    refine HP.out.mono ?_
    rintro e w1 ⟨rfl, rfl⟩
    go_wp2
    go_ret
    exact ⟨_, rfl, by rw [HX.out]; exact OwnN.nil _ _ _, Ext.refl w⟩
  | true =>
    have HX := Lib.hid (wakesF_at hp)
    rw [hp] at HP
    obtain ⟨LN, hLN⟩ : ∃ LN, LN = l.length := ⟨_, rfl⟩
    have HLN := Lib.hid hLN
    rw [← hLN] at HP HQ HR hc1 hll ⊢
    clear hLN hp
    go_enter Tryz.func16, Tryz.ntmps16
    go_wp2_with fail
    refine HP.out.mono ?_
    rintro e w1 ⟨rfl, rfl⟩
    go_wp2_with fail
    go_loopw [5, 6] (fun o k wr => ∃ (j : Nat) (A : Option Addr) (C : Nat), j ≤ LN ∧ k = .int .i64 (j : Int) ∧ o = .slice A (wakesTo l i j).length C ∧ Hid (Ext w wr) ∧ Hid (OwnN 3 w.heap.size wr (.slice A (wakesTo l i j).length C) (natsI (wakesTo l i j)))) (fun _ k _ => LN - (intOf k).toNat)
    case atStart => exact ⟨0, none, 0, by omega, rfl, rfl, Lib.hid (Ext.refl _), Lib.hid (OwnN.nil _ _ _)⟩
    case round =>
      obtain ⟨j, A, C, hj, rfl, rfl, HE, HO⟩ := hrel
      by_cases hlt : j < LN
      case neg =>
        have HY := Lib.hid (show natsI (wakesTo l i j) = natsI (wakesF l i) by rw [HX.out, ← HLN.out, show j = LN by omega])
        go_wp2
        go_ret
        exact ⟨_, rfl, by rw [← HY.out]; exact HO.out, HE.out⟩
      have hi' : j < l.length := by have := HLN.out; omega
      obtain ⟨b, off, rfl, hb, aa, ma, ca, kk, N, s, d, ⟨-, -, -, -, -, -, x6, -, -, x9, -⟩, hnv⟩ := nd_at16 HR.out HE.out j hi'
      have hai : intE.Row w l[j].after (.slice aa ma ca) := by
        obtain ⟨a', m', c', k', N', S', d', e, h2, -⟩ := hnv
        injection e with e
        injection e with e
        simp only [ndCells, List.cons.injEq] at e
        rw [e.2.2.2.2.2.2.1]
        exact h2
      have HT := Lib.hid (wakesTo_succ l i j)
      have HY := Lib.hid (wake_waits hi' i)
      have hSl := wakesTo_len l i j
      have hk := u8_is (k := l[j].stand) 0
      rw [show (((0 : UInt8).toNat : Nat) : Int) = 0 from rfl] at hk
      have haf : l[j].after.length ≤ 100000 := HL.out _ (List.getElem_mem hi')
      generalize l[j].stand = st at *
      generalize l[j].after = af at *
      obtain ⟨aa', ca', he, -, -⟩ := hai.slice
      injection he with he1 he2 he3
      subst he1 he2 he3
      have HAF := Lib.hid hai
      obtain ⟨AN, hAN⟩ : ∃ AN, AN = af.length := ⟨_, rfl⟩
      have HAN := Lib.hid hAN
      rw [← hAN] at HAF x6 haf
      have HX9 := Lib.hid (fun X (hX : Ext wr X) => (hX.cell (p := ⟨b, off + j * 16 + 9, none⟩) (Nat.lt_of_lt_of_le hb HE.out.size)).trans x9)
      obtain ⟨SN, hSN⟩ : ∃ SN, SN = wakesTo l i j := ⟨_, rfl⟩
      have HSN := Lib.hid hSN
      rw [← hSN] at HO HT hSl ⊢
      have hj0 : (0 : Int) ≤ (j : Int) := by omega
      have hj1 : (j : Int) < (LN : Int) := by omega
      have HSt := Lib.hid hk
      clear hnv hai hAN hSN x9 hk
      generalize wr = w1 at *
      go_wp2_with fail
      go_loopw [7, 8] (fun at' k wy => ∃ q : Nat, q ≤ AN ∧ k = .int .i64 (q : Int) ∧ at' = .bool (decide (i ∈ af.take q)) ∧ Hid (wy = w1)) (fun _ k _ => AN - (intOf k).toNat)
      case atStart => exact ⟨0, by omega, rfl, by simp, Lib.hid rfl⟩
      case round =>
        obtain ⟨q, hq, rfl, rfl, hwr⟩ := hrel
        have hwr := hwr.out
        subst hwr
        by_cases hqm : q < AN
        case pos =>
          have hqa : q < af.length := by have := HAN.out; omega
          obtain ⟨b2, off2, hb2e, hb2, h6, hi6⟩ := int_at HAF.out HE.out q hqa
          subst hb2e
          have HTk := Lib.hid (take_inI hqa i)
          have hq0 : (0 : Int) ≤ (q : Int) := by omega
          have hq1 : (q : Int) < (AN : Int) := by omega
          generalize af[q] = z at *
          clear hqa
          cases hin : decide (i ∈ af.take q) with
          | true =>
            have HB := Lib.hid (show decide (i ∈ af.take (q + 1)) = true by rw [HTk.out, hin]; rfl)
            clear hin h6
            go_wp2_with fail
            go_roundw
            case rel => exact ⟨q + 1, by omega, by go_num, by rw [HB.out], Lib.hid trivial⟩
            case measure => simp [intOf]; omega
          | false =>
            have HB := Lib.hid (show decide (i ∈ af.take (q + 1)) = (z == i) by rw [HTk.out, hin]; rfl)
            clear hin
            go_wp2_with fail
            go_roundw
            case rel => exact ⟨q + 1, by omega, by go_num, by rw [HB.out], Lib.hid trivial⟩
            case measure => simp [intOf]; omega
        case neg =>
          have HAL := Lib.hid (show af.take q = af by have := HAN.out; exact List.take_of_length_le (by omega))
          rw [HAL.out]
          obtain ⟨WF, hWF⟩ : ∃ WF, WF = waitsF l (j : Int) := ⟨_, rfl⟩
          rw [← hWF] at HY
          have HQj := HQ.out wr HE.out (j : Int)
          rw [← hWF] at HQj
          have HQj := Lib.hid HQj
          clear hWF
          go_wp2_with fail
          refine HQj.out.mono ?_
          rintro e w3 ⟨v3, rfl, hw3, hE3⟩
          have y9 := HX9.out w3 hE3
          have HE3 := Lib.hid (HE.out.trans hE3)
          have HO3 := Lib.hid (show OwnN 3 w.heap.size w3 (.slice A SN.length C) (natsI SN) from hE3.own HO.out)
          have hz := HE3.out.size
          have hk := HSt.out
          clear hE3 HQj x6
          by_cases hs : st = 0
          case neg =>
            have hk' : ((st.toNat : Int) == 0) = false := by rw [hk]; simpa using hs
            obtain ⟨A3, C3, rfl⟩ := ownsRow_sl hw3
            have HX5 := Lib.hid (show wakesTo l i (j + 1) = SN by rw [HT.out, HY.out]; simp [hs])
            clear hk hs hw3
            go_wp2_with fail
            go_roundw
            case rel => exact ⟨j + 1, A, C, by omega, by go_num, by rw [HX5.out], HE3, by rw [HX5.out]; exact HO3⟩
            case measure => simp [intOf]; omega
          have hk' : ((st.toNat : Int) == 0) = true := by rw [hk]; simpa using hs
          cases hin : decide (i ∈ af) with
          | false =>
            obtain ⟨A3, C3, rfl⟩ := ownsRow_sl hw3
            have HX5 := Lib.hid (show wakesTo l i (j + 1) = SN by rw [HT.out, HY.out]; simp [hin])
            clear hk hs hw3 hin
            go_wp2_with fail
            go_roundw
            case rel => exact ⟨j + 1, A, C, by omega, by go_num, by rw [HX5.out], HE3, by rw [HX5.out]; exact HO3⟩
            case measure => simp [intOf]; omega
          | true =>
          match WF, HY, hw3 with
          | [], HY, hw3 =>
            obtain ⟨A3, C3, rfl⟩ := ownsRow_sl hw3
            have HX5 := Lib.hid (show wakesTo l i (j + 1) = SN ++ [j] by rw [HT.out, HY.out]; simp [hin, hs, okW])
            clear hk hs hw3 hin
            have HBo := Lib.hid (show SN.length ≤ 1000 by omega)
            have HO4 := Lib.hid (ownI_of HO3.out (natsR_len _))
            go_wp2_with (at_builtin; refine wpList_append_own _ rfl _ _ 22 rfl w.heap.size 3 i0 (.int .i64 0) 1 8 Tryz.underlying22 hi hz0 hz1 hz2 rfl (by decide) _ _ _ rfl (World.ownsRow.alloc HO4.out _) ⟨w3.heap.size, 0, none⟩ 1 1 [.int .i64 (j : Int)] rfl rfl (cell_one_new _ _ _) (by simp [Value.oneCell']) (by have := HBo.out; unfold maxLen; omega) (by have := HBo.out; omega) (by have := HBo.out; simp; omega) ?_; intro v' w5 hown' hgrow _)
            obtain ⟨g', cap', rfl⟩ := ownsRow_succ hown'
            have HE5 := Lib.hid ((HE3.out.alloc (.cells #[.int .i64 (j : Int)] 3)).grown hgrow (fun k e => (World.ownsRow.lt HO4.out k e).1))
            have HO5 := Lib.hid (show OwnN 3 w.heap.size w5 (.slice (some ⟨g', 0, none⟩) (wakesTo l i (j + 1)).length cap') (natsI (wakesTo l i (j + 1))) by rw [HX5.out]; unfold OwnN; simpa [natsI] using hown')
            have HLX := Lib.hid (show SN.length + 1 = (wakesTo l i (j + 1)).length by rw [HX5.out]; simp)
            clear hown' hgrow
            go_wp2
            go_roundw
            case rel => exact ⟨j + 1, _, _, by omega, by go_num, by rw [HLX.out], HE5, HO5⟩
            case measure => simp [intOf]; omega
          | [y], HY, hw3 =>
            obtain ⟨g3, cap3, rfl⟩ := ownsRow_succ (show w3.ownsRow wr.heap.size 3 1 v3 (0 + 1) [.int .i64 y] from hw3)
            have hcy : w3.cell? ⟨g3, 0, none⟩ = some (.int .i64 y) := World.ownsRow.cellAt (show w3.ownsRow wr.heap.size 3 1 (.slice (some ⟨g3, 0, none⟩) (0 + 1) cap3) (0 + 1) [.int .i64 y] from hw3) 0 (by decide)
            by_cases hy : y = i
            case neg =>
              have hyb : (y == i) = false := by simpa using hy
              have HX5 := Lib.hid (show wakesTo l i (j + 1) = SN by rw [HT.out, HY.out]; simp [hin, hs, okW, hy])
              clear hk hs hw3 hin hy
              go_wp2_with fail
              go_roundw
              case rel => exact ⟨j + 1, A, C, by omega, by go_num, by rw [HX5.out], HE3, by rw [HX5.out]; exact HO3⟩
              case measure => simp [intOf]; omega
            case pos =>
              have hyb : (y == i) = true := by simpa using hy
              have HX5 := Lib.hid (show wakesTo l i (j + 1) = SN ++ [j] by rw [HT.out, HY.out]; simp [hin, hs, okW, hy])
              clear hk hs hw3 hin hy
              have HBo := Lib.hid (show SN.length ≤ 1000 by omega)
              have HO4 := Lib.hid (ownI_of HO3.out (natsR_len _))
              go_wp2_with (at_builtin; refine wpList_append_own _ rfl _ _ 22 rfl w.heap.size 3 i0 (.int .i64 0) 1 8 Tryz.underlying22 hi hz0 hz1 hz2 rfl (by decide) _ _ _ rfl (World.ownsRow.alloc HO4.out _) ⟨w3.heap.size, 0, none⟩ 1 1 [.int .i64 (j : Int)] rfl rfl (cell_one_new _ _ _) (by simp [Value.oneCell']) (by have := HBo.out; unfold maxLen; omega) (by have := HBo.out; omega) (by have := HBo.out; simp; omega) ?_; intro v' w5 hown' hgrow _)
              obtain ⟨g', cap', rfl⟩ := ownsRow_succ hown'
              have HE5 := Lib.hid ((HE3.out.alloc (.cells #[.int .i64 (j : Int)] 3)).grown hgrow (fun k e => (World.ownsRow.lt HO4.out k e).1))
              have HO5 := Lib.hid (show OwnN 3 w.heap.size w5 (.slice (some ⟨g', 0, none⟩) (wakesTo l i (j + 1)).length cap') (natsI (wakesTo l i (j + 1))) by rw [HX5.out]; unfold OwnN; simpa [natsI] using hown')
              have HLX := Lib.hid (show SN.length + 1 = (wakesTo l i (j + 1)).length by rw [HX5.out]; simp)
              clear hown' hgrow
              go_wp2
              go_roundw
              case rel => exact ⟨j + 1, _, _, by omega, by go_num, by rw [HLX.out], HE5, HO5⟩
              case measure => simp [intOf]; omega
          | y :: z :: r, HY, hw3 =>
            obtain ⟨A3, C3, rfl⟩ := ownsRow_sl hw3
            have hn0 : (((y :: z :: r).length : Nat) : Int) ≠ 0 := by simp; omega
            have hn1 : (((y :: z :: r).length : Nat) : Int) ≠ 1 := by simp; omega
            have HY := Lib.hid (show wakeOne l i (nthF l (j : Int)) = false by rw [HY.out]; simp [okW])
            generalize (y :: z :: r).length = RN at *
            have hb0 : ((RN : Int) == 0) = false := by simpa using hn0
            have hb1 : ((RN : Int) == 1) = false := by simpa using hn1
            have HX5 := Lib.hid (show wakesTo l i (j + 1) = SN by rw [HT.out, HY.out]; simp)
            clear hk hs hw3 hin hn0 hn1
            go_wp2_with fail
            go_roundw
            case rel => exact ⟨j + 1, A, C, by omega, by go_num, by rw [HX5.out], HE3, by rw [HX5.out]; exact HO3⟩
            case measure => simp [intOf]; omega
end Go.Proofs.YtbciamploeejiaaGreatDoor

open Go.RowKit Go.Shelf
namespace Fm
open Go Go.RowKit
/-- No node is after anything: its slice is nil. -/
def Six (w : World) (A : Option Addr) (n : Nat) : Prop := ∀ b, A = some ⟨b, 0, none⟩ → ∀ k, k < n → w.cell? ⟨b, k * 16 + 6, none⟩ = some (.slice none 0 0)
theorem Six.ext {w w' : World} {A : Option Addr} {n : Nat} (h : Six w A n) (hE : Ext w w') (hl : ∀ b, A = some ⟨b, 0, none⟩ → b < w.heap.size) : Six w' A n := fun b hb k hk => (hE.cell (p := ⟨b, k * 16 + 6, none⟩) (hl b hb)).trans (h b hb k hk)
theorem Six.more {w w' : World} {A : Option Addr} {n C C' g base : Nat} {e : TypeId} {xs D : List Value} (h : Six w A n) (ho : w.ownsRow base e 16 (.slice A n C) n xs) (hn : w'.ownsRow base e 16 (.slice (some ⟨g, 0, none⟩) (n + 1) C') (n + 1) (xs ++ D)) (h6 : D[6]? = some (.slice none 0 0)) : Six w' (some ⟨g, 0, none⟩) (n + 1) := by
  intro b hb k hk
  injection hb with hb
  injection hb with hb
  subst hb
  have hxl : xs.length = n * 16 := ho.1
  rw [World.ownsRow.cellAt hn (k * 16 + 6) (by omega)]
  by_cases hkn : k < n
  · rw [List.getElem?_append_left (by omega)]
    obtain ⟨g0, c0, hA, -, -⟩ := World.ownsRow.form ho (by omega)
    injection hA with hA1 hA2 hA3
    subst hA1
    rw [← World.ownsRow.cellAt (cap := C) ho (k * 16 + 6) (by omega)]
    exact h g0 rfl k hkn
  · have : k = n := by omega
    subst this
    rw [List.getElem?_append_right (by omega), hxl, show k * 16 + 6 - k * 16 = 6 by omega]
    exact h6
end Fm
namespace Go.Proofs.YtbciamploeejiaaGreatDoor
open Go Go.Proofs Fm
attribute [local go_sem] Oper.semAt_some

set_option maxRecDepth 100000 in
set_option maxHeartbeats 4000000 in
theorem forestw_any (l : List Int) (w : World) (v : Value) (h : intE.Row w l v) :
    Calls Tryz.prog 20 #[v] w fun e w' => ∃ A C, e = .returned (.slice A (forestF l).length C) ∧ FreeN 38 w.heap.size w' (.slice A (forestF l).length C) (forestF l) ∧ Six w' A (forestF l).length ∧ Ext w w' := by
  have HR := Lib.hid h
  obtain ⟨a, c, rfl, hc1, hc2⟩ := h.slice
  obtain ⟨LN, hLN⟩ : ∃ LN, LN = min l.length 60 := ⟨_, rfl⟩
  have hmin : min (l.length : Int) 60 = (LN : Int) := by omega
  have hs := slice_int_to a l.length c LN (by omega)
  have hL60 : LN ≤ 60 := by omega
  have HLl := Lib.hid (show LN ≤ l.length by omega)
  have HLN := Lib.hid hLN
  clear h hLN hc1
  go_enter Tryz.func20, Tryz.ntmps20
  go_upto_region 2 with (fail)
  go_wp2_with fail
  clear hmin hs
  go_loopw [3, 14] (fun o i wr => ∃ (j : Nat) (A : Option Addr) (C : Nat), j ≤ LN ∧ i = .int .i64 j ∧ o = .slice A j C ∧ Hid (Ext w wr) ∧ Hid (FreeN 38 w.heap.size wr (.slice A j C) (forestTo l j)) ∧ Hid (Six wr A j)) (fun _ i _ => LN - (intOf i).toNat)
  case atStart => exact ⟨0, none, 0, by omega, rfl, rfl, Lib.hid (Ext.refl w), Lib.hid (FreeN.nil _ _ _), Lib.hid (fun b _ k hk => by omega)⟩
  case round =>
    obtain ⟨j, A, C, hj, rfl, rfl, HE, HO, HS6⟩ := hrel
    by_cases hlt : j < LN
    case neg =>
      have HX := Lib.hid (show forestTo l j = forestF l by unfold forestF; rw [← HLN.out, show j = LN by omega])
      go_wp2
      go_ret
      have hfl : j = (forestF l).length := by rw [forestF_len, ← HLN.out]; omega
      exact ⟨A, C, by rw [← hfl]; rfl, by rw [← hfl, ← HX.out]; exact HO.out, by rw [← hfl]; exact HS6.out, HE.out⟩
    have hi' : j < l.length := by have := HLl.out; omega
    obtain ⟨b, off, rfl, hb, hcell, hi6⟩ := int_at HR.out HE.out j hi'
    have hj0 : (0 : Int) ≤ (j : Int) := by omega
    have hj1 : (j : Int) < (LN : Int) := by omega
    have HSl := Lib.hid HO.out.lt
    have HT := Lib.hid (show forestTo l (j + 1) = forestTo l j ++ [forestN (forestTo l j) l[j]] by rw [forestTo, List.getD_eq_getElem?_getD, List.getElem?_eq_getElem hi', Option.getD_some])
    obtain ⟨x, hx⟩ : ∃ x, x = l[j] := ⟨_, rfl⟩
    rw [← hx] at hcell hi6 HT
    clear hx
    obtain ⟨y, hy⟩ : ∃ y, y = x % 256 := ⟨_, rfl⟩
    have hb2 : bits BinOp.and IntKind.i64 x 255 = y := by rw [and255, hy]
    have hy0 : 0 ≤ y ∧ y ≤ 255 := by
      have h1 := Int.emod_nonneg x (show (256 : Int) ≠ 0 by decide)
      have h2 := Int.emod_lt_of_pos x (show (0 : Int) < 256 by decide)
      omega
    obtain ⟨o, ho⟩ : ∃ o : Nat, (o : Int) = y % ((j : Int) + 3) := ⟨(y % ((j : Int) + 3)).toNat, by have := Int.emod_nonneg y (show (j : Int) + 3 ≠ 0 by omega); omega⟩
    have hm1 : y % ((j : Int) + 3) = (o : Int) := ho.symm
    have hm2 : y.tmod ((j : Int) + 3) = (o : Int) := by rw [Int.tmod_eq_emod_of_nonneg hy0.1]; exact hm1
    obtain ⟨f1, hf1⟩ : ∃ f1, f1 = x / 256 % 2 := ⟨_, rfl⟩
    have hb1 : bits BinOp.and IntKind.i64 (x / 256) 1 = f1 := by rw [and1, hf1]
    have hf0 : 0 ≤ f1 ∧ f1 ≤ 1 := by
      have h1 := Int.emod_nonneg (x / 256) (show (2 : Int) ≠ 0 by decide)
      have h2 := Int.emod_lt_of_pos (x / 256) (show (0 : Int) < 2 by decide)
      omega
    have HFN := Lib.hid (show forestN (forestTo l j) x = if o < j then ndFl (nthF (forestTo l j) o).flow o else ndFl f1 (-1) by
      unfold forestN
      rw [forestTo_len, ← hy, ← ho, ← hf1]
      by_cases h : o < j
      · rw [if_pos h, if_pos (by omega)]
      · rw [if_neg h, if_neg (by omega)])
    have HY := Lib.hid hy0
    have HF := Lib.hid hf0
    clear hy ho hf1
    obtain ⟨Cm, hCm⟩ : ∃ Cm, Cm = flC f1 (-1) := ⟨_, rfl⟩
    have HMG : Hid ((Value.agg #[.string { data := #[] }, .string { data := #[] }, .int .u8 0, .int .i64 f1, .int .i64 (-1), .int .i64 0, .slice none 0 0, .int .i64 0, .int .i64 0, .int .u8 0, .int .i64 0, .int .i64 0, .int .u8 0, .int .i64 0, .string { data := #[] }, .slice none 0 0]) = .agg Cm.toArray) := Lib.hid (by rw [hCm]; rfl)
    have HCm := Lib.hid hCm
    have HL16 := Lib.hid (show Cm.length = 16 by rw [hCm]; rfl)
    have HN1 := Lib.hid (show ∀ u, u ∈ Cm → u.oneCell' = true by rw [hCm]; intro u hu; simp only [flC, List.mem_cons, List.not_mem_nil, or_false] at hu; rcases hu with rfl | rfl | rfl | rfl | rfl | rfl | rfl | rfl | rfl | rfl | rfl | rfl | rfl | rfl | rfl | rfl <;> rfl)
    clear hCm
    go_upto_region 6 with (refine wpList_storeBox rfl _ _ _ rfl _ _ _ _ rfl rfl rfl (by exact HMG.out) sizenode_F rfl HL16.out HN1.out ?_)
    have hB1 := BoxL.new wr Cm 38
    have hE1 := (Ext.refl wr).alloc (.cells Cm.toArray 38)
    have hO1 := HO.out.ext hE1
    have HE1 := Lib.hid (HE.out.trans hE1)
    have hNB : w.heap.size ≤ wr.heap.size := HE.out.size
    have hNB2 : wr.heap.size < (wr.alloc (.cells Cm.toArray 38)).heap.size := by simp
    have hgl2 := HO.out.lt
    have HE01 := Lib.hid hE1
    generalize wr.alloc (.cells Cm.toArray 38) = W1 at *
    obtain ⟨NB, hNBe⟩ : ∃ NB, NB = wr.heap.size := ⟨_, rfl⟩
    rw [← hNBe] at hB1 hNB hNB2 hgl2 ⊢
    have HNBe := Lib.hid hNBe
    clear hNBe
    rw [HCm.out] at hB1
    have HB1 := Lib.hid hB1
    have HO1 := Lib.hid hO1
    clear hB1 hE1 HMG HN1 hO1
    by_cases hoj : o < j
    case' pos =>
      obtain ⟨g, cap, hA, hg1, hg2⟩ := HO1.out.form (by rw [forestTo_len]; omega)
      rw [forestTo_len] at hA
      injection hA with hA1 hA2 hA3
      subst hA1 hA3
      have hgN : g < NB := (hgl2 g rfl).2
      obtain ⟨b', off', e', hb', aa, ma, ca, kk, N, s, d, ⟨-, -, -, x3, -⟩, hnv⟩ := nd_at16 HO1.out.row (Ext.refl W1) o (by rw [forestTo_len]; exact hoj)
      injection e' with e'
      injection e' with e1' e2'
      subst e1' e2'
      have hfw := hnv.wf.2.2.1
      have hol : o < (forestTo l j).length := by rw [forestTo_len]; exact hoj
      have HFN2 := Lib.hid (show forestN (forestTo l j) x = ndFl (forestTo l j)[o].flow o by rw [HFN.out, if_pos hoj, nthF_at])
      obtain ⟨f2, hf2⟩ : ∃ f2, f2 = (forestTo l j)[o].flow := ⟨_, rfl⟩
      rw [← hf2] at x3 hfw HFN2
      rw [Nat.zero_add] at x3
      have hne1 : g ≠ NB := by omega
      have hne2 : NB ≠ g := by omega
      have y3 := HB1.out.cell 3 _ rfl
      have y4 := HB1.out.cell 4 _ rfl
      have z3 := HB1.out.free 3
      have z4 := HB1.out.free 4
      have HFW := Lib.hid hfw
      clear hf2 hnv hfw hb'
      go_wp2_with fail
      go_region
      have hE2 : Ext wr (((W1.setCell ⟨NB, 4, none⟩ (.int .i64 (o : Int))).setCell ⟨NB, 3, none⟩ (.int .i64 f2)).drew) := ((HE01.out.setCell (p := ⟨NB, 4, none⟩) (by show wr.heap.size ≤ NB; have := HNBe.out; omega) _).setCell (p := ⟨NB, 3, none⟩) (by show wr.heap.size ≤ NB; have := HNBe.out; omega) _).drew
      have hB2 := ((HB1.out.set 4 (by simp [flC]) (.int .i64 (o : Int))).set 3 (by simp [flC]) (.int .i64 f2)).ext (Ext.refl _).drew
      generalize ((W1.setCell ⟨NB, 4, none⟩ (.int .i64 (o : Int))).setCell ⟨NB, 3, none⟩ (.int .i64 f2)).drew = W2 at *
      have HB2 := Lib.hid (show BoxL W2 NB (flC f2 (o : Int)) from hB2)
      have HV2 := Lib.hid (fun W => ndFl_v HFW.out (show isI64 (o : Int) by unfold isI64; omega) W)
      have HO2 := Lib.hid (HO.out.ext hE2)
      have HS2 := Lib.hid (HS6.out.ext hE2 (fun b hb => by injection hb with hb; injection hb with hb; rw [← hb]; exact (HSl.out g rfl).2))
      have HC6 := Lib.hid (show (flC f2 (o : Int))[6]? = some (.slice none 0 0) from rfl)
      have HE2 := Lib.hid (HE.out.trans hE2)
      obtain ⟨A', hA'⟩ : ∃ A' : Option Addr, A' = some ⟨g, 0, none⟩ := ⟨_, rfl⟩
      obtain ⟨Cn, hCn⟩ : ∃ Cn, Cn = flC f2 (o : Int) := ⟨_, rfl⟩
      obtain ⟨nn, hnn⟩ : ∃ nn, nn = ndFl f2 (o : Int) := ⟨_, rfl⟩
      have hNN := HFN2.out.trans hnn.symm
      rw [← hCn] at HB2 HC6
      rw [← hCn, ← hnn] at HV2
      have hC16 : Cn.length = 16 := by rw [hCn]; rfl
      clear hB2 hE2 hCn hnn x3 y3 y4 z3 z4
    case' neg =>
      have hNN := HFN.out
      rw [if_neg hoj] at hNN
      have HV2 := Lib.hid (fun W => ndFl_v (show isI64 f1 by have := HF.out; unfold isI64; omega) (show isI64 (-1) by unfold isI64; omega) W)
      obtain ⟨W2, hW2⟩ : ∃ W2, W2 = W1 := ⟨_, rfl⟩
      have HO2 := Lib.hid (show FreeN 38 w.heap.size W2 (.slice A j C) (forestTo l j) by rw [hW2]; exact HO1.out)
      have HE2 := Lib.hid (show Ext w W2 by rw [hW2]; exact HE1.out)
      have HS2 := Lib.hid (show Six W2 A j by rw [hW2]; exact HS6.out.ext HE01.out (fun b hb => by rw [hb] at HSl; exact (HSl.out b rfl).2))
      have HC6 := Lib.hid (show (flC f1 (-1))[6]? = some (.slice none 0 0) from rfl)
      obtain ⟨Cn, hCn⟩ : ∃ Cn, Cn = flC f1 (-1) := ⟨_, rfl⟩
      have HB2 := Lib.hid (show BoxL W2 NB Cn by rw [hW2, hCn]; exact HB1.out)
      obtain ⟨nn, hnn⟩ : ∃ nn, nn = ndFl f1 (-1) := ⟨_, rfl⟩
      rw [← hnn] at hNN
      rw [← hCn, ← hnn] at HV2
      rw [← hCn] at HC6
      have hC16 : Cn.length = 16 := by rw [hCn]; rfl
      rw [← hW2]
      clear hCn hnn hW2
      go_upto_region 9 with (fail)
    all_goals
      have HNN := Lib.hid hNN
      have hN1 := (ndV_one (HV2.out W2)).2
      have HR2 : Hid (W2.rangeAt NB 0 Cn) := Lib.hid (fun p v hp => by rw [Nat.zero_add]; exact HB2.out.cell p v hp)
      have HLn' : Hid ((Tryz.prog.info? 38).map (·.size) = some Cn.length) := Lib.hid (by rw [hC16]; exact sizenode_F)
      have hEa := (Ext.refl W2).alloc (.cells Cn.toArray 38)
      obtain ⟨ts, hts, hmore⟩ := (HO2.out.ext hEa).rowOf
      rw [forestTo_len] at hts hmore
      have HTs := Lib.hid hts
      have HMore := Lib.hid hmore
      have HC16 := Lib.hid hC16
      have HC1 := Lib.hid hN1
      have HRb := Lib.hid (show (W2.alloc (.cells Cn.toArray 38)).rangeAt W2.heap.size 0 Cn from rangeAt_new W2 Cn 38)
      have HEb := Lib.hid (HE2.out.trans hEa)
      have HLt := Lib.hid (HO2.out.ext hEa).lt
      have HS3 := Lib.hid (HS2.out.ext hEa (fun b hb => by first | exact (HO2.out.lt b (by rw [hb]; rfl)).2 | (injection hb with hb; injection hb with hb; rw [← hb]; exact (HO2.out.lt g rfl).2)))
      clear hNN hN1 hC16 hEa hts hmore HO2 HB2 HO1 HB1 HO HE HE01 HE1 HCm HFN hb1 hb2 hm1 hm2 hcell
      go_wp2_with (first | (refine wpList_load_mid rfl _ _ rfl _ _ rfl _ _ HR2.out Tryz.underlying38 rfl HLn'.out ?_) | (refine wpList_nodesC (C := Cn) (by rfl) (.tmp 41) rfl rfl HC16.out ?_) | (at_builtin; refine wpList_appOneM elemnode_F rfl _ _ rfl rfl HTs.out rfl HRb.out HC16.out HC1.out (by omega) (by omega) HEb.out.size ?_))
      intro v' w5 hown' hgrow _
      obtain ⟨g', cap', rfl⟩ := ownsRow_succ hown'
      have HO5 := Lib.hid (HMore.out w5 (.slice (some ⟨g', 0, none⟩) (j + 1) cap') nn Cn HC16.out (by simpa using hown') HV2.out)
      have HE5 := Lib.hid (HEb.out.grown hgrow (fun k e => (HLt.out k e).1))
      have HT5 := Lib.hid (show forestTo l (j + 1) = forestTo l j ++ [nn] by rw [HT.out, HNN.out])
      have HS5 := Lib.hid (Six.more HS3.out HTs.out hown' HC6.out)
      clear hown' hgrow
      go_wp2
      go_roundw
      case rel => exact ⟨j + 1, _, _, by omega, by go_num, rfl, HE5, Lib.hid (by rw [HT5.out]; exact HO5.out), HS5⟩
      case measure => simp [intOf]; omega
end Go.Proofs.YtbciamploeejiaaGreatDoor
