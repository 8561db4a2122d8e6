/- Rows of numbers and of values out of a row's reading. -/
import Derived.Test.YtbciamploeejiaaGreatDoorFw
import Derived.Test.YtbciamploeejiaaGreatDoorPlWb
import Derived.Test.YtbciamploeejiaaGreatDoorTake
import Derived.Test.YtbciamploeejiaaGreatDoorIdC
import Derived.LaidLaws
import Derived.Lib.LaidTab
import Derived.Test.YtbciamploeejiaaGreatDoorSnH
import Derived.Test.YtbciamploeejiaaGreatDoorPlO
import Derived.Test.YtbciamploeejiaaGreatDoorProg
open Go.RowKit Go.Shelf
namespace Go.Proofs.YtbciamploeejiaaGreatDoor
open Go Go.Proofs Fm
attribute [local go_sem] Oper.semAt_some

set_option maxRecDepth 100000 in
set_option maxHeartbeats 8000000 in
theorem some_any (l : List Int) (w : World) (v : Value) (h : intE.Row w l v) :
    Calls Tryz.prog 6 #[v] w fun e w' => ∃ A C, e = .returned (.slice A (someF l).length C) ∧ HeldN 38 w.heap.size w' (.slice A (someF l).length C) (someF l) ∧ Ext w w' := by
  have HR := Lib.hid h
  have HF := Lib.hid (forestw_any l w v h)
  obtain ⟨a, c, rfl, hc1, hc2⟩ := h.slice
  obtain ⟨LN, hLN⟩ : ∃ LN, LN = min l.length 60 := ⟨_, rfl⟩
  have HLN := Lib.hid hLN
  have HFl := Lib.hid (show (forestF l).length = LN by rw [forestF_len, hLN])
  have hL60 : LN ≤ 60 := by omega
  have hLl : LN ≤ l.length := by omega
  have HSl := Lib.hid (show (someF l).length = LN by rw [someF_len, hLN])
  rw [HFl.out] at HF
  rw [HSl.out]
  clear h hLN
  go_enter Tryz.func6, Tryz.ntmps6
  go_wp2_with fail
  refine HF.out.mono ?_
  rintro e w1 ⟨A, C, rfl, hfr, hsix, hE1⟩
  have HH0 := Lib.hid (show HeldN 38 w.heap.size w1 (.slice A LN C) (chgTo (someG l) (forestF l) 0) by rw [chgTo_zero]; exact hfr.held)
  have HS0 := Lib.hid hsix
  have HE1 := Lib.hid hE1
  clear hfr hsix hE1 HF
  go_wp2_with fail
  go_loopw [11] (fun i wr => ∃ j : Nat, j ≤ LN ∧ i = .int .i64 (j : Int) ∧ Hid (Ext w wr) ∧ Hid (HeldN 38 w.heap.size wr (.slice A LN C) (chgTo (someG l) (forestF l) j)) ∧ Hid (∀ b, A = some ⟨b, 0, none⟩ → ∀ k, j ≤ k → k < LN → wr.cell? ⟨b, k * 16 + 6, none⟩ = some (.slice none 0 0))) (fun i _ => LN - (intOf i).toNat)
  case atStart => exact ⟨0, by omega, rfl, HE1, HH0, Lib.hid (fun b hb k _ hk => HS0.out b hb k hk)⟩
  case round =>
    clear HH0 HS0 HE1
    obtain ⟨j, hj, rfl, HE, HH, HS⟩ := hrel
    by_cases hlt : j < LN
    case neg =>
      have HX := Lib.hid (show HeldN 38 w.heap.size wr (.slice A LN C) (someF l) by
        have := HH.out
        rw [show j = (forestF l).length by rw [HFl.out]; omega, chgTo_all] at this
        exact this)
      go_wp2
      go_ret
      exact ⟨A, C, rfl, HX.out, HE.out⟩
    have hjl : j < l.length := by omega
    have hjF : j < (forestF l).length := by rw [HFl.out]; exact hlt
    have hcl : (chgTo (someG l) (forestF l) j).length = LN := by rw [chgTo_len, HFl.out]
    obtain ⟨bx, offx, rfl, hbx, hcell, hx6⟩ := int_at HR.out HE.out j hjl
    obtain ⟨g, C', hA, hg1, hg2⟩ := HH.out.form (by rw [hcl]; omega)
    rw [hcl] at hA
    injection hA with hA1 hA2 hA3
    subst hA1 hA3
    have hj0 : (0 : Int) ≤ (j : Int) := by omega
    have hj1 : (j : Int) < (LN : Int) := by omega
    have hj2 : (j : Int) < (l.length : Int) := by omega
    obtain ⟨x, hx⟩ : ∃ x, x = l[j] := ⟨_, rfl⟩
    have HXg := Lib.hid (show l.getD j 0 = x by rw [List.getD_eq_getElem?_getD, List.getElem?_eq_getElem hjl, Option.getD_some, hx])
    rw [← hx] at hcell hx6
    clear hx
    -- the numbers
    obtain ⟨y, hy⟩ : ∃ y : Nat, (y : Int) = x / 16 % 8 := ⟨(x / 16 % 8).toNat, by have := Int.emod_nonneg (x / 16) (show (8 : Int) ≠ 0 by decide); omega⟩
    have hy8 : y < 8 := by have := Int.emod_lt_of_pos (x / 16) (show (0 : Int) < 8 by decide); omega
    obtain ⟨z, hz⟩ : ∃ z : Nat, z = y % 7 := ⟨_, rfl⟩
    have hz7 : z < 7 := by omega
    obtain ⟨fl, hfl⟩ : ∃ fl, fl = x / 128 % 2 := ⟨_, rfl⟩
    have hfl2 : 0 ≤ fl ∧ fl ≤ 1 := by
      have h1 := Int.emod_nonneg (x / 128) (show (2 : Int) ≠ 0 by decide)
      have h2 := Int.emod_lt_of_pos (x / 128) (show (0 : Int) < 2 by decide)
      omega
    obtain ⟨q, hq⟩ : ∃ q : Nat, (q : Int) = x / 4 % 8 := ⟨(x / 4 % 8).toNat, by have := Int.emod_nonneg (x / 4) (show (8 : Int) ≠ 0 by decide); omega⟩
    have hq8 : q < 8 := by have := Int.emod_lt_of_pos (x / 4) (show (0 : Int) < 8 by decide); omega
    obtain ⟨cn, hcn⟩ : ∃ cn : Nat, (cn : Int) = x / 32 % 4 := ⟨(x / 32 % 4).toNat, by have := Int.emod_nonneg (x / 32) (show (4 : Int) ≠ 0 by decide); omega⟩
    have hcn4 : cn < 4 := by have := Int.emod_lt_of_pos (x / 32) (show (0 : Int) < 4 by decide); omega
    have b1 : bits BinOp.and IntKind.i64 (x / 16) 7 = (y : Int) := by rw [and7, hy]
    have b2 : bits BinOp.and IntKind.i64 (x / 128) 1 = fl := by rw [and1, hfl]
    have b3 : bits BinOp.and IntKind.i64 (x / 4) 7 = (q : Int) := by rw [and7, hq]
    have b4 : bits BinOp.and IntKind.i64 (x / 32) 3 = (cn : Int) := by rw [and3, hcn]
    have b5 : (y : Int).tmod 7 = (z : Int) := by rw [Int.tmod_eq_emod_of_nonneg (by omega)]; omega
    have HH1 := Lib.hid (show HeldN 38 w.heap.size wr (.slice (some ⟨g, 0, none⟩) LN C) (chgTo (someG l) (forestF l) j) from HH.out)
    have hjc : j < (chgTo (someG l) (forestF l) j).length := by rw [hcl]; exact hlt
    obtain ⟨⟨u9, c9⟩, z9⟩ := (HH1.out.relen hcl.symm).spot hjc 9 (by omega)
    obtain ⟨⟨u10, c10⟩, z10⟩ := (HH1.out.relen hcl.symm).spot hjc 10 (by omega)
    have hgx : g ≠ bx := by omega
    have HSF := Lib.hid (HH1.out.putSF hcl hjc (show z < 256 by omega) (show isI64 fl by unfold isI64; omega))
    have HS1 := Lib.hid (fun k (h1 : j ≤ k) (h2 : k < LN) => six_put (u := .int .i64 fl) (six_put (u := .int .u8 (z : Int)) (HS.out g rfl k h1 h2) (show (j * 16 + 9) % 16 ≠ 6 by omega)) (show (j * 16 + 10) % 16 ≠ 6 by omega))
    have HZ := Lib.hid hz
    have HY := Lib.hid hy
    have HFl2 := Lib.hid hfl
    have HQ := Lib.hid hq
    have HCN := Lib.hid hcn
    have HG1 := Lib.hid hg1
    clear hz hy hfl hq hcn HH HS hg1
    have HWc := Lib.hid (show w.heap.size ≤ wr.heap.size from HE.out.size)
    go_upto_region 7 with (fail)
    have hE2 : Ext w ((wr.setCell ⟨g, j * 16 + 9, none⟩ (.int .u8 (z : Int))).setCell ⟨g, j * 16 + 10, none⟩ (.int .i64 fl)) := HE.out.grown HSF.out.2 (fun k hk => by injection hk with hk; rw [← hk]; exact HG1.out)
    obtain ⟨W2, hW2⟩ : ∃ W2, W2 = (wr.setCell ⟨g, j * 16 + 9, none⟩ (.int .u8 (z : Int))).setCell ⟨g, j * 16 + 10, none⟩ (.int .i64 fl) := ⟨_, rfl⟩
    rw [← hW2] at HSF HS1 hE2 ⊢
    have hg3 : g < W2.heap.size := by rw [hW2]; simpa using hg2
    have hg4 : g ≠ W2.heap.size := by omega
    have HE2 := Lib.hid hE2
    have HH2 := Lib.hid HSF.out.1
    clear hE2 hW2 HSF HH1 c9 z9 c10 z10 hcell b1 b2 b5 HE
    obtain ⟨L2, hL2⟩ : ∃ L2, L2 = (chgTo (someG l) (forestF l) j).set j { (chgTo (someG l) (forestF l) j)[j] with stand := UInt8.ofNat z, fails := fl } := ⟨_, rfl⟩
    rw [← hL2] at HH2
    have hl2 : L2.length = LN := by rw [hL2, List.length_set]; exact hcl
    have hj2c : j < L2.length := by omega
    have HL2 := Lib.hid hL2
    clear hL2
    obtain ⟨sI, hsI⟩ : ∃ sI, sI = someIds.getD q [] := ⟨_, rfl⟩
    have hsl : sI.length ≤ 9223372036854775807 := by rw [hsI]; have := someIds_le q; omega
    have hB := BoxL.new W2 (someIds.map fun s => Value.string (str s)) 9
    have hq : (someIds.map fun s => Value.string (str s))[q]? = some (.string (str sI)) := by
      rw [List.getElem?_map, hsI, List.getD_eq_getElem?_getD, List.getElem?_eq_getElem (show q < someIds.length from hq8)]
      rfl
    have hcq := hB.cell q _ hq
    have HSI := Lib.hid hsI
    obtain ⟨⟨u0, c0⟩, z0⟩ := (HH2.out.relen hl2.symm).spot hj2c 0 (by omega)
    have c0 : W2.cell? ⟨g, j * 16, none⟩ = some u0 := c0
    have z0 : W2.frozen? ⟨g, j * 16, none⟩ = false := z0
    have hq0 : (0 : Int) ≤ (q : Int) := by omega
    have hq1 : (q : Int) < 8 := by omega
    have HPI := Lib.hid (HH2.out.putId hl2 hj2c hsl)
    have HSP := Lib.hid (fun k (h1 : j ≤ k) (h2 : k < LN) => six_put (u := .string (str sI)) (HS1.out k h1 h2) (show (j * 16) % 16 ≠ 6 by omega))
    clear hB HS1 hq hsI
    rw [show (W2.alloc (.cells (someIds.map fun s => Value.string (str s)).toArray 9)) = W2.alloc (.cells #[.string { data := #[48, 47, 97] }, .string { data := #[48, 47, 98] }, .string { data := #[49, 47, 97, 91, 50, 93] }, .string { data := #[49, 47, 97, 91, 49, 48, 93] }, .string { data := #[48, 47, 97, 47, 99] }, .string { data := #[] }, .string { data := #[120] }, .string { data := #[50] }] 9) from rfl] at hcq
    go_upto_region 8 with (fail)
    have hE3 : Ext w (W2.setCell ⟨g, j * 16, none⟩ (.string (str sI))) := HE2.out.grown HPI.out.2 (fun k hk => by injection hk with hk; rw [← hk]; exact HG1.out)
    have hg5 : g < (W2.setCell ⟨g, j * 16, none⟩ (.string (str sI))).heap.size := by simpa using hg3
    obtain ⟨W3, hW3⟩ : ∃ W3, W3 = W2.setCell ⟨g, j * 16, none⟩ (.string (str sI)) := ⟨_, rfl⟩
    rw [← hW3] at HPI HSP hE3 hg5 ⊢
    have hEb := (Ext.refl W3).alloc (.cells #[.string { data := #[48, 47, 97] }, .string { data := #[48, 47, 98] }, .string { data := #[49, 47, 97, 91, 50, 93] }, .string { data := #[49, 47, 97, 91, 49, 48, 93] }, .string { data := #[48, 47, 97, 47, 99] }, .string { data := #[] }, .string { data := #[120] }, .string { data := #[50] }] 9)
    obtain ⟨L3, hL3⟩ : ∃ L3, L3 = L2.set j { L2[j] with id := sI } := ⟨_, rfl⟩
    rw [← hL3] at HPI
    have hl3 : L3.length = LN := by rw [hL3, List.length_set]; exact hl2
    have hj3c : j < L3.length := by omega
    have HL3 := Lib.hid hL3
    have hHi := HPI.out.1.ext hEb
    have hSi : ∀ k, j ≤ k → k < LN → _ := fun k h1 h2 => (hEb.cell (p := ⟨g, k * 16 + 6, none⟩) hg5).trans (HSP.out k h1 h2)
    have hEi := hE3.trans hEb
    have hgi := Nat.lt_of_lt_of_le hg5 hEb.size
    generalize W3.alloc (.cells #[.string { data := #[48, 47, 97] }, .string { data := #[48, 47, 98] }, .string { data := #[49, 47, 97, 91, 50, 93] }, .string { data := #[49, 47, 97, 91, 49, 48, 93] }, .string { data := #[48, 47, 97, 47, 99] }, .string { data := #[] }, .string { data := #[120] }, .string { data := #[50] }] 9) = Wi at *
    clear hL3 hW3 hEb hE3 HPI HSP HE2 HH2 hcq c0 z0
    have HSi := Lib.hid hSi
    have HEi := Lib.hid hEi
    have HGi := Lib.hid hgi
    obtain ⟨cs, h1, h2, h3⟩ := hHi
    rw [hl3] at h2
    have hxs : cs.flatten.length = LN * 16 := h2.1
    have h6s : cs.flatten[j * 16 + 6]? = some (.slice none 0 0) := by
      rw [← World.ownsRow.cellAt h2 (j * 16 + 6) (by omega)]
      exact hSi j (Nat.le_refl _) hlt
    have HR0 := Lib.hid (show Wi.ownsRow w.heap.size 38 16 (.slice (some ⟨g, 0, none⟩) LN C) LN (cs.flatten.set (j * 16 + 6) (.slice none 0 0)) by rw [set_same h6s]; exact h2)
    have HROW := Lib.hid h2
    have H1 := Lib.hid h1
    have H3 := Lib.hid h3
    obtain ⟨xs, hxs'⟩ : ∃ xs, xs = cs.flatten := ⟨_, rfl⟩
    rw [← hxs'] at HR0 HROW hxs
    have HXS := Lib.hid hxs'
    clear h1 h2 h3 h6s hxs' hSi hEi hgi
    go_wp2_with fail
    go_loopw [47] (fun i wr => ∃ (k : Nat) (aa : Option Addr) (mc : Nat), k ≤ cn ∧ i = .int .i64 (k : Int) ∧ Hid (Wi.grownBy wr (some g)) ∧ Hid (wr.ownsRow w.heap.size 38 16 (.slice (some ⟨g, 0, none⟩) LN C) LN (xs.set (j * 16 + 6) (.slice aa k mc))) ∧ Hid (OwnN 3 Wi.heap.size wr (.slice aa k mc) (someA x k)) ∧ Hid (Ext w wr)) (fun i _ => cn - (intOf i).toNat)
    case atStart => exact ⟨0, none, 0, by omega, rfl, Lib.hid (grown_ext (Ext.refl _) _), HR0, Lib.hid (OwnN.nil _ _ _), HEi⟩
    case round =>
      clear HR0 HEi
      obtain ⟨k, aa, mc, hk, rfl, HG, HRw, HO, HE⟩ := hrel
      by_cases hkc : k < cn
      case neg =>
        have hkk : k = cn := by omega
        have HX := Lib.hid (show HeldN 38 w.heap.size wr (.slice (some ⟨g, 0, none⟩) LN C) (L3.set j { L3[j]'hj3c with after := someA x cn }) by
          have := HeldN.afterR (W := wr) (base := w.heap.size) (eN := 38) (cap := C) H1.out H3.out hj3c (a := aa) (m := k) (c := mc) (af := someA x cn) (by rw [hl3, ← HXS.out]; exact HRw.out) HG.out (fun w' hw' => OwnN.row (World.ownsRow.kept (show OwnN 3 Wi.heap.size wr (.slice aa k mc) (someA x cn) by rw [← hkk]; exact HO.out) hw' (.inr (fun e => by have := (World.ownsRow.lt HO.out g e).1; have := HGi.out; omega))) (someA_i64 x cn))
          exact this.relen hl3)
        have HLx := Lib.hid (show L3.set j { L3[j]'hj3c with after := someA x cn } = chgTo (someG l) (forestF l) (j + 1) by
          rw [chgTo_succ _ _ _ hjF]
          have hat : (chgTo (someG l) (forestF l) j)[j] = (forestF l)[j] := chgTo_at _ _ _ _ hjF
          have e3 : L3[j]'hj3c = { L2[j]'hj2c with id := sI } := by simp only [HL3.out, List.getElem_set_self]
          have e2 : L2[j]'hj2c = { (chgTo (someG l) (forestF l) j)[j] with stand := UInt8.ofNat z, fails := fl } := by simp only [HL2.out, List.getElem_set_self]
          rw [e3, HL3.out, e2, HL2.out, List.set_set, List.set_set, hat]
          unfold someG
          rw [HXg.out, show (x / 4 % 8).toNat = q by have := HQ.out; omega, show (x / 16 % 8 % 7).toNat = z by have := HY.out; have := HZ.out; omega, show (x / 32 % 4).toNat = cn by have := HCN.out; omega, ← HFl2.out, ← HSI.out])
        have HX := Lib.hid (show HeldN 38 w.heap.size wr (.slice (some ⟨g, 0, none⟩) LN C) (chgTo (someG l) (forestF l) (j + 1)) by rw [← HLx.out]; exact HX.out)
        have HSn : Hid (∀ b, (some ⟨g, 0, none⟩ : Option Addr) = some ⟨b, 0, none⟩ → ∀ k', j + 1 ≤ k' → k' < LN → wr.cell? ⟨b, k' * 16 + 6, none⟩ = some (.slice none 0 0)) := Lib.hid (fun b hb k' h1 h2 => by
          injection hb with hb
          injection hb with hb
          subst hb
          exact six_row HROW.out HRw.out h2 (by omega) (HSi.out k' (by omega) h2))
        clear HG HRw HO
        go_wp2_with fail
        go_roundw
        case rel => exact ⟨j + 1, by omega, by go_num, HE, HX, HSn⟩
        case measure => simp [intOf]; omega
      obtain ⟨yk, hyk⟩ : ∃ yk, yk = x / 2 ^ k % 16 := ⟨_, rfl⟩
      have hyk2 : 0 ≤ yk ∧ yk ≤ 15 := by
        have h1 := Int.emod_nonneg (x / 2 ^ k) (show (16 : Int) ≠ 0 by decide)
        have h2 := Int.emod_lt_of_pos (x / 2 ^ k) (show (0 : Int) < 16 by decide)
        omega
      have b6 : bits BinOp.and IntKind.i64 (x / 2 ^ k) 15 = yk := by rw [and15, hyk]
      have b7 : IntKind.i64.wrap (yk - 1) = yk - 1 := IntWalk.i64_in _ (by omega)
      have hgw : g < wr.heap.size := (World.ownsRow.lt HRw.out g rfl).2
      have hgne : g ≠ wr.heap.size := by omega
      have HA := Lib.hid (show someA x (k + 1) = someA x k ++ [yk - 1] by rw [someA_succ, hyk]; simp)
      have hAl := someA_len x k
      clear hyk
      have hc6 : wr.cell? ⟨g, j * 16 + 6, none⟩ = some (.slice aa k mc) := by
        rw [World.ownsRow.cellAt HRw.out (j * 16 + 6) (by omega), List.getElem?_set_self (by omega)]
      have hf6 : wr.frozen? ⟨g, j * 16 + 6, none⟩ = false := World.ownsRow.frozenAt HRw.out _
      have hk0 : (0 : Int) ≤ (k : Int) := by omega
      have hk1 : (k : Int) < (cn : Int) := by omega
      go_upto_region 11 with (fail)
      refine wp_region_held_drew (S := fun _ => True) (by kernel_rfl) trivial (fun hHeld => ?_)
      refine take_w 0 (some 50) (v := ?_) (by kernel_rfl) (by kernel_rfl) (by kernel_rfl) (by kernel_rfl) (by kernel_rfl) (fun _ _ _ h => h) (by rfl) ?_ (by assumption) ?_
      rotate_left
      · (intro w hSw; go_simp; try with_reducible rfl)
      try simp only [Act.put, List.setIfInBounds_toArray, List.set_cons_zero, List.set_cons_succ]
      refine take_w 1 (some 51) (v := ?_) (by kernel_rfl) (by kernel_rfl) (by kernel_rfl) (by kernel_rfl) (by kernel_rfl) (fun _ _ _ h => h) (by rfl) ?_ (by assumption) ?_
      rotate_left
      · (intro w hSw; go_simp; try with_reducible rfl)
      try simp only [Act.put, List.setIfInBounds_toArray, List.set_cons_zero, List.set_cons_succ]
      refine take_w 2 (some 52) (v := ?_) (by kernel_rfl) (by kernel_rfl) (by kernel_rfl) (by kernel_rfl) (by kernel_rfl) (fun _ _ _ h => h) (by rfl) ?_ (by assumption) ?_
      rotate_left
      · (intro w hSw; go_simp; try with_reducible rfl)
      try simp only [Act.put, List.setIfInBounds_toArray, List.set_cons_zero, List.set_cons_succ]
      refine take_w 3 (some 53) (v := ?_) (by kernel_rfl) (by kernel_rfl) (by kernel_rfl) (by kernel_rfl) (by kernel_rfl) (fun _ _ _ h => h) (by rfl) ?_ (by assumption) ?_
      rotate_left
      · (intro w hSw; go_simp; try with_reducible rfl)
      try simp only [Act.put, List.setIfInBounds_toArray, List.set_cons_zero, List.set_cons_succ]
      refine take_w 4 (some 54) (v := ?_) (by kernel_rfl) (by kernel_rfl) (by kernel_rfl) (by kernel_rfl) (by kernel_rfl) (fun _ _ _ h => h) (by rfl) ?_ (by assumption) ?_
      rotate_left
      · (intro w hSw; go_simp; try with_reducible rfl)
      try simp only [Act.put, List.setIfInBounds_toArray, List.set_cons_zero, List.set_cons_succ]
      refine take_w 5 (some 55) (v := ?_) (by kernel_rfl) (by kernel_rfl) (by kernel_rfl) (by kernel_rfl) (by kernel_rfl) (fun _ _ _ h => h) (by rfl) ?_ (by assumption) ?_
      rotate_left
      · (intro w hSw; go_simp; try with_reducible rfl)
      try simp only [Act.put, List.setIfInBounds_toArray, List.set_cons_zero, List.set_cons_succ]
      refine take_w 7 (some 57) (v := ?_) (by kernel_rfl) (by kernel_rfl) (by kernel_rfl) (by kernel_rfl) (by kernel_rfl) (fun _ _ _ h => h) (by rfl) ?_ (by assumption) ?_
      rotate_left
      · (intro w hSw; go_simp; try with_reducible rfl)
      try simp only [Act.put, List.setIfInBounds_toArray, List.set_cons_zero, List.set_cons_succ]
      refine take_w 8 (some 58) (v := ?_) (by kernel_rfl) (by kernel_rfl) (by kernel_rfl) (by kernel_rfl) (by kernel_rfl) (fun _ _ _ h => h) (by rfl) ?_ (by assumption) ?_
      rotate_left
      · (intro w hSw; go_simp; try with_reducible rfl)
      try simp only [Act.put, List.setIfInBounds_toArray, List.set_cons_zero, List.set_cons_succ]
      refine take_w 9 (some 59) (v := ?_) (by kernel_rfl) (by kernel_rfl) (by kernel_rfl) (by kernel_rfl) (by kernel_rfl) (fun _ _ _ h => h) (by rfl) ?_ (by assumption) ?_
      rotate_left
      · (intro w hSw; go_simp; try with_reducible rfl)
      try simp only [Act.put, List.setIfInBounds_toArray, List.set_cons_zero, List.set_cons_succ]
      refine take_w 10 (some 60) (v := ?_) (by kernel_rfl) (by kernel_rfl) (by kernel_rfl) (by kernel_rfl) (by kernel_rfl) (fun _ _ _ h => h) (by rfl) ?_ (by assumption) ?_
      rotate_left
      · (intro w hSw; go_simp; try with_reducible rfl)
      try simp only [Act.put, List.setIfInBounds_toArray, List.set_cons_zero, List.set_cons_succ]
      refine take_w 11 (some 61) (v := ?_) (by kernel_rfl) (by kernel_rfl) (by kernel_rfl) (by kernel_rfl) (by kernel_rfl) (fun _ _ _ h => h) (by rfl) ?_ (by assumption) ?_
      rotate_left
      · (intro w hSw; go_simp; try with_reducible rfl)
      try simp only [Act.put, List.setIfInBounds_toArray, List.set_cons_zero, List.set_cons_succ]
      refine ready_two 6 12 (by kernel_rfl) (by kernel_rfl) (by kernel_rfl) (by rfl) (by rfl) (fun Kc hKc => ?_) (fun Kc hKc => ?_)
      case' refine_1 =>
        go_simp
        refine hKc.out _ _ trivial (fun _ => ?_)
        clear hKc Kc
        try simp only [Act.put, List.setIfInBounds_toArray, List.set_cons_zero, List.set_cons_succ]
        refine ready_one 12 (by kernel_rfl) (by kernel_rfl) (by rfl) (fun Kc hKc => ?_)
        go_simp
        refine hKc.out _ _ trivial (fun _ => ?_)
        clear hKc Kc
      case' refine_2 =>
        go_simp
        refine hKc.out _ _ trivial (fun _ => ?_)
        clear hKc Kc
        try simp only [Act.put, List.setIfInBounds_toArray, List.set_cons_zero, List.set_cons_succ]
        refine ready_one 6 (by kernel_rfl) (by kernel_rfl) (by rfl) (fun Kc hKc => ?_)
        go_simp
        refine hKc.out _ _ trivial (fun _ => ?_)
        clear hKc Kc
      all_goals
        try simp only [Act.put, List.setIfInBounds_toArray, List.set_cons_zero, List.set_cons_succ]
        have hEx : Ext wr ((wr.alloc (.cells #[.int .i64 (yk - 1)] 3)).drew) := ((Ext.refl wr).alloc _).drew
        have hOx := hEx.own HO.out
        have hRx := hEx.own HRw.out
        have hRg : ((wr.alloc (.cells #[.int .i64 (yk - 1)] 3)).drew).rangeAt wr.heap.size 0 [.int .i64 (yk - 1)] := (World.rangeAt_drew _ _ _ _).2 (rangeAt_new wr [.int .i64 (yk - 1)] 3)
        have hGx := grown_trans HG.out (grown_ext hEx (some g))
        have hEw := HE.out.trans hEx
        have hzx := hEx.size
        have hzw := HG.out.size
        generalize (wr.alloc (.cells #[.int .i64 (yk - 1)] 3)).drew = W5 at *
        have hsrc : Src Tryz.prog 1 22 (.slice (some ⟨wr.heap.size, 0, none⟩) 1 1) 1 [.int .i64 (yk - 1)] W5 := Src.ofSlice W5 Tryz.underlying22 _ _ _ _ (by simp) (fun j u hu => by rw [Addr.add_lit]; exact hRg j u hu) (by simp [Value.oneCell'])
        refine ready_one 13 (by kernel_rfl) (by kernel_rfl) (by rfl) (fun Kc hKc => ?_)
        refine wp_appendS (.tmp 56) (.tmp 62) 22 (by rfl) elemint_F Wi.heap.size (.slice aa k mc) k ((someA x k).map (Value.int .i64)) (by rfl) (by have := hOx; unfold OwnN at this; rw [hAl] at this; exact this) _ 1 [.int .i64 (yk - 1)] (by rfl) hsrc (by unfold maxLen; omega) (by omega) (by omega) ?_
        intro A5 C5 w6 hown hg6 hat
        refine hKc.out _ _ trivial (fun _ => ?_)
        clear hKc Kc
        have hnb : ∀ b, (Value.slice aa k mc).ownBlock = some b → Wi.heap.size ≤ b := fun b hb => (World.ownsRow.lt hOx b hb).1
        have hnb5 : ∀ b, (Value.slice A5 (k + 1) C5).ownBlock = some b → Wi.heap.size ≤ b := fun b hb => (World.ownsRow.lt hown b hb).1
        have hR6 := World.ownsRow.kept hRx hg6 (.inr (fun e => by have := hnb g e.symm; have := HGi.out; omega))
        have hG6 : Wi.grownBy w6 (some g) := grown_row' hGx hg6 hnb
        have hc6' : w6.cell? ⟨g, j * 16 + 6, none⟩ = some (.slice aa k mc) := by
          rw [World.ownsRow.cellAt hR6 (j * 16 + 6) (by omega), List.getElem?_set_self (by omega)]
        have hf6' : w6.frozen? ⟨g, j * 16 + 6, none⟩ = false := World.ownsRow.frozenAt hR6 _
        have hgs := setOne_grown w6 g (j * 16 + 6) (.slice A5 (k + 1) C5)
        have HGn := Lib.hid (grown_trans hG6 hgs)
        have HRn := Lib.hid (show (w6.setCell ⟨g, j * 16 + 6, none⟩ (.slice A5 (k + 1) C5)).ownsRow w.heap.size 38 16 (.slice (some ⟨g, 0, none⟩) LN C) LN (xs.set (j * 16 + 6) (.slice A5 (k + 1) C5)) by
          have := (hR6.stored (j * 16 + 6) (.slice A5 (k + 1) C5)).1
          rw [List.set_set] at this
          exact this)
        have HOn := Lib.hid (show OwnN 3 Wi.heap.size (w6.setCell ⟨g, j * 16 + 6, none⟩ (.slice A5 (k + 1) C5)) (.slice A5 (k + 1) C5) (someA x (k + 1)) from World.ownsRow.kept (by rw [HA.out]; simpa [hAl] using hown) hgs (.inr (fun e => by have := hnb5 g e; have := HGi.out; omega)))
        have HEn := Lib.hid (show Ext w (w6.setCell ⟨g, j * 16 + 6, none⟩ (.slice A5 (k + 1) C5)) from (hEw.grown hg6 (fun b hb => by have := hnb b hb; have := HG1.out; have := HGi.out; omega)).setCell (p := ⟨g, j * 16 + 6, none⟩) HG1.out _)
        clear hown hg6 hat hnb hnb5 hR6 hG6 hgs hOx hRx hRg hGx hEw hsrc hEx HG HRw HO HE hc6 hf6
        try simp only [Act.put, List.setIfInBounds_toArray]
        refine take_w 14 (some 64) (v := ?_) (by kernel_rfl) (by kernel_rfl) (by kernel_rfl) (by kernel_rfl) (by kernel_rfl) (fun _ _ _ h => h) (by rfl) ?_ (by assumption) ?_
        rotate_left
        · (intro w hSw; go_simp; try with_reducible rfl)
        try simp only [Act.put]
        refine take_w 15 (some 65) (v := ?_) (by kernel_rfl) (by kernel_rfl) (by kernel_rfl) (by kernel_rfl) (by kernel_rfl) (fun _ _ _ h => h) (by rfl) ?_ (by assumption) ?_
        rotate_left
        · (intro w hSw; go_simp; try with_reducible rfl)
        try simp only [Act.put]
        refine ready_one 16 (by kernel_rfl) (by kernel_rfl) (by rfl) (fun Kc hKc => ?_)
        go_simp
        refine hKc.out _ _ trivial (fun _ => ?_)
        clear hKc Kc
        try simp only [Act.put, List.setIfInBounds_toArray, List.set_cons_zero, List.set_cons_succ]
        refine wpAnyH_done (by kernel_rfl) ?_ _
        go_wp2_with fail
        go_roundw
        case rel => exact ⟨k + 1, A5, C5, by omega, by go_num, HGn, HRn, HOn, HEn⟩
        case measure => simp [intOf]; omega
end Go.Proofs.YtbciamploeejiaaGreatDoor

open Go.RowKit Go.Shelf
namespace Go.Proofs.YtbciamploeejiaaGreatDoor
open Go Go.Proofs Fm
attribute [local go_sem] Oper.semAt_some

theorem waitsI64 {l : List Nd} {w : World} {v : Value} (h : ndE.Row w l v) (i : Int) : ∀ x, x ∈ waitsF l i → isI64 x := fun x hx => by
  cases hp : placeF l i with
  | false => rw [waitsF_no hp] at hx; cases hx
  | true =>
    obtain ⟨p0, p1⟩ := placeF_both.1 hp
    obtain ⟨p, rfl⟩ : ∃ j : Nat, (j : Int) = i := ⟨i.toNat, by omega⟩
    have hi' : p < l.length := by omega
    obtain ⟨a, c, rfl, hc1, hc2⟩ := h.slice
    obtain ⟨b, off, rfl, hb, aa, ma, ca, kk, N, s, d, -, hnv⟩ := nd_at16 h (Ext.refl w) p hi'
    have hai : intE.Row w l[p].after (.slice aa ma ca) := by
      obtain ⟨a', m', c', k', N', S', d', e, h2, -⟩ := hnv
      injection e with e
      injection e with e
      simp only [ndCells, List.cons.injEq] at e
      rw [e.2.2.2.2.2.2.1]
      exact h2
    rw [← waitTo_all hi'] at hx
    have h1 := ((waitTo_both l l[p].after l[p].after.length (Nat.le_refl _)).2 x).1 hx
    have h2 := List.mem_of_mem_take ((List.mem_filter.1 h1).1)
    obtain ⟨q, hq, rfl⟩ := List.getElem_of_mem h2
    obtain ⟨-, -, -, -, -, h7⟩ := int_at hai (Ext.refl w) q hq
    exact h7
theorem rowI_of {W : World} {base : Nat} {u : Value} {zs : List Int} (h : OwnN 3 base W u zs) (hz : ∀ z, z ∈ zs → isI64 z) : ∃ A C, u = .slice A zs.length C ∧ intE.Row W zs (.slice A zs.length C) := by
  obtain ⟨A, C, rfl⟩ := ownsRow_sl h
  exact ⟨A, C, rfl, OwnN.row h hz⟩
theorem nextQ_some {l : List Nd} {k : Nat} {r : List Nat} (h : allQ l = k :: r) : nextQ l = (k : Int) := by unfold nextQ; rw [h]
set_option maxRecDepth 100000 in
set_option maxHeartbeats 8000000 in
theorem readyTells_any (w : World) (l : List Int) (v : Value) (h : intE.Row w l v) (a b : Int) (hw : KW w) :
    Calls Tryz.prog 3 #[v, .int .i64 a, .int .i64 b] w fun e w' => e = .returned (.bool true) ∧ Ext w w' := by
  have HS := Lib.hid (some_any l w v h)
  have HW := Lib.hid hw
  have HO := Lib.hid (someF_right l)
  have HLe := Lib.hid (someF_le l)
  have HId := Lib.hid (fun n (hn : n ∈ someF l) => (someF_mem hn).1)
  have HAf := Lib.hid (fun n (hn : n ∈ someF l) => (someF_mem hn).2)
  obtain ⟨F, hF⟩ : ∃ F, F = someF l := ⟨_, rfl⟩
  rw [← hF] at HS HO HLe HId HAf
  have hl1 : F.length ≤ 1000 := by have := HLe.out; omega
  clear h hw hF
  go_enter Tryz.func3, Tryz.ntmps3
  go_wp2_with fail
  refine HS.out.mono ?_
  rintro e w1 ⟨A, C, rfl, hh, hE1⟩
  have HR := Lib.hid hh.row
  have HE1 := Lib.hid hE1
  clear hh hE1 HS
  have HC1 := Lib.hid (rAll24_any F HO.out hl1 HId.out w1 _ HR.out)
  have HC2 := Lib.hid (fun X (hX : Ext w1 X) => next_any F HO.out hl1 HId.out X (HW.out.ext (HE1.out.trans hX)) _ (HR.out.ext hX))
  have HC3 := Lib.hid (fun X (hX : Ext w1 X) => ahead_any F HO.out (by omega) HId.out a b X (HW.out.ext (HE1.out.trans hX)) _ (HR.out.ext hX))
  have HC4 := Lib.hid (fun X (hX : Ext w1 X) => rAhead24_any F HO.out (by omega) HId.out a b X _ (HR.out.ext hX))
  have HC5 := Lib.hid (fun X (hX : Ext w1 X) => all_any F HO.out hl1 HId.out X (HW.out.ext (HE1.out.trans hX)) _ (HR.out.ext hX))
  have HC6 := Lib.hid (fun X (hX : Ext w1 X) => waits_any F HAf.out a X _ (HR.out.ext hX))
  have HC7 := Lib.hid (fun X (hX : Ext w1 X) => rWaits24_any F HAf.out a X _ (HR.out.ext hX))
  have HC8 := Lib.hid (fun X (hX : Ext w1 X) => wakes_any F hl1 HAf.out a X _ (HR.out.ext hX))
  have HC9 := Lib.hid (fun X (hX : Ext w1 X) => rWakes24_any F hl1 HAf.out a X _ (HR.out.ext hX))
  have HC10 := Lib.hid (fun X (hX : Ext w1 X) => awake24_any X (HW.out.ext (HE1.out.trans hX)))
  have iA : ∀ z, z ∈ natsI (allQ F) → isI64 z := natsI_i64 (n := 1000) (fun i hi => by have := ((allQ_mem F i).1 hi).1; omega) (by omega)
  have IA := Lib.hid iA
  have IW := Lib.hid (waitsI64 HR.out a)
  have IK : Hid (∀ z, z ∈ natsI (wakesF F a) → isI64 z) := Lib.hid (natsI_i64 (n := 1000) (fun i hi => by
    unfold wakesF at hi
    split at hi
    · have := List.mem_range.1 (List.mem_filter.1 hi).1; omega
    · cases hi) (by omega))
  have HNx := Lib.hid (fun (h : allQ F = []) => nextQ_no h)
  have HNs := Lib.hid (fun k r (h : allQ F = k :: r) => nextQ_some h)
  obtain ⟨LN, hLN⟩ : ∃ LN, LN = F.length := ⟨_, rfl⟩
  rw [← hLN] at HC1 HC2 HC3 HC4 HC5 HC6 HC7 HC8 HC9 ⊢
  clear iA HId HAf HLe HO hl1 hLN HR
  go_wp2_with fail
  refine HC1.out.mono ?_
  rintro e w2 ⟨v2, rfl, ho2, hE2⟩
  obtain ⟨A2, C2, rfl, hr2⟩ := rowI_of ho2 IA.out
  have HE2 := Lib.hid hE2
  have HR2 := Lib.hid hr2
  clear hE2 ho2 hr2 HC1
  go_wp2_with fail
  refine (HC2.out w2 HE2.out).mono ?_
  rintro e w3 ⟨rfl, hE3⟩
  have HE3 := Lib.hid (HE2.out.trans hE3)
  have HR3 := Lib.hid (HR2.out.ext hE3)
  clear hE3 HC2 HR2 HE2
  have hd : ((!(allQ F).isEmpty) = false ∧ (natsI (allQ F)).length = 0 ∧ nextQ F = 0) ∨ ((!(allQ F).isEmpty) = true ∧ ∃ k : Nat, 0 < (natsI (allQ F)).length ∧ (natsI (allQ F)).getD 0 0 = (k : Int) ∧ nextQ F = (k : Int)) := by
    cases hq : allQ F with
    | nil => exact .inl ⟨rfl, rfl, HNx.out hq⟩
    | cons k r => exact .inr ⟨rfl, k, by simp [natsI], rfl, HNs.out k r hq⟩
  obtain ⟨QL, hQL⟩ : ∃ QL, QL = natsI (allQ F) := ⟨_, rfl⟩
  have HQL := Lib.hid hQL
  obtain ⟨IS, hIS⟩ : ∃ IS, IS = !(allQ F).isEmpty := ⟨_, rfl⟩
  obtain ⟨NX, hNX⟩ : ∃ NX, NX = nextQ F := ⟨_, rfl⟩
  rw [← hQL, ← hIS, ← hNX] at hd
  rw [← hQL] at HR3 ⊢
  rw [← hIS, ← hNX]
  clear hQL hIS hNX
  obtain ⟨QN, hQN⟩ : ∃ QN, QN = QL.length := ⟨_, rfl⟩
  have HQN := Lib.hid hQN
  rw [← hQN] at hd HR3 ⊢
  have HD := Lib.hid hd
  clear hd hQN
  go_upto_region 4 with (fail)
  go_cut [42] from 20 to 42 (fun t wz => t = .bool false ∧ Hid (Ext w1 wz) ∧ Hid (intE.Row wz QL (.slice A2 QN C2)))
  case first =>
    rcases HD.out with ⟨h1, h2, h3⟩ | ⟨h1, k, h0, h2, h3⟩
    · subst h1 h2 h3
      go_wp2_with fail
      go_meet
      case rel => exact ⟨rfl, HE3, HR3⟩
    · obtain ⟨b0, o0, rfl, -, hc0, -⟩ := int_at HR3.out (Ext.refl w3) 0 (by have := HQN.out; omega)
      have h2 : QL[0]'(by have := HQN.out; omega) = (k : Int) := by rw [List.getD_eq_getElem?_getD, List.getElem?_eq_getElem (by have := HQN.out; omega), Option.getD_some] at h2; exact h2
      rw [h2, Nat.add_zero] at hc0
      have hp0 : (0 : Int) < (QN : Int) := by omega
      subst h1 h3
      clear h2
      have hkk : ((k : Int) != (k : Int)) = false := by simp
      go_wp2_with fail
      go_meet
      case rel => exact ⟨rfl, HE3, HR3⟩
  case rest =>
  obtain ⟨rfl, HEc, HRc⟩ := hcut
  have HRc := Lib.hid (show intE.Row wc (natsI (allQ F)) (.slice A2 QN C2) by rw [← HQL.out]; exact HRc.out)
  rename World => W4
  apply_assumption
  clear HE3 HR3
  go_wp2_with fail
  refine (HC3.out W4 HEc.out).mono ?_
  rintro e w5 ⟨rfl, hE5⟩
  have HE5 := Lib.hid (HEc.out.trans hE5)
  have HR5 := Lib.hid (HRc.out.ext hE5)
  clear hE5 HC3 HEc HRc
  go_wp2_with fail
  refine (HC4.out w5 HE5.out).mono ?_
  rintro e w6 ⟨rfl, hE6⟩
  have HE6 := Lib.hid (HE5.out.trans hE6)
  have HR6 := Lib.hid (HR5.out.ext hE6)
  clear hE6 HC4 HE5 HR5
  generalize aheadF F a b = ab at *
  have hab : (ab == ab) = true := by simp
  go_wp2_with fail
  refine (HC5.out w6 HE6.out).mono ?_
  rintro e w7 ⟨v7, rfl, ho7, hE7⟩
  obtain ⟨A7, C7, rfl, hr7⟩ := rowI_of ho7 IA.out
  have HE7 := Lib.hid (HE6.out.trans hE7)
  have HR7 := Lib.hid (HR6.out.ext hE7)
  have HQ7 := Lib.hid hr7
  clear hE7 HC5 HE6 HR6 ho7 hr7
  go_wp2_with fail
  refine (ints16_any _ _ w7 _ _ HQ7.out HR7.out).mono ?_
  rintro e w8 ⟨rfl, hE8⟩
  rw [decide_eq_true (rfl : natsI (allQ F) = natsI (allQ F))]
  have HE8 := Lib.hid (HE7.out.trans hE8)
  clear hE8 HE7 HR7 HQ7
  go_wp2_with fail
  refine (HC6.out w8 HE8.out).mono ?_
  rintro e w9 ⟨v9, rfl, ho9, hE9⟩
  obtain ⟨A9, C9, rfl, hr9⟩ := rowI_of ho9 IW.out
  have HE9 := Lib.hid (HE8.out.trans hE9)
  have HR9 := Lib.hid hr9
  clear hE9 HC6 HE8 ho9 hr9
  go_wp2_with fail
  refine (HC7.out w9 HE9.out).mono ?_
  rintro e w10 ⟨v10, rfl, ho10, hE10⟩
  obtain ⟨A10, C10, rfl, hr10⟩ := rowI_of ho10 IW.out
  have HE10 := Lib.hid (HE9.out.trans hE10)
  have HR10 := Lib.hid (HR9.out.ext hE10)
  have HQ10 := Lib.hid hr10
  clear hE10 HC7 HE9 HR9 ho10 hr10
  go_wp2_with fail
  refine (ints16_any _ _ w10 _ _ HR10.out HQ10.out).mono ?_
  rintro e w11 ⟨rfl, hE11⟩
  rw [decide_eq_true (rfl : waitsF F a = waitsF F a)]
  have HE11 := Lib.hid (HE10.out.trans hE11)
  clear hE11 HE10 HR10 HQ10
  go_wp2_with fail
  refine (HC8.out w11 HE11.out).mono ?_
  rintro e w12 ⟨v12, rfl, ho12, hE12⟩
  obtain ⟨A12, C12, rfl, hr12⟩ := rowI_of ho12 IK.out
  have HE12 := Lib.hid (HE11.out.trans hE12)
  have HR12 := Lib.hid hr12
  clear hE12 HC8 HE11 ho12 hr12
  go_wp2_with fail
  refine (HC9.out w12 HE12.out).mono ?_
  rintro e w13 ⟨v13, rfl, ho13, hE13⟩
  obtain ⟨A13, C13, rfl, hr13⟩ := rowI_of ho13 IK.out
  have HE13 := Lib.hid (HE12.out.trans hE13)
  have HR13 := Lib.hid (HR12.out.ext hE13)
  have HQ13 := Lib.hid hr13
  clear hE13 HC9 HE12 HR12 ho13 hr13
  go_wp2_with fail
  refine (ints16_any _ _ w13 _ _ HR13.out HQ13.out).mono ?_
  rintro e w14 ⟨rfl, hE14⟩
  rw [decide_eq_true (rfl : natsI (wakesF F a) = natsI (wakesF F a))]
  have HE14 := Lib.hid (HE13.out.trans hE14)
  clear hE14 HE13 HR13 HQ13
  go_wp2_with fail
  refine (HC10.out w14 HE14.out).mono ?_
  rintro e w15 ⟨rfl, hE15⟩
  have HE15 := Lib.hid (HE1.out.trans (HE14.out.trans hE15))
  clear hE15
  go_wp2
  go_ret
  exact ⟨rfl, HE15.out⟩
end Go.Proofs.YtbciamploeejiaaGreatDoor

open Go.RowKit Go.Shelf
namespace Go.Proofs.YtbciamploeejiaaGreatDoor
open Go Go.Proofs Fm

theorem errAt_of {W : World} {n : String} {g g' : Nat} {t : TypeId} {cs : Array Value} {f : Nat} {nm : String} {d : DataW Unit} {p : List MemPlace} (hn : Tryz.prog.globalNamed n = some g') (hty : (Tryz.prog.globals[g']?).map (·.type) = some 123)
    (hg : Tryz.prog.globalNamed n = some g) (ht : (Tryz.prog.globals[g]?).map (·.type) = some t) (hv : W.var? Tryz.prog n = some cs) (hd : DataW.trod (fun _ => ()) Tryz.prog W 0 (fun _ => true) false f t cs.toList = some (.iface nm d, p)) : ErrAt W g' := by
  obtain rfl := Option.some.inj (hn.symm.trans hg)
  obtain rfl := Option.some.inj (hty.symm.trans ht)
  obtain ⟨l⟩ := cs
  obtain ⟨f1, u, v, e, _, _⟩ := iface_of_trod Tryz.underlying123 hd
  subst e
  exact ⟨_, by simpa using World.var?_cell hg hv 0, .inr ⟨u, v, rfl⟩⟩
theorem kw_of {W : World} {g1 g2 g3 : Nat} {t1 t2 t3 : TypeId} {c1 c2 c3 : Array Value} {f1 f2 f3 : Nat} {nm2 nm3 : String} {d2 d3 : DataW Unit} {p1 p2 p3 : List MemPlace}
    (hg1 : Tryz.prog.globalNamed "internal/strconv.uint64pow10" = some g1) (ht1 : (Tryz.prog.globals[g1]?).map (·.type) = some t1) (hv1 : W.var? Tryz.prog "internal/strconv.uint64pow10" = some c1) (hd1 : DataW.trod (fun _ => ()) Tryz.prog W 0 (fun _ => true) false f1 t1 c1.toList = some (Lib.tabData .u64 Lib.pow10Tab, p1))
    (hg2 : Tryz.prog.globalNamed "strconv.ErrSyntax" = some g2) (ht2 : (Tryz.prog.globals[g2]?).map (·.type) = some t2) (hv2 : W.var? Tryz.prog "strconv.ErrSyntax" = some c2) (hd2 : DataW.trod (fun _ => ()) Tryz.prog W 0 (fun _ => true) false f2 t2 c2.toList = some (.iface nm2 d2, p2))
    (hg3 : Tryz.prog.globalNamed "strconv.ErrRange" = some g3) (ht3 : (Tryz.prog.globals[g3]?).map (·.type) = some t3) (hv3 : W.var? Tryz.prog "strconv.ErrRange" = some c3) (hd3 : DataW.trod (fun _ => ()) Tryz.prog W 0 (fun _ => true) false f3 t3 c3.toList = some (.iface nm3 d3, p3)) : KW W := by
  refine ⟨?_, errAt_of (by kernel_rfl) (by kernel_rfl) hg2 ht2 hv2 hd2, errAt_of (by kernel_rfl) (by kernel_rfl) hg3 ht3 hv3 hd3⟩
  have hg : Tryz.prog.globalNamed "internal/strconv.uint64pow10" = some 5 := by kernel_rfl
  have hty : (Tryz.prog.globals[5]?).map (·.type) = some 179 := by kernel_rfl
  obtain rfl := Option.some.inj (hg.symm.trans hg1)
  obtain rfl := Option.some.inj (hty.symm.trans ht1)
  unfold Tab Lib.TabIs
  rw [hv1]
  congr 1
  have h := Lib.cells_of_tab Tryz.underlying179 Tryz.underlying104 (by kernel_rfl) (by kernel_rfl) hd1
  rw [← h]
end Go.Proofs.YtbciamploeejiaaGreatDoor

namespace Fm
open Go Go.RowKit
end Fm
namespace Go.Proofs.YtbciamploeejiaaGreatDoor
open Go Go.Proofs Fm Go.RowKit Go.ChangeShapes Go.WideShapes Go.ChangeAt
theorem cells_intN : Tryz.prog.cellsOf 3 = 1 := by kernel_rfl
theorem reads_intsN : (rowE intE).Reads Tryz.prog 22 := reads_slice Tryz.underlying22 cells_intN (reads_int Tryz.underlying3) (by decide)
end Go.Proofs.YtbciamploeejiaaGreatDoor
