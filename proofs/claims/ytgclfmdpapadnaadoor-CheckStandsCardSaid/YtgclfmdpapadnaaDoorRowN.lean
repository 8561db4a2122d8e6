/- Rows of numbers and of values out of a row's reading. -/
import Derived.Test.YtgclfmdpapadnaaDoorFr
import Derived.Test.YtgclfmdpapadnaaDoorVaA
import Derived.WalkLawsBesides
import Derived.Deep.RegionWith
import Derived.Deep.RegionLaw
import Derived.Test.YtgclfmdpapadnaaDoorPlCl
import Derived.Deep.Cut
import Derived.Test.YtgclfmdpapadnaaDoorPlQ
import Derived.Maps.OwnSet
import Derived.Maps.OwnOps
import Derived.Maps.Views
import Derived.Test.YtgclfmdpapadnaaDoorProg
import Derived.ProofKit
import Derived.OpenShut
import Derived.ShutString
import Derived.ChangeOld
open Go.RowKit Go.Shelf
namespace Fm
open Go Go.RowKit
theorem ndV_name {w : World} {n : Nd} {C : List Value} (h : NdV w n (.agg C.toArray)) {s : List UInt8} (hs : s.length ≤ 9223372036854775807) : NdV w { n with name := s } (.agg (C.set 1 (.string (str s))).toArray) := by
  obtain ⟨a, m, c, k, N, S, d, e, h1, h2, h3, h4, h5, h6, h7, h8, h9, h10, h11⟩ := h
  injection e with e
  injection e with e
  subst e
  exact ⟨a, m, c, k, N, S, d, rfl, h1, h2, h3, hs, h5, h6, h7, h8, h9, h10, h11⟩
end Fm
namespace Go.Proofs.YtgclfmdpapadnaaDoor
open Go Go.Proofs Fm
attribute [local go_sem] Oper.semAt_some

theorem nameStr {k : Nat} (h : k < 7) : Utf8.encode (97 + (k : Int) % 5) = str [UInt8.ofNat (97 + k % 5)] := by
  have : ∀ k : Fin 7, Utf8.encode (97 + ((k.val : Nat) : Int) % 5) = str [UInt8.ofNat (97 + k.val % 5)] := by decide
  exact this ⟨k, h⟩
set_option maxRecDepth 100000 in
set_option maxHeartbeats 4000000 in
theorem named_any (l : List Int) (w : World) (v : Value) (h : intE.Row w l v) :
    Calls Tryd.prog 28 #[v] w fun e w' => ∃ v', e = .returned v' ∧ FreeN 50 w.heap.size w' v' (namedF l) ∧ Ext w w' := by
  have HR := Lib.hid h
  have HC := Lib.hid (forest_any l w v h)
  obtain ⟨a, c, rfl, hc1, hc2⟩ := h.slice
  obtain ⟨LN, hLN⟩ : ∃ LN, LN = min l.length 60 := ⟨_, rfl⟩
  have hL60 : LN ≤ 60 := by omega
  have HLl := Lib.hid (show LN ≤ l.length by omega)
  have HLN := Lib.hid (show (forestF l).length = LN by rw [forestF_len, hLN])
  clear h hLN
  go_enter Tryd.func28, Tryd.ntmps28
  go_wp2_with fail
  refine HC.out.mono ?_
  rintro e w1 ⟨v1, rfl, hO, hE⟩
  obtain ⟨A, C, rfl⟩ := hO.slice
  rw [HLN.out] at hO ⊢
  have HO := Lib.hid hO
  have HE := Lib.hid hE
  clear HC hO hE
  go_wp2_with fail
  go_loopw [10] (fun i wr => ∃ j : Nat, j ≤ LN ∧ i = .int .i64 j ∧ Hid (Ext w wr) ∧ Hid (FreeN 50 w.heap.size wr (.slice A LN C) (chgTo (nameG l) (forestF l) j))) (fun i _ => LN - (intOf i).toNat)
  case atStart => exact ⟨0, by omega, rfl, HE, Lib.hid (by rw [chgTo_zero]; exact HO.out)⟩
  case round =>
    clear HO HE
    obtain ⟨j, hj, rfl, HE, HO⟩ := hrel
    by_cases hlt : j < LN
    case neg =>
      have HX := Lib.hid (show chgTo (nameG l) (forestF l) j = namedF l by unfold namedF; rw [show j = (forestF l).length by have := HLN.out; omega, chgTo_all])
      go_wp2
      go_ret
      exact ⟨_, rfl, by rw [← HX.out]; exact HO.out, HE.out⟩
    have hjl : j < l.length := by have := HLl.out; omega
    have hjf : j < (forestF l).length := by have := HLN.out; omega
    have hlen : (chgTo (nameG l) (forestF l) j).length = LN := by rw [chgTo_len, HLN.out]
    obtain ⟨g, cap, hA, hg1, hg2⟩ := HO.out.form (by omega)
    rw [hlen] at hA
    injection hA with hA1 hA2 hA3
    subst hA1 hA3
    have hO := HO.out.relen hlen.symm
    obtain ⟨⟨u, q1⟩, q2⟩ := hO.spot (show j < (chgTo (nameG l) (forestF l) j).length by omega) 1 (by omega)
    obtain ⟨b, off, rfl, hb, hcell, hi6⟩ := int_at HR.out HE.out j hjl
    have hj0 : (0 : Int) ≤ (j : Int) := by omega
    have hj1 : (j : Int) < (LN : Int) := by omega
    have hj2 : (j : Int) < (l.length : Int) := by omega
    obtain ⟨x, hx⟩ : ∃ x, x = l[j] := ⟨_, rfl⟩
    have hxd : l.getD j 0 = x := by rw [List.getD_eq_getElem?_getD, List.getElem?_eq_getElem hjl, Option.getD_some, hx]
    rw [← hx] at hcell hi6
    clear hx
    obtain ⟨k, hk⟩ : ∃ k : Nat, (k : Int) = x / 512 % 8 := ⟨(x / 512 % 8).toNat, by have := Int.emod_nonneg (x / 512) (show (8 : Int) ≠ 0 by decide); omega⟩
    have hb1 : bits BinOp.and IntKind.i64 (x / 512) 7 = (k : Int) := by rw [and7, hk]
    have hk8 : k < 8 := by have := Int.emod_lt_of_pos (x / 512) (show (0 : Int) < 8 by decide); omega
    have HOO := Lib.hid hO
    clear hO
    by_cases hk7 : k < 7
    · have hk7' : (k : Int) < 7 := by omega
      have HSt := Lib.hid (nameStr hk7)
      have HG := Lib.hid (show chgTo (nameG l) (forestF l) (j + 1) = (chgTo (nameG l) (forestF l) j).set j { (chgTo (nameG l) (forestF l) j)[j] with name := [UInt8.ofNat (97 + k % 5)] } by
        rw [chgTo_succ _ _ _ hjf, chgTo_at _ _ _ (by omega) hjf]
        unfold nameG
        rw [hxd, ← hk, if_pos hk7', show ((k : Int) % 5).toNat = k % 5 by omega])
      have HP := Lib.hid (HOO.out.put (show j < (chgTo (nameG l) (forestF l) j).length by omega) 1 (by omega) (.string (str [UInt8.ofNat (97 + k % 5)])) _ (fun w' C h => ndV_name h (s := [UInt8.ofNat (97 + k % 5)]) (by simp)))
      have HE5 := Lib.hid (HE.out.setCell (p := ⟨g, j * 16 + 1, none⟩) hg1 (.string (str [UInt8.ofNat (97 + k % 5)])))
      have HO5 := Lib.hid (show FreeN 50 w.heap.size (wr.setCell ⟨g, j * 16 + 1, none⟩ (.string (str [UInt8.ofNat (97 + k % 5)]))) (.slice (some ⟨g, 0, none⟩) LN C) (chgTo (nameG l) (forestF l) (j + 1)) by
        rw [HG.out]
        exact HP.out.1.relen hlen)
      rw [← HSt.out] at HE5 HO5
      clear hk hxd HP HG HSt
      go_wp2_with fail
      go_roundw
      case rel => exact ⟨j + 1, by omega, by go_num, HE5, HO5⟩
      case measure => simp [intOf]; omega
    · have HG := Lib.hid (show chgTo (nameG l) (forestF l) (j + 1) = chgTo (nameG l) (forestF l) j from chgTo_same _ _ _ hjf (by unfold nameG; rw [hxd, ← hk, if_neg (by omega)]))
      have hk7' : ¬ ((k : Int) < 7) := by omega
      clear q1 q2 hxd hk hk7
      go_wp2_with fail
      go_roundw
      case rel => exact ⟨j + 1, by omega, by go_num, HE, Lib.hid (by rw [HG.out]; exact HO.out)⟩
      case measure => simp [intOf]; omega
set_option maxRecDepth 100000 in
set_option maxHeartbeats 4000000 in
theorem owned_any (l : List Int) (q : Int) (w : World) (v : Value) (h : intE.Row w l v) :
    Calls Tryd.prog 12 #[v, .int .i64 q] w fun e w' => ∃ v', e = .returned (.tuple #[v', .int .i64 (ownerF l q)]) ∧ FreeN 50 w.heap.size w' v' (ownedF l) ∧ Ext w w' := by
  have HR := Lib.hid h
  have HC := Lib.hid (named_any l w v h)
  obtain ⟨a, c, rfl, hc1, hc2⟩ := h.slice
  obtain ⟨LN, hLN⟩ : ∃ LN, LN = min l.length 60 := ⟨_, rfl⟩
  have hL60 : LN ≤ 60 := by omega
  have HLl := Lib.hid (show LN ≤ l.length by omega)
  have HLN := Lib.hid (show (namedF l).length = LN by rw [namedF_len, hLN])
  have HQ := Lib.hid (show ownerF l q = q % 18446744073709551616 % ((LN : Int) + 1) - 1 by unfold ownerF; rw [← hLN])
  have HV := Lib.hid (show wrap64 (wrap64 ((IntKind.u64.wrap q).tmod ((LN : Int) + 1)) - 1) = ownerF l q by
    rw [HQ.out, IntKind.wrap_u64]
    have h0 : 0 ≤ q % 18446744073709551616 := Int.emod_nonneg _ (by decide)
    rw [Int.tmod_eq_emod_of_nonneg h0]
    have h1 := Int.emod_nonneg (q % 18446744073709551616) (show (LN : Int) + 1 ≠ 0 by omega)
    have h2 := Int.emod_lt_of_pos (q % 18446744073709551616) (show (0 : Int) < (LN : Int) + 1 by omega)
    rw [IntWalk.wrap64_in (q % 18446744073709551616 % ((LN : Int) + 1)) (by omega), IntWalk.wrap64_in _ (by omega)])
  clear h hLN
  go_enter Tryd.func12, Tryd.ntmps12
  go_wp2_with fail
  refine HC.out.mono ?_
  rintro e w1 ⟨v1, rfl, hO, hE⟩
  obtain ⟨A, C, rfl⟩ := hO.slice
  rw [HLN.out] at hO ⊢
  have HO := Lib.hid hO
  have HE := Lib.hid hE
  clear HC hO hE
  go_wp2_with fail
  go_loopw [13] (fun i wr => ∃ j : Nat, j ≤ LN ∧ i = .int .i64 j ∧ Hid (Ext w wr) ∧ Hid (FreeN 50 w.heap.size wr (.slice A LN C) (chgTo (ownedG l) (namedF l) j))) (fun i _ => LN - (intOf i).toNat)
  case atStart => exact ⟨0, by omega, rfl, HE, Lib.hid (by rw [chgTo_zero]; exact HO.out)⟩
  case round =>
    clear HO HE
    obtain ⟨j, hj, rfl, HE, HO⟩ := hrel
    by_cases hlt : j < LN
    case neg =>
      have HX := Lib.hid (show chgTo (ownedG l) (namedF l) j = ownedF l by unfold ownedF; rw [show j = (namedF l).length by have := HLN.out; omega, chgTo_all])
      go_wp2_with fail
      go_region
      go_wp2
      go_ret2
      exact ⟨.slice A LN C, by rw [HV.out]; rfl, by rw [← HX.out]; exact HO.out.ext (Ext.refl wr).drew, HE.out.drew⟩
    have hjl : j < l.length := by have := HLl.out; omega
    have hjf : j < (namedF l).length := by have := HLN.out; omega
    have hlen : (chgTo (ownedG l) (namedF l) j).length = LN := by rw [chgTo_len, HLN.out]
    obtain ⟨g, cap, hA, hg1, hg2⟩ := HO.out.form (by omega)
    rw [hlen] at hA
    injection hA with hA1 hA2 hA3
    subst hA1 hA3
    have hO := HO.out.relen hlen.symm
    obtain ⟨⟨u, q1⟩, q2⟩ := hO.spot (show j < (chgTo (ownedG l) (namedF l) j).length by omega) 2 (by omega)
    obtain ⟨⟨u', q3⟩, q4⟩ := hO.spot (show j < (chgTo (ownedG l) (namedF l) j).length by omega) 7 (by omega)
    obtain ⟨b, off, rfl, hb, hcell, hi6⟩ := int_at HR.out HE.out j hjl
    have hj0 : (0 : Int) ≤ (j : Int) := by omega
    have hj1 : (j : Int) < (LN : Int) := by omega
    have hj2 : (j : Int) < (l.length : Int) := by omega
    obtain ⟨x, hx⟩ : ∃ x, x = l[j] := ⟨_, rfl⟩
    have hxd : l.getD j 0 = x := by rw [List.getD_eq_getElem?_getD, List.getElem?_eq_getElem hjl, Option.getD_some, hx]
    rw [← hx] at hcell hi6
    clear hx
    have hb1 : bits BinOp.and IntKind.i64 (x / 32) 3 = x / 32 % 4 := and3 _
    obtain ⟨wd, hwd⟩ : ∃ wd, wd = x / 128 % 8 := ⟨_, rfl⟩
    have hb2 : bits BinOp.and IntKind.i64 (x / 128) 7 = wd := by rw [and7, hwd]
    have hwi : isI64 wd := by
      have h1 := Int.emod_nonneg (x / 128) (show (8 : Int) ≠ 0 by decide)
      have h2 := Int.emod_lt_of_pos (x / 128) (show (0 : Int) < 8 by decide)
      unfold isI64; omega
    have HOO := Lib.hid hO
    have HWI := Lib.hid hwi
    clear hO hwi
    obtain ⟨kk, hkk⟩ : ∃ kk, kk = x / 32 % 4 := ⟨_, rfl⟩
    rw [← hkk] at hb1
    by_cases hk0 : kk = 0
    · have t0 : (kk == 0) = true := by simp [hk0]
      have HG := Lib.hid (show chgTo (ownedG l) (namedF l) (j + 1) = (chgTo (ownedG l) (namedF l) j).set j { (chgTo (ownedG l) (namedF l) j)[j] with kind := 1, width := wd } by
        rw [chgTo_succ _ _ _ hjf, chgTo_at _ _ _ (by omega) hjf]
        unfold ownedG
        rw [hxd, ← hkk, if_pos hk0, ← hwd])
      have HP := Lib.hid (HOO.out.put (show j < (chgTo (ownedG l) (namedF l) j).length by omega) 2 (by omega) (.int .u8 1) _ (fun w' C h => ndV_kind h 1))
      have hlen2 : ((chgTo (ownedG l) (namedF l) j).set j { (chgTo (ownedG l) (namedF l) j)[j] with kind := 1 }).length = LN := by rw [List.length_set]; exact hlen
      have HP2 := Lib.hid ((HP.out.1.relen (hlen.trans hlen2.symm)).put (show j < ((chgTo (ownedG l) (namedF l) j).set j { (chgTo (ownedG l) (namedF l) j)[j] with kind := 1 }).length by omega) 7 (by omega) (.int .i64 wd) _ (fun w' C h => ndV_width h HWI.out))
      have HE5 := Lib.hid ((HE.out.setCell (p := ⟨g, j * 16 + 2, none⟩) hg1 (.int .u8 1)).setCell (p := ⟨g, j * 16 + 7, none⟩) hg1 (.int .i64 wd))
      have HO5 := Lib.hid (show FreeN 50 w.heap.size ((wr.setCell ⟨g, j * 16 + 2, none⟩ (.int .u8 1)).setCell ⟨g, j * 16 + 7, none⟩ (.int .i64 wd)) (.slice (some ⟨g, 0, none⟩) LN C) (chgTo (ownedG l) (namedF l) (j + 1)) by
        have h := HP2.out.1.relen hlen2
        rw [List.set_set, List.getElem_set_self] at h
        rw [HG.out]
        exact h)
      clear hkk hxd HP HP2 HG hk0 hwd
      go_wp2_with fail
      go_roundw
      case rel => exact ⟨j + 1, by omega, by go_num, HE5, HO5⟩
      case measure => simp [intOf]; omega
    · have t0 : (kk == 0) = false := by simp [hk0]
      have HG := Lib.hid (show chgTo (ownedG l) (namedF l) (j + 1) = chgTo (ownedG l) (namedF l) j from chgTo_same _ _ _ hjf (by unfold ownedG; rw [hxd, ← hkk, if_neg hk0]))
      clear q1 q2 q3 q4 hxd hkk hk0 hwd
      go_wp2_with fail
      go_roundw
      case rel => exact ⟨j + 1, by omega, by go_num, HE, Lib.hid (by rw [HG.out]; exact HO.out)⟩
      case measure => simp [intOf]; omega
end Go.Proofs.YtgclfmdpapadnaaDoor

open Go.RowKit Go.Shelf
namespace Go.Proofs.YtgclfmdpapadnaaDoor
open Go Go.Proofs Fm

end Go.Proofs.YtgclfmdpapadnaaDoor

/- Walks: Right, Bytes. -/
open Go.RowKit Go.Shelf
namespace Go.Proofs.YtgclfmdpapadnaaDoor
open Go Go.Proofs Fm

end Go.Proofs.YtgclfmdpapadnaaDoor

/- Walks: the reader's num and text. -/
open Go.RowKit Go.Shelf
namespace Go.Proofs.YtgclfmdpapadnaaDoor
open Go Go.Proofs Fm

/-- The reader in block R: what is left, and how much room. -/
structure RdAt (w0 w : World) (R : Nat) (v : Value) (xs : List UInt8) (m : Int) : Prop where
  ext : Ext w0 w
  old : w0.heap.size ≤ R
  lt : R < w.heap.size
  c0 : w.cell? ⟨R, 0, none⟩ = some v
  c1 : w.cell? ⟨R, 1, none⟩ = some (.int .i64 m)
  f0 : w.frozen? ⟨R, 0, none⟩ = false
  f1 : w.frozen? ⟨R, 1, none⟩ = false
  bytes : Bytes w0 v xs
theorem RdAt.kept {w0 w w' : World} {R : Nat} {v : Value} {xs : List UInt8} {m : Int} (h : RdAt w0 w R v xs m) {row : Option Nat} (hg : w.grownBy w' row) (hr : ∀ k, row = some k → w0.heap.size ≤ k ∧ k ≠ R) : RdAt w0 w' R v xs m := by
  have hne : some R ≠ row := fun e => (hr R e.symm).2 rfl
  exact ⟨h.ext.grown hg (fun k hk => (hr k hk).1), h.old, Nat.lt_of_lt_of_le h.lt hg.size, (hg.cell_far ⟨R, 0, none⟩ h.lt hne).trans h.c0, (hg.cell_far ⟨R, 1, none⟩ h.lt hne).trans h.c1,
    (hg.frozen_far ⟨R, 0, none⟩ h.lt hne).trans h.f0, (hg.frozen_far ⟨R, 1, none⟩ h.lt hne).trans h.f1, h.bytes⟩
theorem RdAt.then {w0 w w' : World} {R : Nat} {v : Value} {xs : List UInt8} {m : Int} (h : RdAt w0 w R v xs m) (hE : Ext w w') : RdAt w0 w' R v xs m := h.kept hE.grownBy (fun k hk => by cases hk)
end Go.Proofs.YtgclfmdpapadnaaDoor

/- Walks: the reader's value. -/
open Go.RowKit Go.Shelf
namespace Go.Proofs.YtgclfmdpapadnaaDoor
open Go Go.Proofs Fm

/-- A struct of four cells in a block of its own. -/
def Box4 (w : World) (b : Nat) (c0 c1 c2 c3 : Value) : Prop := w.heap[b]? = some (.cells #[c0, c1, c2, c3] 48 (0, 0))
theorem Box4.new (w : World) (c0 c1 c2 c3 : Value) : Box4 (w.alloc (.cells #[c0, c1, c2, c3] 48)) w.heap.size c0 c1 c2 c3 := heap_alloc_new w _
theorem Box4.lt {w : World} {b : Nat} {c0 c1 c2 c3 : Value} (h : Box4 w b c0 c1 c2 c3) : b < w.heap.size := (Array.getElem?_eq_some_iff.1 h).1
theorem Box4.kept {w w' : World} {b : Nat} {c0 c1 c2 c3 : Value} (h : Box4 w b c0 c1 c2 c3) {row : Option Nat} (hg : w.grownBy w' row) (hr : row ≠ some b) : Box4 w' b c0 c1 c2 c3 := (hg.block b h.lt (fun e => hr e.symm)).trans h
theorem Box4.ext {w w' : World} {b : Nat} {c0 c1 c2 c3 : Value} (h : Box4 w b c0 c1 c2 c3) (hE : Ext w w') : Box4 w' b c0 c1 c2 c3 := (hE.block b h.lt).trans h
theorem Box4.cells {w : World} {b : Nat} {c0 c1 c2 c3 : Value} (h : Box4 w b c0 c1 c2 c3) : w.cell? ⟨b, 0, none⟩ = some c0 ∧ w.cell? ⟨b, 1, none⟩ = some c1 ∧ w.cell? ⟨b, 2, none⟩ = some c2 ∧ w.cell? ⟨b, 3, none⟩ = some c3 := by
  unfold Box4 at h
  refine ⟨?_, ?_, ?_, ?_⟩ <;> simp [World.cell?, h]
theorem Box4.frozen {w : World} {b : Nat} {c0 c1 c2 c3 : Value} (h : Box4 w b c0 c1 c2 c3) : w.frozen? ⟨b, 0, none⟩ = false ∧ w.frozen? ⟨b, 1, none⟩ = false ∧ w.frozen? ⟨b, 2, none⟩ = false ∧ w.frozen? ⟨b, 3, none⟩ = false := by
  unfold Box4 at h
  refine ⟨?_, ?_, ?_, ?_⟩ <;> simp [World.frozen?, h]
end Go.Proofs.YtgclfmdpapadnaaDoor

open Go.RowKit Go.Shelf
namespace Go.Proofs.YtgclfmdpapadnaaDoor
open Go Go.Proofs Fm

theorem grown_row {a b c : World} {r1 row : Option Nat} (h : a.grownBy b r1) (k : b.grownBy c row) (hr : ∀ x, row = some x → a.heap.size ≤ x) : a.grownBy c r1 :=
  ⟨k.os.trans h.os, k.tape.trans h.tape, k.output.trans h.output, Nat.le_trans h.size k.size,
    fun i hi hne => (k.block i (Nat.lt_of_lt_of_le hi h.size) (fun e => by have := hr i e.symm; omega)).trans (h.block i hi hne)⟩
end Go.Proofs.YtgclfmdpapadnaaDoor

open Go.RowKit Go.Shelf
namespace Go.Proofs.YtgclfmdpapadnaaDoor
open Go Go.Proofs Fm

end Go.Proofs.YtgclfmdpapadnaaDoor

/- Walks: frag's reader: many texts. -/
open Go.RowKit Go.Shelf
namespace Go.Proofs.YtgclfmdpapadnaaDoor
open Go Go.Proofs Fm

end Go.Proofs.YtgclfmdpapadnaaDoor

/- Walks: frag's reader: an item. -/
open Go.RowKit Go.Shelf
namespace Go.Proofs.YtgclfmdpapadnaaDoor
open Go Go.Proofs Fm

theorem _root_.Fm.OwnS.far {e : TypeId} {base : Nat} {w : World} {v : Value} {l : List (List UInt8)} (h : OwnS e base w v l) {B : Nat} (hB : B < base) (j : Nat) (u : Value) : OwnS e base (w.setCell ⟨B, j, none⟩ u) v l :=
  h.kept (setOne_grown w B j u) (fun b hb e => by injection e with e; have := (h.block b hb).1; omega)
end Go.Proofs.YtgclfmdpapadnaaDoor

/- Walks: frag's reader: many items; Take, Parse. -/
open Go.RowKit Go.Shelf
namespace Go.Proofs.YtgclfmdpapadnaaDoor
open Go Go.Proofs Fm

end Go.Proofs.YtgclfmdpapadnaaDoor

open Go.RowKit Go.Shelf
namespace Go.Proofs.YtgclfmdpapadnaaDoor
open Go Go.Proofs Fm

theorem row_one_it (w : World) {x : It} {d : Value} {b : Nat} {e : TypeId} {fr : Nat × Nat} (hb : w.heap[b]? = some (.cells (itCells x d).toArray e fr)) (hd : strE.Row w x.after d) (hw : itWf x) : itE.Row w [x] (.slice (some ⟨b, 0, none⟩) 1 1) := by
  refine Elem.Row.mk rfl (by simp) (by simp [maxLen]) (Array.getElem?_eq_some_iff.1 hb).1 (fun i hi => ⟨fun j => (itCells x d).getD j .nilFunc, ?_, fun j hj => ?_⟩)
  · have : i = 0 := by simp at hi; omega
    subst this
    exact ⟨rfl, rfl, hd, rfl, rfl, rfl, hw⟩
  · have : i = 0 := by simp at hi; omega
    subst this
    have hj6 : j < 6 := hj
    simp only [World.cell?, hb]
    rw [Nat.zero_mul, Nat.zero_add, Nat.zero_add, List.getElem?_toArray, List.getD_eq_getElem?_getD, List.getElem?_eq_getElem (by simp [itCells]; omega)]
    rfl
theorem row_one_str (w : World) {s : List UInt8} {b : Nat} {e : TypeId} {fr : Nat × Nat} (hb : w.heap[b]? = some (.cells #[.string (str s)] e fr)) (hs : s.length ≤ 9223372036854775807) : strE.Row w [s] (.slice (some ⟨b, 0, none⟩) 1 1) := by
  refine Elem.Row.mk rfl (by simp) (by simp [maxLen]) (Array.getElem?_eq_some_iff.1 hb).1 (fun i hi => ⟨fun _ => .string (str s), ?_, fun j hj => ?_⟩)
  · have : i = 0 := by simp at hi; omega
    subst this
    exact ⟨rfl, hs⟩
  · have : i = 0 := by simp at hi; omega
    subst this
    have : j = 0 := by have hj1 : j < 1 := hj; omega
    subst this
    simp [World.cell?, hb]
end Go.Proofs.YtgclfmdpapadnaaDoor

open Go.RowKit Go.Shelf
namespace Fm
open Go Go.RowKit
def ckA : It := ⟨[97], 0, [], [], 0, 0⟩
def ckB : It := ⟨[98], 0, [[97]], [], 0, 0⟩
def ckM : It := ⟨[109], 1, [], [97], 2, 1⟩
def ckWide : It := ⟨[109], 1, [], [97], 5, 1⟩
def ckLost : It := ⟨[98], 0, [[99]], [], 0, 0⟩
def ckDeep : List Nd := [ndFl 0 (-1), ndFl 0 0, ndFl 0 1]
theorem ck_wf : itWf ckA ∧ itWf ckB ∧ itWf ckM ∧ itWf ckWide ∧ itWf ckLost := by
  refine ⟨?_, ?_, ?_, ?_, ?_⟩ <;> exact ⟨by decide, by decide, by unfold isI64 ; decide, by unfold isI64; decide⟩
theorem ck1 : checkF 3 4 [] (-1) 5 [ckA, ckB] = 0 := by decide +kernel
theorem ck3 : checkF 3 4 [] (-1) 5 [ckA, ckLost] = 21 := by decide +kernel
theorem ck5 : checkF 3 4 [] (-1) 5 [ckA, ckM] = 22 := by decide +kernel
theorem ck6 : checkF 3 4 [] (-1) 5 [ckA, ckA] = 20 := by decide +kernel
theorem ck7 : checkF 3 4 [] (-1) 5 [ckA, ckWide] = 24 := by decide +kernel
theorem ck8 : checkF 3 4 ckDeep 2 5 [ckA] = 23 := by decide +kernel
theorem rightO_nil : RightO [] := fun i hi => by cases hi
theorem ckDeep_right : RightO ckDeep := by
  have h1 : RightO [ndFl 0 (-1)] := @rightO_snoc [] (ndFl 0 (-1)) rightO_nil (by decide) (by decide) (fun j hj _ => by have : (-1 : Int) = (j : Int) := hj; omega)
  have h2 : RightO [ndFl 0 (-1), ndFl 0 0] := @rightO_snoc [ndFl 0 (-1)] (ndFl 0 0) h1 (by decide) (by decide) (fun j hj hl => by
    have : (0 : Int) = (j : Int) := hj
    obtain rfl : j = 0 := by omega
    rfl)
  exact @rightO_snoc [ndFl 0 (-1), ndFl 0 0] (ndFl 0 1) h2 (by decide) (by decide) (fun j hj hl => by
    have : (1 : Int) = (j : Int) := hj
    obtain rfl : j = 1 := by omega
    rfl)
theorem row_two_it (w : World) {x y : It} {d d' : Value} {b : Nat} {e : TypeId} {fr : Nat × Nat} (hb : w.heap[b]? = some (.cells (itCells x d ++ itCells y d').toArray e fr)) (hd : strE.Row w x.after d) (hd' : strE.Row w y.after d') (hw : itWf x) (hw' : itWf y) : itE.Row w [x, y] (.slice (some ⟨b, 0, none⟩) 2 2) := by
  refine Elem.Row.mk rfl (by simp) (by simp [maxLen]) (Array.getElem?_eq_some_iff.1 hb).1 (fun i hi => ⟨fun j => (itCells x d ++ itCells y d').getD (i * 6 + j) .nilFunc, ?_, fun j hj => ?_⟩)
  · have hi : i < 2 := hi
    rcases (by omega : i = 0 ∨ i = 1) with rfl | rfl
    · exact ⟨rfl, rfl, hd, rfl, rfl, rfl, hw⟩
    · exact ⟨rfl, rfl, hd', rfl, rfl, rfl, hw'⟩
  · have hi : i < 2 := hi
    have hj6 : j < 6 := hj
    simp only [World.cell?, hb]
    rw [show 0 + (i * itE.sz + j) = i * 6 + j by show 0 + (i * 6 + j) = _; omega, List.getElem?_toArray, List.getD_eq_getElem?_getD, List.getElem?_eq_getElem (by simp [itCells]; omega)]
    rfl
end Fm
namespace Go.Proofs.YtgclfmdpapadnaaDoor
open Go Go.Proofs Fm
attribute [local go_sem] Oper.semAt_some

theorem frag20 (l : List Nd) (items : List It) (hO : RightO l) (hl : l.length ≤ 1000000) (hi : items.length ≤ 1000) (ow k : Int) (hk : checkF 3 4 l ow 5 items = k) (X : World) (nv iv : Value) (hN : ndE.Row X l nv) (hI : itE.Row X items iv) :
    Calls Tryd.prog 14 #[.agg #[.int .i64 0, .int .i64 3, .int .i64 4, .int .i64 0, .int .i64 0], nv, .int .i64 ow, .int .i64 5, iv] X fun e w' => e = .returned (.int .i64 k) ∧ Ext X w' := by
  rw [← hk]
  exact cFrag_any l items hO hl hi 0 3 4 0 0 ow 5 X nv iv hN hI
theorem total20 (X : World) (iv : Value) (hI : itE.Row X [ckA, ckB] iv) : Calls Tryd.prog 11 #[iv] X fun e w' => e = .returned (.int .i64 2) ∧ Ext X w' :=
  ctotal_any [ckA, ckB] (fun x hx => by
    simp only [List.mem_cons, List.not_mem_nil, or_false] at hx
    rcases hx with rfl | rfl <;> exact ⟨⟨by decide, by decide⟩, by decide, by decide⟩) (by decide) X iv hI
theorem cost20 (X : World) (v : Value) (h : ItV X ckM v) : Calls Tryd.prog 10 #[v] X fun e w' => e = .returned (.int .i64 5) ∧ Ext X w' :=
  ccost_any ckM ⟨⟨by decide, by decide⟩, by decide, by decide⟩ X v h
theorem deepRow (W : World) : ndE.Row (W.alloc (.cells (flC 0 (-1) ++ flC 0 0 ++ flC 0 1).toArray 50)) ckDeep (.slice (some ⟨W.heap.size, 0, none⟩) 3 3) := by
  have z : ∀ k : Int, -1 ≤ k → k ≤ 1 → isI64 k := fun k h1 h2 => by unfold isI64; omega
  have ho := World.ownsRow_lit W (flC 0 (-1) ++ flC 0 0 ++ flC 0 1).toArray 3 (base := W.heap.size) (e := 50) (size := 16) (Nat.le_refl _) (by unfold maxLen; omega) rfl
  refine ndRow_parts (cs := [flC 0 (-1), flC 0 0, flC 0 1]) rfl (by simpa [ckDeep] using ho) (fun i hi hc => ?_)
  have hi : i < 3 := hi
  rcases (by omega : i = 0 ∨ i = 1 ∨ i = 2) with rfl | rfl | rfl
  · exact ⟨rfl, ndFl_v (z 0 (by omega) (by omega)) (z (-1) (by omega) (by omega)) _⟩
  · exact ⟨rfl, ndFl_v (z 0 (by omega) (by omega)) (z 0 (by omega) (by omega)) _⟩
  · exact ⟨rfl, ndFl_v (z 0 (by omega) (by omega)) (z 1 (by omega) (by omega)) _⟩

set_option maxRecDepth 100000 in
set_option maxHeartbeats 8000000 in
theorem awake20_any (w : World) : Calls Tryd.prog 9 #[] w fun e w' => e = .returned (.bool true) ∧ Ext w w' := by
  go_enter Tryd.func9, Tryd.ntmps9
  go_upto_region 2 with (fail)
  have bC := BoxL.new w [.int .i64 0, .int .i64 3, .int .i64 4, .int .i64 0, .int .i64 0] 32
  have e1 := (Ext.refl w).alloc (.cells #[.int .i64 0, .int .i64 3, .int .i64 4, .int .i64 0, .int .i64 0] 32)
  have z1 : w.heap.size < (w.alloc (.cells #[.int .i64 0, .int .i64 3, .int .i64 4, .int .i64 0, .int .i64 0] 32)).heap.size := by simp
  generalize w.alloc (.cells #[.int .i64 0, .int .i64 3, .int .i64 4, .int .i64 0, .int .i64 0] 32) = W1 at *
  go_upto_region 3 with (fail)
  obtain ⟨SB, hSB⟩ : ∃ SB, SB = W1.heap.size := ⟨_, rfl⟩
  rw [← hSB]
  have hS := heap_alloc_new W1 (.cells #[.string { data := #[97] }] 9)
  have e2 := (Ext.refl W1).alloc (.cells #[.string { data := #[97] }] 9)
  have z2 : (W1.alloc (.cells #[.string { data := #[97] }] 9)).heap.size = W1.heap.size + 1 := by simp
  rw [← hSB] at hS z2
  generalize W1.alloc (.cells #[.string { data := #[97] }] 9) = W2 at *
  have hSr : strE.Row W2 [[97]] (.slice (some ⟨SB, 0, none⟩) 1 1) := row_one_str W2 hS (by decide)
  have bA := BoxL.new W2 [.string { data := #[97] }, .int .u8 0, .slice none 0 0, .string { data := #[] }, .int .i64 0, .int .i64 0] 27
  have e3 := (Ext.refl W2).alloc (.cells #[.string { data := #[97] }, .int .u8 0, .slice none 0 0, .string { data := #[] }, .int .i64 0, .int .i64 0] 27)
  have z3 : (W2.alloc (.cells #[.string { data := #[97] }, .int .u8 0, .slice none 0 0, .string { data := #[] }, .int .i64 0, .int .i64 0] 27)).heap.size = SB + 1 + 1 := by simp [z2]
  rw [z2] at bA
  generalize W2.alloc (.cells #[.string { data := #[97] }, .int .u8 0, .slice none 0 0, .string { data := #[] }, .int .i64 0, .int .i64 0] 27) = W3 at *
  have bB := BoxL.new W3 [.string { data := #[98] }, .int .u8 0, .slice (some ⟨SB, 0, none⟩) 1 1, .string { data := #[] }, .int .i64 0, .int .i64 0] 27
  have e4 := (Ext.refl W3).alloc (.cells #[.string { data := #[98] }, .int .u8 0, .slice (some ⟨SB, 0, none⟩) 1 1, .string { data := #[] }, .int .i64 0, .int .i64 0] 27)
  rw [z3] at bB
  generalize W3.alloc (.cells #[.string { data := #[98] }, .int .u8 0, .slice (some ⟨SB, 0, none⟩) 1 1, .string { data := #[] }, .int .i64 0, .int .i64 0] 27) = W4 at *
  clear hSB z2 z3 hS z1
  have HS := Lib.hid ((hSr.ext e3).ext e4)
  have HC := Lib.hid (((bC.ext e2).ext e3).ext e4)
  have HA := Lib.hid (bA.ext e4)
  have HB := Lib.hid bB
  have HE4 := Lib.hid (((e1.trans e2).trans e3).trans e4)
  clear bA bB bC e1 e2 e3 e4 hSr
  go_upto_region 4 with (fail)
  have bM := BoxL.new W4 [.string { data := #[109] }, .int .u8 1, .slice none 0 0, .string { data := #[97] }, .int .i64 2, .int .i64 1] 27
  have e5 := (Ext.refl W4).alloc (.cells #[.string { data := #[109] }, .int .u8 1, .slice none 0 0, .string { data := #[97] }, .int .i64 2, .int .i64 1] 27)
  generalize W4.alloc (.cells #[.string { data := #[109] }, .int .u8 1, .slice none 0 0, .string { data := #[97] }, .int .i64 2, .int .i64 1] 27) = W5 at *
  have z5 : W4.heap.size < W5.heap.size := bM.1
  generalize W4.heap.size = BM at *
  have ⟨m0, m1, m2, m3, m4, m5⟩ := bM.six
  go_upto_region 5 with (fail)
  have bW := BoxL.new W5 [.string { data := #[109] }, .int .u8 1, .slice none 0 0, .string { data := #[97] }, .int .i64 2, .int .i64 1] 27
  have e6 := (Ext.refl W5).alloc (.cells #[.string { data := #[109] }, .int .u8 1, .slice none 0 0, .string { data := #[97] }, .int .i64 2, .int .i64 1] 27)
  have HM := Lib.hid (bM.ext e6)
  clear m0 m1 m2 m3 m4 m5 bM
  generalize W5.alloc (.cells #[.string { data := #[109] }, .int .u8 1, .slice none 0 0, .string { data := #[97] }, .int .i64 2, .int .i64 1] 27) = W6 at *
  generalize hBW : W5.heap.size = BW at *
  have w4 := bW.cell 4 _ rfl
  have w4' := bW.free 4
  go_upto_region 6 with (fail)
  have HW := Lib.hid (bW.set 4 (by simp) (.int .i64 5))
  have e7 : Ext W5 (W6.setCell ⟨BW, 4, none⟩ (.int .i64 5)) := e6.setCell (p := ⟨BW, 4, none⟩) (by show W5.heap.size ≤ BW; omega) _
  have HM := Lib.hid (HM.out.kept (setOne_grown W6 BW 4 (.int .i64 5)) (fun e => by injection e with e; omega))
  clear w4 w4' bW e6
  generalize W6.setCell ⟨BW, 4, none⟩ (.int .i64 5) = W7 at *
  have HB7 := Lib.hid (HB.out.ext (e5.trans e7))
  have ⟨x0, x1, x2, x3, x4, x5⟩ := HB7.out.six
  go_upto_region 7 with (fail)
  have bL := BoxL.new W7 [.string { data := #[98] }, .int .u8 0, .slice (some ⟨SB, 0, none⟩) 1 1, .string { data := #[] }, .int .i64 0, .int .i64 0] 27
  have e8 := (Ext.refl W7).alloc (.cells #[.string { data := #[98] }, .int .u8 0, .slice (some ⟨SB, 0, none⟩) 1 1, .string { data := #[] }, .int .i64 0, .int .i64 0] 27)
  clear x0 x1 x2 x3 x4 x5
  generalize W7.alloc (.cells #[.string { data := #[98] }, .int .u8 0, .slice (some ⟨SB, 0, none⟩) 1 1, .string { data := #[] }, .int .i64 0, .int .i64 0] 27) = W8 at *
  generalize hBL : W7.heap.size = BL at *
  have e9 := (Ext.refl W8).alloc (.cells #[.string { data := #[99] }] 9)
  have l2 := (bL.ext e9).cell 2 _ rfl
  have l2' := (bL.ext e9).free 2
  have lz : BL < W8.heap.size := bL.1
  go_upto_region 8 with (fail)
  have hL9 : BoxL ((W8.setCell ⟨BL, 2, none⟩ (.slice (some ⟨W8.heap.size, 0, none⟩) 1 1)).alloc (.cells #[.string { data := #[99] }] 9)) BL [.string { data := #[98] }, .int .u8 0, .slice (some ⟨W8.heap.size, 0, none⟩) 1 1, .string { data := #[] }, .int .i64 0, .int .i64 0] := (bL.set 2 (by simp) (.slice (some ⟨W8.heap.size, 0, none⟩) 1 1)).ext ((Ext.refl _).alloc _)
  have hE9 : Ext W7 ((W8.setCell ⟨BL, 2, none⟩ (.slice (some ⟨W8.heap.size, 0, none⟩) 1 1)).alloc (.cells #[.string { data := #[99] }] 9)) := (e8.setCell (p := ⟨BL, 2, none⟩) (by show W7.heap.size ≤ BL; omega) _).alloc _
  have hT9 := heap_alloc_new (W8.setCell ⟨BL, 2, none⟩ (.slice (some ⟨W8.heap.size, 0, none⟩) 1 1)) (.cells #[.string { data := #[99] }] 9)
  rw [World.size_setCell] at hT9
  clear e9 l2 l2' lz bL e8
  generalize (W8.setCell ⟨BL, 2, none⟩ (.slice (some ⟨W8.heap.size, 0, none⟩) 1 1)).alloc (.cells #[.string { data := #[99] }] 9) = W9 at *
  generalize W8.heap.size = SC at *
  have HL := Lib.hid hL9
  have HT := Lib.hid (row_one_str W9 (s := [99]) hT9 (by decide))
  have HE9 := Lib.hid ((e5.trans e7).trans hE9)
  have HM := Lib.hid (HM.out.ext hE9)
  have HW := Lib.hid (HW.out.ext hE9)
  clear hL9 hE9 hT9 e5 e7 z5 HB7
  have hD := deepRow W9
  have hE10 := (Ext.refl W9).alloc (.cells (flC 0 (-1) ++ flC 0 0 ++ flC 0 1).toArray 50)
  simp only [flC, List.cons_append, List.nil_append] at hD hE10
  go_upto_region 9 with (fail)
  generalize W9.alloc (.cells #[.string { data := #[] }, .string { data := #[] }, .int .u8 0, .int .i64 0, .int .i64 (-1), .int .i64 0, .slice none 0 0, .int .i64 0, .int .i64 0, .int .u8 0, .int .i64 0, .int .i64 0, .int .u8 0, .int .i64 0, .string { data := #[] }, .slice none 0 0, .string { data := #[] }, .string { data := #[] }, .int .u8 0, .int .i64 0, .int .i64 0, .int .i64 0, .slice none 0 0, .int .i64 0, .int .i64 0, .int .u8 0, .int .i64 0, .int .i64 0, .int .u8 0, .int .i64 0, .string { data := #[] }, .slice none 0 0, .string { data := #[] }, .string { data := #[] }, .int .u8 0, .int .i64 0, .int .i64 1, .int .i64 0, .slice none 0 0, .int .i64 0, .int .i64 0, .int .u8 0, .int .i64 0, .int .i64 0, .int .u8 0, .int .i64 0, .string { data := #[] }, .slice none 0 0] 50) = WA at *
  generalize W9.heap.size = DB at *
  have HD := Lib.hid hD
  have HS := Lib.hid ((HS.out.ext HE9.out).ext hE10)
  have HT := Lib.hid (HT.out.ext hE10)
  have HC := Lib.hid ((HC.out.ext HE9.out).ext hE10)
  have HA := Lib.hid ((HA.out.ext HE9.out).ext hE10)
  have HB := Lib.hid ((HB.out.ext HE9.out).ext hE10)
  have HM := Lib.hid (HM.out.ext hE10)
  have HW := Lib.hid (HW.out.ext hE10)
  have HL := Lib.hid (HL.out.ext hE10)
  have HEw := Lib.hid ((HE4.out.trans HE9.out).trans hE10)
  have HK0 := Lib.hid (Ext.refl WA)
  clear hD hE10 HE4 HE9
  have c0 := (HC.out.ext HK0.out).cell 0 _ rfl
  have c1 := (HC.out.ext HK0.out).cell 1 _ rfl
  have c2 := (HC.out.ext HK0.out).cell 2 _ rfl
  have c3 := (HC.out.ext HK0.out).cell 3 _ rfl
  have c4 := (HC.out.ext HK0.out).cell 4 _ rfl
  have ⟨x00, x01, x02, x03, x04, x05⟩ := (HA.out.ext HK0.out).six
  have ⟨x10, x11, x12, x13, x14, x15⟩ := (HB.out.ext HK0.out).six
  go_wp2_with fail
  have hb0 := heap_alloc_new WA (.cells #[.string { data := #[97] }, .int .u8 0, .slice none 0 0, .string { data := #[] }, .int .i64 0, .int .i64 0, .string { data := #[98] }, .int .u8 0, .slice (some ⟨SB, 0, none⟩) 1 1, .string { data := #[] }, .int .i64 0, .int .i64 0] 27)
  have hE0 := (Ext.refl WA).alloc (.cells #[.string { data := #[97] }, .int .u8 0, .slice none 0 0, .string { data := #[] }, .int .i64 0, .int .i64 0, .string { data := #[98] }, .int .u8 0, .slice (some ⟨SB, 0, none⟩) 1 1, .string { data := #[] }, .int .i64 0, .int .i64 0] 27)
  clear c0 c1 c2 c3 c4 x00 x01 x02 x03 x04 x05 x10 x11 x12 x13 x14 x15
  generalize WA.alloc (.cells #[.string { data := #[97] }, .int .u8 0, .slice none 0 0, .string { data := #[] }, .int .i64 0, .int .i64 0, .string { data := #[98] }, .int .u8 0, .slice (some ⟨SB, 0, none⟩) 1 1, .string { data := #[] }, .int .i64 0, .int .i64 0] 27) = X0 at *
  refine (frag20 [] [ckA, ckB] rightO_nil (by decide) (by decide) (-1) _ ck1 X0 _ _ (Elem.Row.void _ _ _) (row_two_it X0 (x := ckA) (y := ckB) (d := .slice none 0 0) (d' := .slice (some ⟨SB, 0, none⟩) 1 1) hb0 (Elem.Row.void _ _ _) (HS.out.ext (HK0.out.trans hE0)) ck_wf.1 ck_wf.2.1)).mono ?_
  rintro e Y0 ⟨rfl, hF0⟩
  have HK1 := Lib.hid ((HK0.out.trans hE0).trans hF0)
  clear hF0 HK0 hb0 hE0
  have ⟨x00, x01, x02, x03, x04, x05⟩ := (HA.out.ext HK1.out).six
  have ⟨x10, x11, x12, x13, x14, x15⟩ := (HB.out.ext HK1.out).six
  go_wp2_with fail
  have hb1 := heap_alloc_new Y0 (.cells #[.string { data := #[97] }, .int .u8 0, .slice none 0 0, .string { data := #[] }, .int .i64 0, .int .i64 0, .string { data := #[98] }, .int .u8 0, .slice (some ⟨SB, 0, none⟩) 1 1, .string { data := #[] }, .int .i64 0, .int .i64 0] 27)
  have hE1 := (Ext.refl Y0).alloc (.cells #[.string { data := #[97] }, .int .u8 0, .slice none 0 0, .string { data := #[] }, .int .i64 0, .int .i64 0, .string { data := #[98] }, .int .u8 0, .slice (some ⟨SB, 0, none⟩) 1 1, .string { data := #[] }, .int .i64 0, .int .i64 0] 27)
  clear x00 x01 x02 x03 x04 x05 x10 x11 x12 x13 x14 x15
  generalize Y0.alloc (.cells #[.string { data := #[97] }, .int .u8 0, .slice none 0 0, .string { data := #[] }, .int .i64 0, .int .i64 0, .string { data := #[98] }, .int .u8 0, .slice (some ⟨SB, 0, none⟩) 1 1, .string { data := #[] }, .int .i64 0, .int .i64 0] 27) = X1 at *
  refine (total20 X1 _ (row_two_it X1 (x := ckA) (y := ckB) (d := .slice none 0 0) (d' := .slice (some ⟨SB, 0, none⟩) 1 1) hb1 (Elem.Row.void _ _ _) (HS.out.ext (HK1.out.trans hE1)) ck_wf.1 ck_wf.2.1)).mono ?_
  rintro e Y1 ⟨rfl, hF1⟩
  have HK2 := Lib.hid ((HK1.out.trans hE1).trans hF1)
  clear hF1 HK1 hb1 hE1
  have c0 := (HC.out.ext HK2.out).cell 0 _ rfl
  have c1 := (HC.out.ext HK2.out).cell 1 _ rfl
  have c2 := (HC.out.ext HK2.out).cell 2 _ rfl
  have c3 := (HC.out.ext HK2.out).cell 3 _ rfl
  have c4 := (HC.out.ext HK2.out).cell 4 _ rfl
  have ⟨x00, x01, x02, x03, x04, x05⟩ := (HA.out.ext HK2.out).six
  have ⟨x10, x11, x12, x13, x14, x15⟩ := (HL.out.ext HK2.out).six
  go_wp2_with fail
  have hb2 := heap_alloc_new Y1 (.cells #[.string { data := #[97] }, .int .u8 0, .slice none 0 0, .string { data := #[] }, .int .i64 0, .int .i64 0, .string { data := #[98] }, .int .u8 0, .slice (some ⟨SC, 0, none⟩) 1 1, .string { data := #[] }, .int .i64 0, .int .i64 0] 27)
  have hE2 := (Ext.refl Y1).alloc (.cells #[.string { data := #[97] }, .int .u8 0, .slice none 0 0, .string { data := #[] }, .int .i64 0, .int .i64 0, .string { data := #[98] }, .int .u8 0, .slice (some ⟨SC, 0, none⟩) 1 1, .string { data := #[] }, .int .i64 0, .int .i64 0] 27)
  clear c0 c1 c2 c3 c4 x00 x01 x02 x03 x04 x05 x10 x11 x12 x13 x14 x15
  generalize Y1.alloc (.cells #[.string { data := #[97] }, .int .u8 0, .slice none 0 0, .string { data := #[] }, .int .i64 0, .int .i64 0, .string { data := #[98] }, .int .u8 0, .slice (some ⟨SC, 0, none⟩) 1 1, .string { data := #[] }, .int .i64 0, .int .i64 0] 27) = X2 at *
  refine (frag20 [] [ckA, ckLost] rightO_nil (by decide) (by decide) (-1) _ ck3 X2 _ _ (Elem.Row.void _ _ _) (row_two_it X2 (x := ckA) (y := ckLost) (d := .slice none 0 0) (d' := .slice (some ⟨SC, 0, none⟩) 1 1) hb2 (Elem.Row.void _ _ _) (HT.out.ext (HK2.out.trans hE2)) ck_wf.1 ck_wf.2.2.2.2)).mono ?_
  rintro e Y2 ⟨rfl, hF2⟩
  have HK3 := Lib.hid ((HK2.out.trans hE2).trans hF2)
  clear hF2 HK2 hb2 hE2
  have ⟨x00, x01, x02, x03, x04, x05⟩ := (HM.out.ext HK3.out).six
  go_wp2_with fail
  clear x00 x01 x02 x03 x04 x05
  refine (cost20 Y2 _ ⟨none, 0, 0, rfl, Elem.Row.void _ _ _, ck_wf.2.2.1⟩).mono ?_
  rintro e Y3 ⟨rfl, hF3⟩
  have HK4 := Lib.hid (HK3.out.trans hF3)
  clear hF3 HK3
  have c0 := (HC.out.ext HK4.out).cell 0 _ rfl
  have c1 := (HC.out.ext HK4.out).cell 1 _ rfl
  have c2 := (HC.out.ext HK4.out).cell 2 _ rfl
  have c3 := (HC.out.ext HK4.out).cell 3 _ rfl
  have c4 := (HC.out.ext HK4.out).cell 4 _ rfl
  have ⟨x00, x01, x02, x03, x04, x05⟩ := (HA.out.ext HK4.out).six
  have ⟨x10, x11, x12, x13, x14, x15⟩ := (HM.out.ext HK4.out).six
  go_wp2_with fail
  have hb4 := heap_alloc_new Y3 (.cells #[.string { data := #[97] }, .int .u8 0, .slice none 0 0, .string { data := #[] }, .int .i64 0, .int .i64 0, .string { data := #[109] }, .int .u8 1, .slice none 0 0, .string { data := #[97] }, .int .i64 2, .int .i64 1] 27)
  have hE4 := (Ext.refl Y3).alloc (.cells #[.string { data := #[97] }, .int .u8 0, .slice none 0 0, .string { data := #[] }, .int .i64 0, .int .i64 0, .string { data := #[109] }, .int .u8 1, .slice none 0 0, .string { data := #[97] }, .int .i64 2, .int .i64 1] 27)
  clear c0 c1 c2 c3 c4 x00 x01 x02 x03 x04 x05 x10 x11 x12 x13 x14 x15
  generalize Y3.alloc (.cells #[.string { data := #[97] }, .int .u8 0, .slice none 0 0, .string { data := #[] }, .int .i64 0, .int .i64 0, .string { data := #[109] }, .int .u8 1, .slice none 0 0, .string { data := #[97] }, .int .i64 2, .int .i64 1] 27) = X4 at *
  refine (frag20 [] [ckA, ckM] rightO_nil (by decide) (by decide) (-1) _ ck5 X4 _ _ (Elem.Row.void _ _ _) (row_two_it X4 (x := ckA) (y := ckM) (d := .slice none 0 0) (d' := .slice none 0 0) hb4 (Elem.Row.void _ _ _) (Elem.Row.void _ _ _) ck_wf.1 ck_wf.2.2.1)).mono ?_
  rintro e Y4 ⟨rfl, hF4⟩
  have HK5 := Lib.hid ((HK4.out.trans hE4).trans hF4)
  clear hF4 HK4 hb4 hE4
  have c0 := (HC.out.ext HK5.out).cell 0 _ rfl
  have c1 := (HC.out.ext HK5.out).cell 1 _ rfl
  have c2 := (HC.out.ext HK5.out).cell 2 _ rfl
  have c3 := (HC.out.ext HK5.out).cell 3 _ rfl
  have c4 := (HC.out.ext HK5.out).cell 4 _ rfl
  have ⟨x00, x01, x02, x03, x04, x05⟩ := (HA.out.ext HK5.out).six
  go_wp2_with fail
  have hb5 := heap_alloc_new Y4 (.cells #[.string { data := #[97] }, .int .u8 0, .slice none 0 0, .string { data := #[] }, .int .i64 0, .int .i64 0, .string { data := #[97] }, .int .u8 0, .slice none 0 0, .string { data := #[] }, .int .i64 0, .int .i64 0] 27)
  have hE5 := (Ext.refl Y4).alloc (.cells #[.string { data := #[97] }, .int .u8 0, .slice none 0 0, .string { data := #[] }, .int .i64 0, .int .i64 0, .string { data := #[97] }, .int .u8 0, .slice none 0 0, .string { data := #[] }, .int .i64 0, .int .i64 0] 27)
  clear c0 c1 c2 c3 c4 x00 x01 x02 x03 x04 x05
  generalize Y4.alloc (.cells #[.string { data := #[97] }, .int .u8 0, .slice none 0 0, .string { data := #[] }, .int .i64 0, .int .i64 0, .string { data := #[97] }, .int .u8 0, .slice none 0 0, .string { data := #[] }, .int .i64 0, .int .i64 0] 27) = X5 at *
  refine (frag20 [] [ckA, ckA] rightO_nil (by decide) (by decide) (-1) _ ck6 X5 _ _ (Elem.Row.void _ _ _) (row_two_it X5 (x := ckA) (y := ckA) (d := .slice none 0 0) (d' := .slice none 0 0) hb5 (Elem.Row.void _ _ _) (Elem.Row.void _ _ _) ck_wf.1 ck_wf.1)).mono ?_
  rintro e Y5 ⟨rfl, hF5⟩
  have HK6 := Lib.hid ((HK5.out.trans hE5).trans hF5)
  clear hF5 HK5 hb5 hE5
  have c0 := (HC.out.ext HK6.out).cell 0 _ rfl
  have c1 := (HC.out.ext HK6.out).cell 1 _ rfl
  have c2 := (HC.out.ext HK6.out).cell 2 _ rfl
  have c3 := (HC.out.ext HK6.out).cell 3 _ rfl
  have c4 := (HC.out.ext HK6.out).cell 4 _ rfl
  have ⟨x00, x01, x02, x03, x04, x05⟩ := (HA.out.ext HK6.out).six
  have ⟨x10, x11, x12, x13, x14, x15⟩ := (HW.out.ext HK6.out).six
  go_wp2_with fail
  have hb6 := heap_alloc_new Y5 (.cells #[.string { data := #[97] }, .int .u8 0, .slice none 0 0, .string { data := #[] }, .int .i64 0, .int .i64 0, .string { data := #[109] }, .int .u8 1, .slice none 0 0, .string { data := #[97] }, .int .i64 5, .int .i64 1] 27)
  have hE6 := (Ext.refl Y5).alloc (.cells #[.string { data := #[97] }, .int .u8 0, .slice none 0 0, .string { data := #[] }, .int .i64 0, .int .i64 0, .string { data := #[109] }, .int .u8 1, .slice none 0 0, .string { data := #[97] }, .int .i64 5, .int .i64 1] 27)
  clear c0 c1 c2 c3 c4 x00 x01 x02 x03 x04 x05 x10 x11 x12 x13 x14 x15
  generalize Y5.alloc (.cells #[.string { data := #[97] }, .int .u8 0, .slice none 0 0, .string { data := #[] }, .int .i64 0, .int .i64 0, .string { data := #[109] }, .int .u8 1, .slice none 0 0, .string { data := #[97] }, .int .i64 5, .int .i64 1] 27) = X6 at *
  refine (frag20 [] [ckA, ckWide] rightO_nil (by decide) (by decide) (-1) _ ck7 X6 _ _ (Elem.Row.void _ _ _) (row_two_it X6 (x := ckA) (y := ckWide) (d := .slice none 0 0) (d' := .slice none 0 0) hb6 (Elem.Row.void _ _ _) (Elem.Row.void _ _ _) ck_wf.1 ck_wf.2.2.2.1)).mono ?_
  rintro e Y6 ⟨rfl, hF6⟩
  have HK7 := Lib.hid ((HK6.out.trans hE6).trans hF6)
  clear hF6 HK6 hb6 hE6
  have c0 := (HC.out.ext HK7.out).cell 0 _ rfl
  have c1 := (HC.out.ext HK7.out).cell 1 _ rfl
  have c2 := (HC.out.ext HK7.out).cell 2 _ rfl
  have c3 := (HC.out.ext HK7.out).cell 3 _ rfl
  have c4 := (HC.out.ext HK7.out).cell 4 _ rfl
  have ⟨x00, x01, x02, x03, x04, x05⟩ := (HA.out.ext HK7.out).six
  go_wp2_with fail
  have hb7 := heap_alloc_new Y6 (.cells #[.string { data := #[97] }, .int .u8 0, .slice none 0 0, .string { data := #[] }, .int .i64 0, .int .i64 0] 27)
  have hE7 := (Ext.refl Y6).alloc (.cells #[.string { data := #[97] }, .int .u8 0, .slice none 0 0, .string { data := #[] }, .int .i64 0, .int .i64 0] 27)
  clear c0 c1 c2 c3 c4 x00 x01 x02 x03 x04 x05
  generalize Y6.alloc (.cells #[.string { data := #[97] }, .int .u8 0, .slice none 0 0, .string { data := #[] }, .int .i64 0, .int .i64 0] 27) = X7 at *
  refine (frag20 ckDeep [ckA] ckDeep_right (by decide) (by decide) 2 _ ck8 X7 _ _ (HD.out.ext (HK7.out.trans hE7)) (row_one_it X7 (x := ckA) (d := .slice none 0 0) hb7 (Elem.Row.void _ _ _) ck_wf.1)).mono ?_
  rintro e Y7 ⟨rfl, hF7⟩
  have HK8 := Lib.hid ((HK7.out.trans hE7).trans hF7)
  clear hF7 HK7 hb7 hE7
  go_wp2
  go_ret
  exact ⟨rfl, HEw.out.trans HK8.out⟩
end Go.Proofs.YtgclfmdpapadnaaDoor

open Go.RowKit Go.Shelf
namespace Go.Proofs.YtgclfmdpapadnaaDoor
open Go Go.Proofs Fm

set_option maxRecDepth 100000 in
set_option maxHeartbeats 8000000 in
theorem few09_any (l : List It) (w : World) (v : Value) (hv : itE.Row w l v) :
    Calls Tryd.prog 13 #[v] w fun e w' => e = .returned (.bool (fewF l)) ∧ Ext w w' := by
  obtain ⟨a, cap, rfl, h1, h2⟩ := hv.slice
  have HR := Lib.hid hv
  have hll : l.length ≤ 9223372036854775807 := by omega
  clear hv h1 h2
  go_enter Tryd.func13, Tryd.ntmps13
  go_wp2_with fail
  go_loopw [9] (fun i wr => ∃ j : Nat, j ≤ l.length ∧ i = .int .i64 j ∧ Hid ((l.take j).all lightI = true) ∧ Ext w wr) (fun i _ => l.length - (intOf i).toNat)
  case atStart => exact ⟨0, by omega, rfl, Lib.hid (by simp), Ext.refl _⟩
  case round =>
    obtain ⟨j, hj, rfl, HA, hE⟩ := hrel
    by_cases hlt : j < l.length
    case neg =>
      have hj' : j = l.length := by omega
      have HX : Hid (fewF l = decide ((l.length : Int) ≤ 60)) := Lib.hid (by
        have := HA.out; rw [hj', List.take_length] at this
        unfold fewF; rw [this, Bool.true_and, decide_eq_decide]; omega)
      clear hj' HA
      go_wp2
      go_ret
      exact ⟨by rw [HX.out]; rfl, hE⟩
    obtain ⟨b, off, rfl, hb, aa, m, cc, c0, c1, c2, c3, c4, c5, hs⟩ := it_at HR.out hE j hlt
    obtain ⟨x, hx⟩ : ∃ x, x = l[j] := ⟨_, rfl⟩
    rw [← hx] at c0 c1 c3 c4 c5 hs
    have HS := Lib.hid (hs.ext hE)
    have hml : m ≤ 9223372036854775807 := by have := HS.out.row.length_le; rw [← HS.out.len] at this; exact this
    have HXj := Lib.hid hx
    have HX0 : Hid (lightI x = false → fewF l = false) := Lib.hid (fun h => fewF_not hlt (by rw [← HXj.out]; exact h))
    have hsn := str_size x.name
    have hso := str_size x.over
    have HM := Lib.hid HS.out.len
    have hln : x.name.length ≤ 9223372036854775807 := by obtain ⟨_, _, _, _, _, h, _⟩ := HS.out; exact h
    have hlo : x.over.length ≤ 9223372036854775807 := by obtain ⟨_, _, _, _, _, _, h, _⟩ := HS.out; exact h
    clear hs hx hb
    generalize (x.kind.toNat : Int) = K at *
    have HE1 := Lib.hid (hE.alloc (.cells #[.string (str x.name), .int .u8 K, .slice aa m cc, .string (str x.over), .int .i64 x.width, .int .i64 x.quota] 27))
    have HB1 : Hid (BoxL (wr.alloc (.cells #[.string (str x.name), .int .u8 K, .slice aa m cc, .string (str x.over), .int .i64 x.width, .int .i64 x.quota] 27)) wr.heap.size [.string (str x.name), .int .u8 K, .slice aa m cc, .string (str x.over), .int .i64 x.width, .int .i64 x.quota]) := Lib.hid (BoxL.new wr _ _)
    have HE01 := Lib.hid ((Ext.refl wr).alloc (.cells #[.string (str x.name), .int .u8 K, .slice aa m cc, .string (str x.over), .int .i64 x.width, .int .i64 x.quota] 27))
    by_cases h40 : 40 < m
    case pos =>
      have HX := Lib.hid (HX0.out (lightI_after (by have := HM.out; omega)))
      have h40' : (40 : Int) < (m : Int) := by omega
      clear HA HX0
      go_wp2
      go_ret
      exact ⟨by rw [HX.out]; rfl, HE1.out⟩
    have h40' : ¬ (40 : Int) < (m : Int) := by omega
    by_cases hn : 100 < x.name.length
    case pos =>
      have HX := Lib.hid (HX0.out (lightI_name hn))
      have hn' : (100 : Int) < (x.name.length : Int) := by omega
      clear HA HX0
      go_wp2
      go_ret
      exact ⟨by rw [HX.out]; rfl, HE1.out⟩
    have hn' : ¬ (100 : Int) < (x.name.length : Int) := by omega
    by_cases ho : 100 < x.over.length
    case pos =>
      have HX := Lib.hid (HX0.out (lightI_over ho))
      have ho' : (100 : Int) < (x.over.length : Int) := by omega
      clear HA HX0
      go_wp2
      go_ret
      exact ⟨by rw [HX.out]; rfl, HE1.out⟩
    have ho' : ¬ (100 : Int) < (x.over.length : Int) := by omega
    have HL : Hid (x.after.all (fun s => decide (s.length ≤ 100)) = true → lightI x = true) := Lib.hid (fun h => lightI_mk (by have := HM.out; omega) (by omega) (by omega) h)
    have HRx := Lib.hid (HS.out.row.ext HE01.out)
    clear h40 hn ho
    go_wp2_with fail
    have hwz : wr.heap.size < (wr.alloc (.cells #[.string (str x.name), .int .u8 K, .slice aa m cc, .string (str x.over), .int .i64 x.width, .int .i64 x.quota] 27)).heap.size := by simp
    generalize wr.alloc (.cells #[.string (str x.name), .int .u8 K, .slice aa m cc, .string (str x.over), .int .i64 x.width, .int .i64 x.quota] 27) = W1 at *
    clear c0 c1 c2 c3 c4 c5
    go_loopw [32] (fun i wr2 => ∃ k : Nat, k ≤ m ∧ i = .int .i64 k ∧ Hid ((x.after.take k).all (fun s => decide (s.length ≤ 100)) = true) ∧ Ext W1 wr2) (fun i _ => m - (intOf i).toNat)
    case atStart => exact ⟨0, by omega, rfl, Lib.hid (by simp), Ext.refl _⟩
    case round =>
      obtain ⟨k, hk, rfl, HA2, hE2⟩ := hrel
      by_cases hkm : k < m
      · have hkx : k < x.after.length := by have := HM.out; omega
        obtain ⟨sb, so, rfl, hsb, hsc, hsl⟩ := str_at HRx.out hE2 k hkx
        have hss := str_size x.after[k]
        by_cases h100 : 100 < x.after[k].length
        case pos =>
          have HX := Lib.hid (HX0.out (lightI_text hkx h100))
          have h100' : (100 : Int) < (x.after[k].length : Int) := by omega
          clear h100
          go_wp2
          go_ret
          exact ⟨by rw [HX.out]; rfl, HE1.out.trans hE2⟩
        case neg =>
          have HA3 : Hid ((x.after.take (k + 1)).all (fun s => decide (s.length ≤ 100)) = true) := Lib.hid (by
            rw [List.take_add_one, List.getElem?_eq_getElem hkx, List.all_append, HA2.out]; simp; omega)
          have h100' : ¬ (100 : Int) < (x.after[k].length : Int) := by omega
          clear h100
          go_wp2
          go_roundw
          case rel => exact ⟨k + 1, by omega, by go_num, HA3, hE2⟩
          case measure => simp [intOf]; omega
      · have hkk : k = m := by omega
        have HXY : Hid ((l.take (j + 1)).all lightI = true) := Lib.hid (by
          rw [List.take_add_one, List.getElem?_eq_getElem hlt, List.all_append, HA.out]
          have := HA2.out
          rw [hkk, show m = x.after.length from HM.out, List.take_length] at this
          have := HL.out this
          rw [HXj.out] at this
          simpa using this)
        have HEr := Lib.hid (HE1.out.trans hE2)
        clear hkk
        go_wp2
        go_roundw
        case rel => exact ⟨j + 1, by omega, by go_num, HXY, HEr.out⟩
        case measure => simp [intOf]; omega
end Go.Proofs.YtgclfmdpapadnaaDoor

open Go.RowKit Go.Shelf
namespace Go.Proofs.YtgclfmdpapadnaaDoor
open Go Go.Proofs Fm

/-- Items in a row of one's own; their texts lie where they lay. -/
def ShF (w0 w : World) (v : Value) (l : List It) : Prop :=
  ∃ ds : List Value, ds.length = l.length ∧ w.ownsRow w0.heap.size 27 6 v l.length (itsCells l ds) ∧ ∀ i (hi : i < l.length) (hd : i < ds.length), strE.Row w0 l[i].after ds[i] ∧ itWf l[i]
theorem ShF.ext {w0 w w' : World} {v : Value} {l : List It} (h : ShF w0 w v l) (hE : Ext w w') : ShF w0 w' v l := by
  obtain ⟨ds, h1, h2, h3⟩ := h
  exact ⟨ds, h1, hE.own h2, h3⟩
theorem ShF.lt {w0 w : World} {v : Value} {l : List It} (h : ShF w0 w v l) : ∀ b, v.ownBlock = some b → w0.heap.size ≤ b ∧ b < w.heap.size := by
  obtain ⟨ds, h1, h2, h3⟩ := h
  exact h2.lt
theorem ShF.row {w0 w : World} {v : Value} {l : List It} (h : ShF w0 w v l) (hE : Ext w0 w) : itE.Row w l v := by
  obtain ⟨ds, h1, h2, h3⟩ := h
  have hc := fun g => World.ownsRow.cells h2 (g := g)
  rcases h2.2 with ⟨rfl, h0⟩ | ⟨g, cap, cur, rfl, hb, hg, hl, hm, h5, h6⟩
  · have : l = [] := List.eq_nil_of_length_eq_zero h0
    subst this
    exact Elem.Row.void itE w none
  · refine Elem.Row.mk rfl hl hm (Array.getElem?_eq_some_iff.1 hg).1 (fun i hi => ?_)
    have hd : i < ds.length := by omega
    obtain ⟨a1, a2⟩ := h3 i hi hd
    refine ⟨fun j => (itCells l[i] ds[i]).getD j .nilFunc, ⟨rfl, rfl, a1.ext hE, rfl, rfl, rfl, a2⟩, fun j hj => ?_⟩
    have hj6 : j < 6 := hj
    have := hc g rfl (i * 6 + j) ((itCells l[i] ds[i]).getD j .nilFunc) (by
      rw [itsCells_at l ds i j hi hd hj6, List.getD_eq_getElem?_getD, List.getElem?_eq_getElem (by simp [itCells]; omega)]
      rfl)
    rw [Addr.add_lit] at this
    exact this
theorem sizeof_item : ∀ w, (sizeOf (Tryd.prog.elem 22)).run Tryd.prog w = .ok 6 w := fun _ => by kernel_rfl
theorem slice_it_upto (a : Option Addr) (len cap k : Nat) (h1 : k ≤ cap) (w : World) :
    (Instr.slice 22 (.slice a len cap) none (some (.int .i64 (k : Int))) none).run Tryd.prog w = .ok (.slice a k cap) w := by
  rw [run_slice_h (ht := by kernel_rfl) (h0 := by omega) (h2 := by omega), sizeof_item]
  cases a <;> simp [Result.andThen, sliced, Addr.add]
end Go.Proofs.YtgclfmdpapadnaaDoor

namespace Go.Proofs.YtgclfmdpapadnaaDoor
open Go Go.Proofs Fm Go.RowKit

/-- Block b is a map of numbers to numbers: what stands where, and how many there are (at most n). -/
def IMap (w : World) (b n : Nat) (f : Int → Option Int) (sz : Nat) : Prop :=
  ∃ D : DataW Unit, w.ownsMap Tryd.prog 3 (plainElem Tryd.prog 3) b n D ∧ Maps.size D = sz ∧ (∀ s, Maps.has D (.int .i64 s) = (f s).isSome) ∧ ∀ s, D.atKey (.int .i64 s) (.lit (.int .i64 0)) = .lit (.int .i64 ((f s).getD 0))
def iupd (f : Int → Option Int) (s : Int) (z : Int) : Int → Option Int := fun t => if t = s then some z else f t
theorem zero_int6 (w : World) : (zeroValue 3).run Tryd.prog w = .ok (.int .i64 0) w := Tryd.zeroValue3 w
theorem key_int6 {s : Int} (hs : isI64 s) : keyOf Tryd.prog 3 (.int .i64 s) = some (.int .i64 s) := by
  refine Maps.keyOf_int_mk Tryd.underlying3 ?_
  unfold isI64 at hs
  simp [Lit.wf, IntKind.min, IntKind.max, IntKind.signed, IntKind.bits]
  omega
theorem IMap.new (w : World) : IMap (w.alloc (.map #[] 0)) w.heap.size 0 (fun _ => none) 0 :=
  ⟨.map [], World.ownsMap_made w _ _ _, rfl, fun _ => rfl, fun _ => rfl⟩
theorem IMap.kept {w w' : World} {b n : Nat} {f : Int → Option Int} {sz : Nat} {row : Option Nat} (h : IMap w b n f sz) (hg : w.grownBy w' row) (hne : row ≠ some b) : IMap w' b n f sz := by
  obtain ⟨D, h1, h2⟩ := h
  exact ⟨D, h1.kept hg (fun e => hne e.symm), h2⟩
theorem IMap.ext {w w' : World} {b n : Nat} {f : Int → Option Int} {sz : Nat} (h : IMap w b n f sz) (hE : Ext w w') : IMap w' b n f sz := h.kept hE.grownBy (by simp)
theorem IMap.lt {w : World} {b n : Nat} {f : Int → Option Int} {sz : Nat} (h : IMap w b n f sz) : b < w.heap.size := by
  obtain ⟨D, h1, _⟩ := h
  exact h1.lt
theorem IMap.look {w : World} {b n : Nat} {f : Int → Option Int} {sz : Nat} (h : IMap w b n f sz) {s : Int} (hs : isI64 s) :
    (Instr.lookup 52 (.map (some b)) (.int .i64 s) false).run Tryd.prog w = .ok (.int .i64 ((f s).getD 0)) w := by
  obtain ⟨D, h1, h2, h3, h4⟩ := h
  obtain ⟨c, hrun, hat, _⟩ := h1.lookup_int (Maps.int_keyed Tryd.underlying3) Tryd.underlying52 Tryd.underlying3 (zero_int6 w) (key_int6 hs)
  rw [h4 s] at hat
  have hc : (f s).getD 0 = c := by
    simp only [DataW.lit.injEq, Lit.int.injEq] at hat
    exact hat.2
  rw [hrun, hc]
theorem IMap.len {w : World} {b n : Nat} {f : Int → Option Int} {sz : Nat} (h : IMap w b n f sz) (ty : TypeId) : (Builtin.len_ #[52] ty #[.map (some b)]).run Tryd.prog w = .ok (.int .i64 sz) w := by
  obtain ⟨D, h1, h2, _⟩ := h
  rw [h1.len Tryd.underlying52 ty, h2]
/-- A store into it. -/
theorem wpList_iput {w : World} {ops : Array Oper} {rest : List Oper} {o : Oper} {a : Act} {Q : Exit → Act → World → Prop} (hg : o.guard = none) (m x v : Operand) (hop : o.op = Op.mapUpdate 52 m x v)
    {b n : Nat} {f : Int → Option Int} {sz : Nat} (hm : a.eval m = .map (some b)) (h : IMap w b n f sz) (hn : n < 9223372036854775807) (s : Int) (hx : a.eval x = .int .i64 s) (hs : isI64 s) (z : Int) (hv : a.eval v = .int .i64 z) (hz : isI64 z)
    (hK : ∀ w', IMap w' b (n + 1) (iupd f s z) (if (f s).isSome then sz else sz + 1) → w.grownBy w' (some b) → wpList Tryd.prog ops Q rest (a.put o.dst undef) w') : wpList Tryd.prog ops Q (o :: rest) a w := by
  obtain ⟨D, h1, h2, h3, h4⟩ := h
  have hw : (Lit.int .i64 z).wf = true := by
    unfold isI64 at hz
    simp [Lit.wf, IntKind.min, IntKind.max, IntKind.signed, IntKind.bits]
    omega
  refine wpList_mapUpdate_own w hg m x v _ hop _ _ (Maps.int_keyed Tryd.underlying3) Tryd.underlying52 _ b n D hm h1 (by unfold maxLen; omega) _ _ (.int .i64 s) hx hv (key_int6 hs) (.lit (.int .i64 z)) [] (plainElem_int Tryd.underlying3 hw) (fun w' hown hgrow => hK w' ⟨_, hown, ?_, fun t => ?_, fun t => ?_⟩ hgrow)
  · rw [Maps.size_put (h1.tidy (Maps.int_keyed Tryd.underlying3)), h3, h2]
  · unfold iupd
    by_cases e : t = s
    · subst e
      rw [if_pos rfl, Maps.has_put_same h1.isMap (by trivial)]; rfl
    · rw [if_neg e, Maps.has_put_other (by simpa using e), h3]
  · unfold iupd
    by_cases e : t = s
    · subst e
      rw [if_pos rfl, Maps.atKey_put_same h1.isMap (by trivial)]; rfl
    · rw [if_neg e, Maps.atKey_put_other (by simpa using e), h4]
end Go.Proofs.YtgclfmdpapadnaaDoor

namespace Fm
open Go Go.RowKit Go.ChangeShapes Go.WideShapes Go.ChangeAt

/-- What the reading of a slice of integers says: as the guide's skeleton has it. -/
def IsRow (k : IntKind) (w : World) (a : Option Addr) (len cap : Nat) (zs : List Int) : Prop :=
  (a = none ∧ len = 0 ∧ cap = 0 ∧ zs = []) ∨
  ∃ x, a = some x ∧ len ≤ cap ∧ cap ≤ maxLen ∧ zs.length = cap ∧ (∀ i, i < zs.length → w.cell? (x.add i) = some (.int k (zs.getD i 0))) ∧ ∀ n ∈ zs, (Lit.int k n).wf = true

theorem u8_of_wf {n : Int} (h : (Lit.int .u8 n).wf = true) : ((UInt8.ofNat n.toNat).toNat : Int) = n := by
  have : 0 ≤ n ∧ n ≤ 255 := by
    simp [Lit.wf, IntKind.min, IntKind.max, IntKind.signed, IntKind.bits] at h
    omega
  rw [toNat_ofNat_lt (by omega)]; omega

theorem i64_of_wf {n : Int} (h : (Lit.int .i64 n).wf = true) : isI64 n := by
  simp [Lit.wf, IntKind.min, IntKind.max, IntKind.signed, IntKind.bits] at h
  unfold isI64; omega

theorem IsRow.bytes {w : World} {a : Option Addr} {len cap : Nat} {zs : List Int} (h : IsRow .u8 w a len cap zs) :
    ∃ xs : List UInt8, xs.length = len ∧ Bytes w (.slice a len cap) xs := by
  rcases h with ⟨rfl, rfl, rfl, rfl⟩ | ⟨x, rfl, hl, hm, hz, hc, hw⟩
  · exact ⟨[], rfl, Bytes.nil w⟩
  · refine ⟨(zs.take len).map fun n => UInt8.ofNat n.toNat, by simp; omega, ?_⟩
    have hlen : ((zs.take len).map fun n => UInt8.ofNat n.toNat).length = len := by simp; omega
    refine ⟨some x, cap, by rw [hlen], by omega, hm, (fun h => by cases h), fun ad had h0 => ?_⟩
    cases had
    have h00 := hc 0 (by omega)
    have e0 : x.add 0 = x := by unfold Addr.add; rw [if_pos rfl]
    rw [e0] at h00
    have hs : x.spot = none := by
      cases hsp : x.spot with
      | none => rfl
      | some s =>
        unfold World.cell? at h00
        cases hb : w.heap[x.block]? with
        | none => rw [hb] at h00; cases h00
        | some o => rw [hb] at h00; cases o <;> simp [hsp] at h00
    refine ⟨hs, World.block_lt_of_cell? w x h00, fun j hj => ?_⟩
    have hj' : j < zs.length := by omega
    have hjl : j < len := by omega
    have hcj := hc j hj'
    have ea : x.add j = ⟨x.block, x.off + j, none⟩ := by
      unfold Addr.add; split
      · obtain ⟨b, o, s⟩ := x; simp at hs ⊢; exact ⟨by omega, hs⟩
      · rw [← hs]
    rw [ea] at hcj
    rw [hcj]
    have hg : zs.getD j 0 = zs[j] := by simp [List.getD, hj']
    have hwf := hw zs[j] (List.getElem_mem hj')
    rw [hg]
    simp [bv, hjl, hj']
    have := u8_of_wf hwf
    simp at this
    exact this.symm
end Fm

namespace Fm
open Go Go.RowKit Go.ChangeShapes Go.WideShapes Go.ChangeAt

/-- What reads as data of that type lies so. -/
def Elem.Reads {α : Type} (E : Elem α) (P : Program) (T : TypeId) : Prop :=
  ∀ {H : Type} (enc : TypeId × Value → H) (W : World) (base : Nat) (spare : Nat → Bool) (held : Bool) (fuel : Nat) (cs : List Value) (x : DataW H × List MemPlace),
    DataW.trod enc P W base spare held fuel T cs = some x → ∃ a : α, E.R W a (fun j => cs.getD j .nilFunc)
theorem reads_str {P : Program} {T : TypeId} (hT : P.underlying T = some .string) : strE.Reads P T := by
  intro H enc W base spare held fuel cs x h
  obtain ⟨s, rfl, -, hw⟩ := DataW.trod_string hT h
  refine ⟨s.data.toList, ?_, ?_⟩
  · show Value.string s = _
    rw [str_eta]
  · have e : s.data.toList.length = s.size := by rw [Array.length_toList]; rfl
    unfold maxLen at hw; omega
theorem reads_int {P : Program} {T : TypeId} (hT : P.underlying T = some (.int .i64)) : intE.Reads P T := by
  intro H enc W base spare held fuel cs x h
  obtain ⟨n, rfl, -, hw⟩ := DataW.trod_int hT h
  exact ⟨n, rfl, i64_of_wf hw⟩
theorem reads_u8 {P : Program} {T : TypeId} (hT : P.underlying T = some (.int .u8)) : u8E.Reads P T := by
  intro H enc W base spare held fuel cs x h
  obtain ⟨n, rfl, -, hw⟩ := DataW.trod_int hT h
  exact ⟨UInt8.ofNat n.toNat, by show Value.int _ _ = _; rw [u8_of_wf hw]⟩
theorem reads_slice {α : Type} {E : Elem α} {P : Program} {T e : TypeId} (hT : P.underlying T = some (.slice e)) (hsz : P.cellsOf e = E.sz) (hE : E.Reads P e) (hp : 0 < E.sz) : (rowE E).Reads P T := by
  intro H enc W base spare held fuel cs x h
  rcases DataW.trod_slice hT h with ⟨rfl, -⟩ | ⟨a, len, cap, elems, rest, m, hm, rfl, -, hba, hlc, hcm, hel, hat, -, -⟩
  · exact ⟨[], Elem.Row.void E W none⟩
  · have key : ∀ k, k ≤ len → ∃ l : List α, l.length = k ∧ ∀ i (hi : i < l.length), ∃ c : Nat → Value, E.R W l[i] c ∧ ∀ j, j < E.sz → W.cell? ((a.add (i * E.sz)).add j) = some (c j) := by
      intro k
      induction k with
      | zero => exact fun _ => ⟨[], rfl, fun i hi => by simp at hi⟩
      | succ k ih =>
        intro hk
        obtain ⟨l, hl, hr⟩ := ih (by omega)
        have h1 := hat k (by omega)
        rw [hsz, List.getElem?_eq_getElem (by omega)] at h1
        obtain ⟨cs', hc', ht'⟩ := Option.bind_eq_some_iff.1 h1
        obtain ⟨t, ht⟩ := hE enc W base spare held m cs' _ ht'
        obtain ⟨_, hl4, hcell⟩ := World.cells?_some hc'
        refine ⟨l ++ [t], by simp [hl], fun i hi => ?_⟩
        by_cases hik : i < l.length
        · rw [List.getElem_append_left hik]; exact hr i hik
        · have e : i = l.length := by simp at hi; omega
          subst e
          rw [List.getElem_append_right (by omega)]
          simp only [Nat.sub_self, List.getElem_cons_zero]
          refine ⟨_, ht, fun j hj => ?_⟩
          rw [hl, hcell j hj, List.getD_eq_getElem?_getD, List.getElem?_eq_getElem (by omega)]
          rfl
    obtain ⟨l, hl, hr⟩ := key len (Nat.le_refl _)
    refine ⟨l, ?_⟩
    show E.Row W l (.slice (some a) len cap)
    by_cases h0 : len = 0
    · have : l = [] := List.eq_nil_of_length_eq_zero (by omega)
      subst this h0
      exact ⟨some a, cap, rfl, by simp, hcm, (fun h => by cases h), fun _ _ => .nilFunc, fun h => by simp at h, fun i hi => by simp at hi⟩
    · obtain ⟨c, _, h00⟩ := hr 0 (by omega)
      have h00 := h00 0 hp
      rw [Nat.zero_mul] at h00
      have ea : (a.add 0).add 0 = a := by unfold Addr.add; rw [if_pos rfl, if_pos rfl]
      rw [ea] at h00
      have hs0 : a.spot = none := by
        cases hsp : a.spot with
        | none => rfl
        | some s =>
          unfold World.cell? at h00
          cases hb : W.heap[a.block]? with
          | none => rw [hb] at h00; cases h00
          | some o => rw [hb] at h00; cases o <;> simp [hsp] at h00
      obtain ⟨b, off, spot⟩ := a
      simp only at hs0
      subst hs0
      refine Elem.Row.mk hl.symm (by omega) hcm (World.block_lt_of_cell? W _ h00) (fun i hi => ?_)
      obtain ⟨c, h1, h2⟩ := hr i hi
      refine ⟨c, h1, fun j hj => ?_⟩
      have := h2 j hj
      rw [Addr.add_lit, Addr.add_lit, Nat.add_assoc] at this
      exact this
/-- A slice that is handed in. -/
theorem row_of_val {α : Type} {E : Elem α} {P : Program} {T e : TypeId} (hT : P.underlying T = some (.slice e)) (hR : (rowE E).Reads P T)
    {H : Type} {enc : TypeId × Value → H} {W : World} {r : Reach} {b0 base : Nat} {spare : Nat → Bool} {held : Bool} {v : Value} {d : DataW H} {p : List MemPlace} (hv : Value.okWide P W r b0 T v)
    (h : DataW.Trod enc P W base spare held T v d p) : ∃ l, E.Row W l v := by
  obtain ⟨b, n, c, rfl⟩ := okWide_slice hT hv
  obtain ⟨fuel, hf⟩ := h
  obtain ⟨l, hl⟩ := hR enc W base spare held fuel _ _ hf
  exact ⟨l, hl⟩
end Fm

namespace Fm
open Go Go.RowKit

def stpE : Elem Stp where
  sz := 2
  R _ x c := c 0 = .string (str x.name) ∧ c 1 = .int .i64 x.place ∧ x.name.length ≤ 9223372036854775807 ∧ isI64 x.place
  ext _ h := h
  loc hc h := ⟨(hc 0 (by omega)).symm.trans h.1, (hc 1 (by omega)).symm.trans h.2.1, h.2.2⟩
def stpCells (x : Stp) : List Value := [.string (str x.name), .int .i64 x.place]
def stpsCells (l : List Stp) : List Value := (l.map stpCells).flatten
def stpWf (x : Stp) : Prop := x.name.length ≤ 9223372036854775807 ∧ isI64 x.place
theorem stpsCells_at : ∀ (l : List Stp) (i j : Nat) (hi : i < l.length), j < 2 → (stpsCells l)[i * 2 + j]? = (stpCells l[i])[j]?
  | [], i, j, hi, _ => by simp at hi
  | x :: l, 0, j, _, hj => by
    unfold stpsCells
    rw [List.map_cons, List.flatten_cons, List.getElem?_append_left (by simp [stpCells]; omega)]
    simp
  | x :: l, i + 1, j, hi, hj => by
    have ih := stpsCells_at l i j (by simpa using hi) hj
    unfold stpsCells at ih ⊢
    rw [List.map_cons, List.flatten_cons, List.getElem?_append_right (by simp [stpCells]; omega)]
    have e : (i + 1) * 2 + j - (stpCells x).length = i * 2 + j := by simp [stpCells]; omega
    rw [e, ih]
    simp
/-- A path that is handed in. -/
def PthV (w : World) (p : Pth) (v : Value) : Prop :=
  ∃ (a : Option Addr) (m c : Nat), v = .agg #[.int .i64 p.flow, .slice a m c] ∧ stpE.Row w p.steps (.slice a m c) ∧ isI64 p.flow
theorem PthV.ext {w w' : World} {p : Pth} {v : Value} (h : PthV w p v) (hE : Ext w w') : PthV w' p v := by
  obtain ⟨a, m, c, h1, h2, h3⟩ := h
  exact ⟨a, m, c, h1, h2.ext hE, h3⟩
/-- Steps in memory of one's own. -/
def OwnSt (e : TypeId) (base : Nat) (w : World) (v : Value) (l : List Stp) : Prop := w.ownsRow base e 2 v l.length (stpsCells l) ∧ ∀ x, x ∈ l → stpWf x
theorem OwnSt.nil (e : TypeId) (base : Nat) (w : World) : OwnSt e base w (.slice none 0 0) [] := ⟨World.ownsRow_nil w base e 2, fun x h => by cases h⟩
theorem OwnSt.ext {e : TypeId} {base : Nat} {w w' : World} {v : Value} {l : List Stp} (h : OwnSt e base w v l) (hE : Ext w w') : OwnSt e base w' v l := ⟨hE.own h.1, h.2⟩
theorem OwnSt.mono {e : TypeId} {base base' : Nat} {w : World} {v : Value} {l : List Stp} (h : OwnSt e base w v l) (hb : base' ≤ base) : OwnSt e base' w v l := ⟨ownsRow_base h.1 hb, h.2⟩
theorem OwnSt.lt {e : TypeId} {base : Nat} {w : World} {v : Value} {l : List Stp} (h : OwnSt e base w v l) (b : Nat) (hb : v.ownBlock = some b) : base ≤ b ∧ b < w.heap.size := World.ownsRow.lt h.1 b hb
theorem OwnSt.kept {e : TypeId} {base : Nat} {w w' : World} {v : Value} {l : List Stp} {row : Option Nat} (h : OwnSt e base w v l) (hg : w.grownBy w' row) (hr : ∀ b, row = some b → b < base) : OwnSt e base w' v l := by
  refine ⟨World.ownsRow.kept h.1 hg ?_, h.2⟩
  cases hv : v.ownBlock with
  | none => exact .inl rfl
  | some b => right; intro e; have := hr b e.symm; have := (World.ownsRow.lt h.1 b hv).1; omega
theorem OwnSt.slice {e : TypeId} {base : Nat} {w : World} {v : Value} {l : List Stp} (h : OwnSt e base w v l) : ∃ a c, v = .slice a l.length c := by
  rcases h.1.2 with ⟨rfl, h0⟩ | ⟨g, cap, cur, rfl, _⟩
  · exact ⟨none, 0, by rw [h0]⟩
  · exact ⟨_, _, rfl⟩
theorem OwnSt.row {e : TypeId} {base : Nat} {w : World} {v : Value} {l : List Stp} (h : OwnSt e base w v l) : stpE.Row w l v := by
  have hc := fun g => World.ownsRow.cells h.1 (g := g)
  rcases h.1.2 with ⟨rfl, h0⟩ | ⟨g, cap, cur, rfl, hb, hg, h1, h2, h5, h6⟩
  · have : l = [] := List.eq_nil_of_length_eq_zero h0
    subst this
    exact Elem.Row.void stpE w none
  · refine Elem.Row.mk rfl h1 h2 (Array.getElem?_eq_some_iff.1 hg).1 (fun i hi => ?_)
    have hwf := h.2 _ (List.getElem_mem hi)
    refine ⟨fun j => (stpCells l[i]).getD j .nilFunc, ⟨rfl, rfl, hwf⟩, fun j hj => ?_⟩
    have hj2 : j < 2 := hj
    have := hc g rfl (i * 2 + j) ((stpCells l[i]).getD j .nilFunc) (by
      rw [stpsCells_at l i j hi hj2, List.getD_eq_getElem?_getD, List.getElem?_eq_getElem (by simp [stpCells]; omega)]; rfl)
    rw [Addr.add_lit] at this
    exact this
/-- A path in memory of one's own. -/
def PthOwn (e : TypeId) (base : Nat) (w : World) (p : Pth) (v : Value) : Prop :=
  ∃ (a : Option Addr) (m c : Nat), v = .agg #[.int .i64 p.flow, .slice a m c] ∧ OwnSt e base w (.slice a m c) p.steps ∧ isI64 p.flow
theorem PthOwn.v {e : TypeId} {base : Nat} {w : World} {p : Pth} {v : Value} (h : PthOwn e base w p v) : PthV w p v := by
  obtain ⟨a, m, c, h1, h2, h3⟩ := h
  exact ⟨a, m, c, h1, h2.row, h3⟩
theorem PthOwn.ext {e : TypeId} {base : Nat} {w w' : World} {p : Pth} {v : Value} (h : PthOwn e base w p v) (hE : Ext w w') : PthOwn e base w' p v := by
  obtain ⟨a, m, c, h1, h2, h3⟩ := h
  exact ⟨a, m, c, h1, h2.ext hE, h3⟩
end Fm

namespace Fm
open Go Go.RowKit
/-- A configuration. -/
structure Cfg where
  k0 : Int
  k1 : Int
  k2 : Int
  k3 : Int
  k4 : Int
def CfgV (_ : World) (c : Cfg) (v : Value) : Prop := v = .agg #[.int .i64 c.k0, .int .i64 c.k1, .int .i64 c.k2, .int .i64 c.k3, .int .i64 c.k4] ∧ isI64 c.k0 ∧ isI64 c.k1 ∧ isI64 c.k2 ∧ isI64 c.k3 ∧ isI64 c.k4
end Fm
namespace Go.Proofs.YtgclfmdpapadnaaDoor
open Go Go.Proofs Fm Go.RowKit Go.ChangeShapes Go.WideShapes Go.ChangeAt

set_option maxRecDepth 100000 in
theorem fieldsCfg : Tryd.prog.underlying 32 = some (.struct #[⟨"Quota", 3, 0, false, "", "", 0⟩, ⟨"Depth", 3, 1, false, "", "", 8⟩, ⟨"Width", 3, 2, false, "", "", 16⟩, ⟨"Retry", 3, 3, false, "", "", 24⟩, ⟨"Flows", 3, 4, false, "", "", 32⟩]) := by kernel_rfl
theorem cellsC_cfg : Tryd.prog.cellsOf 32 = 5 := by kernel_rfl
theorem cellsC_int : Tryd.prog.cellsOf 3 = 1 := by kernel_rfl
set_option maxRecDepth 100000 in
/-- A configuration that is handed in by value. -/
theorem cfgv_of_val {H : Type} {enc : TypeId × Value → H} {W : World} {r : Reach} {b0 base : Nat} {spare : Nat → Bool} {held : Bool} {v : Value} {d : DataW H} {p : List MemPlace} (hv : Value.okWide Tryd.prog W r b0 32 v)
    (h : DataW.Trod enc Tryd.prog W base spare held 32 v d p) : ∃ x, CfgV W x v := by
  obtain ⟨cs, rfl, hsz⟩ := okWide_struct fieldsCfg hv
  obtain ⟨fuel, hf⟩ := h
  obtain ⟨xs, n, hfuel, hx, hlen, hxs, hf'⟩ := DataW.trod_struct fieldsCfg (show DataW.trod enc Tryd.prog W base spare held fuel 32 cs.toList = some (d, p) by simpa [Value.cells] using hf)
  rw [cellsC_cfg] at hlen
  match hcs : cs.toList, hlen with
  | [v0, v1, v2, v3, v4], _ =>
  rw [hcs] at hf'
  have g0 : DataW.trod enc Tryd.prog W base spare held n 3 (([v0, v1, v2, v3, v4].drop 0).take (Tryd.prog.cellsOf 3)) = xs[0]? := hf' 0 _ rfl
  have g1 : DataW.trod enc Tryd.prog W base spare held n 3 (([v0, v1, v2, v3, v4].drop 1).take (Tryd.prog.cellsOf 3)) = xs[1]? := hf' 1 _ rfl
  have g2 : DataW.trod enc Tryd.prog W base spare held n 3 (([v0, v1, v2, v3, v4].drop 2).take (Tryd.prog.cellsOf 3)) = xs[2]? := hf' 2 _ rfl
  have g3 : DataW.trod enc Tryd.prog W base spare held n 3 (([v0, v1, v2, v3, v4].drop 3).take (Tryd.prog.cellsOf 3)) = xs[3]? := hf' 3 _ rfl
  have g4 : DataW.trod enc Tryd.prog W base spare held n 3 (([v0, v1, v2, v3, v4].drop 4).take (Tryd.prog.cellsOf 3)) = xs[4]? := hf' 4 _ rfl
  rw [cellsC_int] at g0 g1 g2 g3 g4
  match xs, hxs with
  | [y0, y1, y2, y3, y4], _ =>
  obtain ⟨a0, r0, l0⟩ := reads_int Tryd.underlying3 enc W base spare held n [v0] y0 g0
  obtain ⟨a1, r1, l1⟩ := reads_int Tryd.underlying3 enc W base spare held n [v1] y1 g1
  obtain ⟨a2, r2, l2⟩ := reads_int Tryd.underlying3 enc W base spare held n [v2] y2 g2
  obtain ⟨a3, r3, l3⟩ := reads_int Tryd.underlying3 enc W base spare held n [v3] y3 g3
  obtain ⟨a4, r4, l4⟩ := reads_int Tryd.underlying3 enc W base spare held n [v4] y4 g4
  have ecs : cs = #[v0, v1, v2, v3, v4] := by rw [← hcs]
  have e0 : v0 = .int .i64 a0 := r0
  have e1 : v1 = .int .i64 a1 := r1
  have e2 : v2 = .int .i64 a2 := r2
  have e3 : v3 = .int .i64 a3 := r3
  have e4 : v4 = .int .i64 a4 := r4
  refine ⟨⟨a0, a1, a2, a3, a4⟩, ?_, l0, l1, l2, l3, l4⟩
  rw [ecs, e0, e1, e2, e3, e4]
end Go.Proofs.YtgclfmdpapadnaaDoor

open Go.RowKit Go.Shelf
namespace Fm
open Go Go.RowKit
/-- A node that stands otherwise, holds something else, is named anew. -/
def stG (k : UInt8) (inn : Nat → Bool) (i : Nat) (n : Nd) : Nd := ⟨n.id, if inn i then n.name else [111, 116, 104, 101, 114], n.kind, n.flow, n.owner, n.place, n.after, n.width, n.quota, UInt8.ofNat ((k.toNat + i) % 256 % 7), i, i, numT i⟩
def standF (k : UInt8) (i : Nat) (n : Nd) : Nd := { n with stand := UInt8.ofNat ((k.toNat + i) % 256 % 7), fails := i, tok := i, val := numT i }
def stW (w : World) (g o : Nat) (s x : Int) : World := ((((((w.setCell ⟨g, o + 9, none⟩ (.int .u8 s)).setCell ⟨g, o + 12, none⟩ (.int .u8 0)).setCell ⟨g, o + 12 + 1, none⟩ (.int .i64 x)).setCell ⟨g, o + 12 + 2, none⟩ (.string { data := #[] })).setCell ⟨g, o + 12 + 3, none⟩ (.slice none 0 0)).setCell ⟨g, o + 10, none⟩ (.int .i64 x)).setCell ⟨g, o + 11, none⟩ (.int .i64 x)
theorem standF_v {k : UInt8} {i : Nat} {n : Nd} {W : World} {C : List Value} (hi : i ≤ 1000) (h : NdV W n (.agg C.toArray)) : NdV W (standF k i n) (.agg (((((((C.set 9 (.int .u8 (((k.toNat : Int) + (i : Int)) % 256 % 7))).set 12 (.int .u8 0)).set 13 (.int .i64 i)).set 14 (.string { data := #[] })).set 15 (.slice none 0 0)).set 10 (.int .i64 i)).set 11 (.int .i64 i)).toArray) := by
  have hx : isI64 (i : Int) := by unfold isI64; omega
  have h1 := ndV_stand h (UInt8.ofNat ((k.toNat + i) % 256 % 7))
  rw [show (((UInt8.ofNat ((k.toNat + i) % 256 % 7)).toNat : Nat) : Int) = ((k.toNat : Int) + (i : Int)) % 256 % 7 by rw [UInt8.toNat_ofNat']; omega] at h1
  exact ndV_tok (ndV_fails (ndV_val4 (t := numT i) h1 (OwnT.mk (e := 0) (base := 0) (k := 0) (s := []) hx (by simp) (OwnL.nil _ _ _)).lies) hx) hx
theorem chain_owner {l : List Nd} (h : RightO l) : ∀ (p : Nat) (hp : p < l.length) (x : Int), x ∈ ownersF l p → ∃ q, q ∈ p :: chainO l p ∧ ∃ hq : q < l.length, l[q].owner = x ∧ l[q].flow = l[p].flow
  | p => fun hp x hx => by
    have h1 := h p hp
    by_cases h0 : 0 ≤ l[p].owner
    · obtain ⟨o, ho⟩ : ∃ o : Nat, l[p].owner = (o : Int) := ⟨l[p].owner.toNat, by omega⟩
      have hol : o < l.length := by omega
      unfold ownersF at hx
      rw [chainO_some h hp ho, List.map_cons, List.cons_append] at hx
      rcases List.mem_cons.1 hx with e | e
      · exact ⟨p, List.mem_cons_self, hp, by rw [ho, e], rfl⟩
      · obtain ⟨q, hq, hq2, hq3, hq4⟩ := chain_owner h o hol x (by unfold ownersF; exact e)
        refine ⟨q, ?_, hq2, hq3, hq4.trans (h1.2.2 o ho hol)⟩
        rw [chainO_some h hp ho]
        exact List.mem_cons_of_mem _ hq
    · unfold ownersF at hx
      rw [chainO_none hp (Int.not_le.1 h0), List.map_nil, List.nil_append, List.mem_singleton] at hx
      exact ⟨p, List.mem_cons_self, hp, by omega, rfl⟩
termination_by p => p
decreasing_by omega
/-- A set of numbers, as a map has it. -/
noncomputable def setI (S : List Int) : Int → Option Int := fun k => if k ∈ S then some 1 else none
end Fm
namespace Go.Proofs.YtgclfmdpapadnaaDoor
open Go Go.Proofs Fm
attribute [local go_sem] Oper.semAt_some

/-- Whoever is in the scope of a place. -/
def scI (l : List Nd) (o : Int) : List Int := natsI (scopeF l o)
/-- A place, and its chain. -/
def fromsF (l : List Nd) (owner : Int) : List Int := if 0 ≤ owner then owner :: natsI (upL l owner) else []
def inS (l : List Nd) (owner : Int) : List Int := (fromsF l owner).flatMap (scI l)
def innB (l : List Nd) (owner : Int) (i : Nat) : Bool := decide ((i : Int) ∈ inS l owner)
theorem setI_nil : (fun _ => none) = setI [] := by funext t; unfold setI; simp
theorem upL_lt {nd : List Nd} (hO : RightO nd) {i : Int} {o : Nat} (h : o ∈ upL nd i) : o < nd.length := by
  unfold upL at h
  cases hp : placeF nd i with
  | false => rw [hp] at h; cases h
  | true =>
    obtain ⟨h0, h1⟩ : 0 ≤ i ∧ i < nd.length := by unfold placeF at hp; simpa using hp
    rw [hp, if_pos rfl] at h
    have := chainO_lt hO i.toNat (by omega) o h
    omega
theorem IMap.cast {w : World} {b n : Nat} {f g : Int → Option Int} {sz : Nat} (h : IMap w b n f sz) (e : f = g) : IMap w b n g sz := by rw [← e]; exact h
/-- Numbers of one's own as what is appended. -/
theorem src_ints {w : World} {base : Nat} {v : Value} {l : List Int} (h : OwnN 3 base w v l) : Src Tryd.prog 1 33 v l.length (l.map (.int .i64)) w := by
  have hone : ∀ u, u ∈ l.map (Value.int .i64) → u.oneCell' = true := fun u hu => by
    obtain ⟨x, _, rfl⟩ := List.mem_map.1 hu
    rfl
  have hc := fun g => World.ownsRow.cells h (g := g)
  have hl := h.1
  rcases h.2 with ⟨rfl, h0⟩ | ⟨g, cap, cur, rfl, -⟩
  · have : l.map (Value.int .i64) = [] := List.eq_nil_of_length_eq_zero (by omega)
    rw [this, h0]
    exact Src.ofNil w Tryd.underlying33 0
  · exact Src.ofSlice w Tryd.underlying33 _ _ _ _ hl (fun j u hu => hc g rfl j u hu) hone
theorem setI_put (S : List Int) (x : Int) : iupd (setI S) x 1 = setI (S ++ [x]) := by
  funext t
  unfold iupd setI
  by_cases e : t = x
  · subst e; simp
  · rw [if_neg e]
    by_cases h : t ∈ S
    · rw [if_pos h, if_pos (List.mem_append_left _ h)]
    · rw [if_neg h, if_neg (fun hh => (List.mem_append.1 hh).elim h (fun k => e (by simpa using k)))]
theorem scI_len (l : List Nd) (o : Int) : (scI l o).length ≤ l.length := by
  unfold scI scopeF
  rw [natsI_len]
  split
  · exact ownTo_len _ _ _ _
  · exact Nat.zero_le _
theorem stands_same {l : List Nd} (hO : RightO l) {owner : Int} (hb : owner < (l.length : Int)) (k : UInt8) : SameS l (chgF (stG k (innB l owner)) l) owner := by
  refine ⟨(chgF_len _ _).symm, fun i h1 h2 => ?_, fun i h1 h2 h0 hf ho => ?_⟩
  · rw [chgF_at _ l i h2 h1]
    exact ⟨rfl, rfl, rfl, rfl⟩
  · rw [chgF_at _ l i h2 h1]
    obtain ⟨p, rfl⟩ : ∃ p : Nat, owner = (p : Int) := ⟨owner.toNat, by omega⟩
    have hp : p < l.length := by omega
    rw [nthF_at hp] at hf
    obtain ⟨q, hq, hql, hq1, hq2⟩ := chain_owner hO p hp _ ho
    have hin : innB l p i = true := by
      unfold innB inS
      rw [decide_eq_true_eq, List.mem_flatMap]
      have hpl : placeF l (p : Int) = true := by unfold placeF; simp; omega
      refine ⟨(q : Int), ?_, ?_⟩
      · unfold fromsF
        rw [if_pos (Int.natCast_nonneg p)]
        rcases List.mem_cons.1 hq with rfl | hq
        · exact List.mem_cons_self
        · refine List.mem_cons_of_mem _ (List.mem_map.2 ⟨q, ?_, rfl⟩)
          unfold upL
          rw [if_pos hpl]
          exact hq
      · unfold scI scopeF
        rw [if_pos (show placeF l (q : Int) = true by unfold placeF; simp; omega), nthF_at hql]
        refine List.mem_map.2 ⟨i, ?_, rfl⟩
        unfold ownIx ownTo
        rw [List.mem_filter]
        refine ⟨List.mem_range.2 h1, ?_⟩
        unfold ownB
        rw [nthF_at h1, hf, hq2, hq1]
        simp
    show (if innB l p i = true then l[i].name else _) = l[i].name
    rw [if_pos hin]
set_option maxRecDepth 100000 in
set_option maxHeartbeats 4000000 in
theorem checkStands_any (w : World) (c : Cfg) (cv : Value) (hcv : CfgV w c cv) (l : List Int) (lv : Value) (hlv : intE.Row w l lv) (at' : Int) (_hat : isI64 at') (q : Int) (_hq : isI64 q) (items : List It) (iv : Value) (hiv : itE.Row w items iv) (k : UInt8) :
    Calls Tryd.prog 6 #[cv, lv, .int .i64 at', .int .i64 q, iv, .int .u8 (k.toNat : Int)] w fun e w' => e = .returned (.bool true) ∧ Ext w w' := by
  obtain ⟨rfl, -⟩ := hcv
  obtain ⟨k0, k1, k2, k3, k4⟩ := c
  obtain ⟨al, cl, rfl, hl1, hl2⟩ := hlv.slice
  obtain ⟨ai, ci, rfl, hi1, hi2⟩ := hiv.slice
  obtain ⟨IN, hIN⟩ : ∃ IN, IN = min items.length 30 := ⟨_, rfl⟩
  have hmin : min (items.length : Int) 30 = (IN : Int) := by omega
  have hs := slice_it_upto ai items.length ci IN (by omega)
  obtain ⟨I, hI⟩ : ∃ I, I = items.take IN := ⟨_, rfl⟩
  have HI := Lib.hid (show itE.Row w I (.slice ai IN ci) by rw [hI]; exact hiv.take (by omega))
  have HIn := Lib.hid (show I.length = IN by rw [hI, List.length_take]; omega)
  have hi30 : IN ≤ 30 := by omega
  have HR := Lib.hid hlv
  have hE1 := (Ext.refl w).alloc (.cells #[.int .i64 k0, .int .i64 k1, .int .i64 k2, .int .i64 k3, .int .i64 k4] 32)
  have hB1 := BoxL.new w [.int .i64 k0, .int .i64 k1, .int .i64 k2, .int .i64 k3, .int .i64 k4] 32
  have HE1 := Lib.hid hE1
  have HB1 := Lib.hid hB1
  clear hI hIN hlv hiv hl1 hi1 hE1 hB1
  simp only
  go_enter Tryd.func6, Tryd.ntmps6
  go_upto_region 1 with (fail)
  have HCW0 := Lib.hid (show w.heap.size < (w.alloc (.cells #[.int .i64 k0, .int .i64 k1, .int .i64 k2, .int .i64 k3, .int .i64 k4] 32)).heap.size by simp)
  generalize w.alloc (.cells #[.int .i64 k0, .int .i64 k1, .int .i64 k2, .int .i64 k3, .int .i64 k4] 32) = W1 at *
  generalize hCB : w.heap.size = CB at *
  have HCB := Lib.hid hCB
  clear hCB
  go_wp2_with fail
  refine (owned_any l at' W1 _ (HR.out.ext HE1.out)).mono ?_
  rintro e w2 ⟨v2, rfl, hN2, hE2⟩
  obtain ⟨A2, C2, rfl⟩ := hN2.slice
  obtain ⟨L, hL⟩ : ∃ L, L = ownedF l := ⟨_, rfl⟩
  have hO : RightO L := by rw [hL]; exact ownedF_right l
  have hLl : L.length ≤ 60 := by rw [hL, ownedF_len]; omega
  obtain ⟨OW, hOW⟩ : ∃ OW, OW = ownerF l at' := ⟨_, rfl⟩
  have hob : -1 ≤ OW ∧ OW < (L.length : Int) := by rw [hOW, hL, ownedF_len]; exact ownerF_low l at'
  rw [← hL] at hN2
  rw [← hL, ← hOW]
  obtain ⟨LN, hLN⟩ : ∃ LN, LN = L.length := ⟨_, rfl⟩
  rw [← hLN] at hN2 hLl hob ⊢
  have HLN := Lib.hid hLN
  have HO := Lib.hid hO
  have HN2 := Lib.hid hN2
  have HE2 := Lib.hid (HE1.out.trans hE2)
  have HB2 := Lib.hid (HB1.out.ext hE2)
  clear hL hOW hLN hO hN2 hE2 HR HB1 HE1
  go_upto_region 3 with (fail)
  clear hmin hs
  go_wp2_with fail
  refine (few09_any I w2 _ (HI.out.ext HE2.out)).mono ?_
  cases hfw : fewF I with
  | false =>
    rintro e w3 ⟨rfl, hE3⟩
    have HE3 := Lib.hid (HE2.out.trans hE3)
    clear hfw hE3
    go_wp2_with fail
    refine (awake20_any w3).mono ?_
    rintro e w4 ⟨rfl, hE4⟩
    have HE4 := Lib.hid (HE3.out.trans hE4)
    clear hE4
    go_wp2
    go_ret
    exact ⟨rfl, HE4.out⟩
  | true =>
  rintro e w3 ⟨rfl, hE3⟩
  have HE3 := Lib.hid (HE2.out.trans hE3)
  have HB3 := Lib.hid (HB2.out.ext hE3)
  have HN3 := Lib.hid (HN2.out.ext hE3)
  clear hfw hE3 HB2 HN2
  have c0 := HB3.out.cell 0 _ rfl
  have c1 := HB3.out.cell 1 _ rfl
  have c2 := HB3.out.cell 2 _ rfl
  have c3 := HB3.out.cell 3 _ rfl
  have c4 := HB3.out.cell 4 _ rfl
  go_wp2_with fail
  obtain ⟨X, hX⟩ : ∃ X, X = checkF k1 k2 L OW q I := ⟨_, rfl⟩
  refine (cFrag_any L I HO.out (by rw [← HLN.out]; omega) (by rw [HIn.out]; omega) k0 k1 k2 k3 k4 OW q w3 _ _ HN3.out.row (HI.out.ext HE3.out)).mono ?_
  rw [← hX]
  have HX := Lib.hid hX
  rintro e w4 ⟨rfl, hE4⟩
  have HE4 := Lib.hid (HE3.out.trans hE4)
  have HB4 := Lib.hid (HB3.out.ext hE4)
  have HN4 := Lib.hid (HN3.out.ext hE4)
  clear hX hE4 HB3 HN3 c0 c1 c2 c3 c4 HE3 HE2
  have hmm := @run_makeMap Tryd.prog
  go_upto_region 7 with (fail)
  clear hmm
  have hE5 := (Ext.refl w4).alloc (.map #[] 0)
  have HM5 := Lib.hid (IMap.new w4)
  have HN5 := Lib.hid (HN4.out.ext hE5)
  have HE5 := Lib.hid hE5
  clear hE5
  generalize w4.alloc (.map #[] 0) = w5 at *
  generalize hMB : w4.heap.size = MB at *
  have HMB := Lib.hid hMB
  clear hMB
  go_upto_if 45 with (fail)
  go_cut [18, 20] from 44 to 68 (fun a b w' => ∃ sz : Nat, Hid (Ext w4 w') ∧ Hid (IMap w' MB (inS L OW).length (setI (inS L OW)) sz) ∧ Hid (FreeN 50 W1.heap.size w' (.slice A2 LN C2) L))
  case first =>
    by_cases how : 0 ≤ OW
    case neg =>
      have HZ := Lib.hid (show inS L OW = [] by unfold inS fromsF; rw [if_neg how]; rfl)
      go_wp2_with fail
      go_meet
      case rel => exact ⟨0, HE5, Lib.hid (by rw [HZ.out]; exact HM5.out.cast setI_nil), HN5⟩
    case pos =>
    have HFr := Lib.hid (show fromsF L OW = OW :: natsI (upL L OW) by unfold fromsF; rw [if_pos how])
    have hFl : (fromsF L OW).length ≤ 61 := by
      rw [HFr.out, List.length_cons, natsI_len]
      have := upL_short HO.out OW
      rw [← HLN.out] at this
      omega
    have HF6 := Lib.hid (show ∀ x, x ∈ fromsF L OW → isI64 x by
      rw [HFr.out]
      intro x hx
      rcases List.mem_cons.1 hx with rfl | hx
      · unfold isI64; omega
      · exact natsI_i64 (n := 60) (fun i hi => by have := upL_lt HO.out hi; have := HLN.out; omega) (by omega) x hx)
    go_wp2_with fail
    have hEa := (Ext.refl w5).alloc (.cells #[.int .i64 OW] 3)
    have HRo := Lib.hid (World.ownsRow_lit w5 #[.int .i64 OW] 1 (base := w5.heap.size) (e := 3) (size := 1) (Nat.le_refl _) (by unfold maxLen; omega) rfl)
    have HEa := Lib.hid hEa
    have hza : (w5.alloc (.cells #[.int .i64 OW] 3)).heap.size = w5.heap.size + 1 := by simp
    have HZa := Lib.hid hza
    clear hEa hza
    generalize w5.alloc (.cells #[.int .i64 OW] 3) = w6 at *
    refine (chain_any L OW HO.out (by rw [← HLN.out]; omega) w6 _ (HN5.out.ext HEa.out).row).mono ?_
    rintro e w7 ⟨v7, rfl, hC7, hE7⟩
    have HS7 := Lib.hid (src_ints hC7)
    obtain ⟨A7, C7, rfl⟩ := ownsRow_sl hC7
    have HR7 := Lib.hid (hE7.own HRo.out)
    have HE7 := Lib.hid (HEa.out.trans hE7)
    have HZ7 := Lib.hid (show w5.heap.size ≤ w7.heap.size from HE7.out.size)
    have hcl : (natsI (upL L OW)).length ≤ 60 := by have := HFr.out; rw [this, List.length_cons] at hFl; omega
    clear hC7 hE7 HRo HEa
    go_wp2_with (at_builtin; refine wpList_appAt _ elemint_F rfl _ _ 33 rfl w5.heap.size _ 1 _ rfl HR7.out _ _ _ rfl HS7.out (by unfold maxLen; omega) (by omega) HZ7.out ?_)
    intro v8 w8 hown8 hgrow8 _
    obtain ⟨g8, cap8, rfl⟩ : ∃ A C, v8 = .slice A (fromsF L OW).length C := by
      rw [HFr.out, List.length_cons, Nat.add_comm]
      exact ownsRow_sl hown8
    have HE8 := Lib.hid (HE7.out.grown hgrow8 (fun k e => (World.ownsRow.lt HR7.out k e).1))
    have HF8 := Lib.hid (show OwnN 3 w5.heap.size w8 (.slice g8 (fromsF L OW).length cap8) (fromsF L OW) by
      unfold OwnN
      have e : (fromsF L OW).map (Value.int .i64) = [.int .i64 OW] ++ (natsI (upL L OW)).map (.int .i64) := by rw [HFr.out]; rfl
      rw [e]
      have e2 : (fromsF L OW).length = 1 + (natsI (upL L OW)).length := by rw [HFr.out, List.length_cons, Nat.add_comm]
      rw [e2] at hown8 ⊢
      exact hown8)
    clear hown8 hgrow8 HS7 HR7 HE7
    have hM8 := HM5.out.kept HE8.out.grownBy (by simp)
    have HM8 := Lib.hid (hM8.cast setI_nil)
    have HN8 := Lib.hid (HN5.out.ext HE8.out)
    have HE8 := Lib.hid (HE5.out.trans HE8.out)
    have HgM := Lib.hid (show ∀ b, (Value.slice A2 LN C2).ownBlock = some b → some MB ≠ some b from fun b hb e => by
      have h1 := (HN4.out.lt b hb).2
      have h2 := HMB.out
      injection e with e
      omega)
    have hMB5 : MB < w5.heap.size := HM5.out.lt
    obtain ⟨FN, hFN⟩ : ∃ FN, FN = (fromsF L OW).length := ⟨_, rfl⟩
    rw [← hFN] at HF8 hFl ⊢
    have HFN := Lib.hid hFN
    clear hFN hM8 HM5 HN5 HFr hcl HZ7 HZa
    go_wp2_with fail
    go_loopw [53] (fun i wr => ∃ (j sz : Nat), j ≤ FN ∧ i = .int .i64 j ∧ Hid ((((fromsF L OW).take j).flatMap (scI L)).length ≤ 60 * j) ∧ Hid (Ext w4 wr) ∧ Hid (IMap wr MB (((fromsF L OW).take j).flatMap (scI L)).length (setI (((fromsF L OW).take j).flatMap (scI L))) sz) ∧ Hid (FreeN 50 W1.heap.size wr (.slice A2 LN C2) L) ∧ Hid (OwnN 3 w5.heap.size wr (.slice g8 FN cap8) (fromsF L OW))) (fun i _ => FN - (intOf i).toNat)
    case atStart => exact ⟨0, 0, by omega, rfl, Lib.hid (by simp), HE8, HM8, HN8, HF8⟩
    case round =>
      clear HE8 HM8 HN8 HF8
      obtain ⟨j, sz, hj, rfl, HSl, HE, HM, HN, HF⟩ := hrel
      by_cases hlt : j < FN
      case neg =>
        have HZ := Lib.hid (show ((fromsF L OW).take j).flatMap (scI L) = inS L OW by unfold inS; rw [show j = (fromsF L OW).length by have := HFN.out; omega, List.take_length])
        go_wp2_with fail
        go_meet
        case rel => exact ⟨sz, HE, Lib.hid (by rw [← HZ.out]; exact HM.out), HN⟩
      have hjF : j < (fromsF L OW).length := by have := HFN.out; omega
      obtain ⟨S, hS⟩ : ∃ S, S = ((fromsF L OW).take j).flatMap (scI L) := ⟨_, rfl⟩
      rw [← hS] at HSl HM
      obtain ⟨b, off, hgA, hb, hcell, hi6⟩ := int_at (HF.out.row HF6.out) (Ext.refl wr) j hjF
      subst hgA
      obtain ⟨o, ho⟩ : ∃ o, o = (fromsF L OW)[j] := ⟨_, rfl⟩
      rw [← ho] at hcell hi6
      have HS1 := Lib.hid (show ((fromsF L OW).take (j + 1)).flatMap (scI L) = S ++ scI L o by
        rw [List.take_succ_eq_append_getElem hjF, List.flatMap_append, ← hS, ← ho]; simp)
      have hj0 : (0 : Int) ≤ (j : Int) := by omega
      have hj1 : (j : Int) < (FN : Int) := by omega
      clear hS ho hjF
      go_wp2_with fail
      refine (nscope_any L (by rw [← HLN.out]; omega) o wr _ HN.out.row).mono ?_
      rintro e w9 ⟨v9, rfl, hC9, hE9⟩
      have hsl := scI_len L o
      rw [← HLN.out] at hsl
      obtain ⟨T, hT⟩ : ∃ T, T = scI L o := ⟨_, rfl⟩
      have hT6 : ∀ x, x ∈ T → isI64 x := by
        rw [hT]
        exact natsI_i64 (n := 60) (fun i hi => by
          unfold scopeF at hi
          split at hi
          · have := ownIx_lt hi; have := HLN.out; omega
          · cases hi) (by omega)
      rw [show natsI (scopeF L o) = T from hT.symm] at hC9
      rw [← hT] at HS1 hsl
      obtain ⟨A9, C9, rfl⟩ := ownsRow_sl hC9
      obtain ⟨TN, hTN⟩ : ∃ TN, TN = T.length := ⟨_, rfl⟩
      rw [← hTN] at hsl hC9 ⊢
      have HTN := Lib.hid hTN
      have HT6 := Lib.hid hT6
      have HC9 := Lib.hid hC9
      have HM9 := Lib.hid (HM.out.ext hE9)
      have HN9 := Lib.hid (HN.out.ext hE9)
      have HF9 := Lib.hid (HF.out.ext hE9)
      have HE9 := Lib.hid (HE.out.trans hE9)
      have hMw : MB < wr.heap.size := HM.out.lt
      clear hT hTN hC9 hE9 HM HN HF HE hT6 hcell
      go_wp2_with fail
      obtain ⟨wo, rfl⟩ : ∃ wo : World, wo = wr := ⟨_, rfl⟩
      go_loopw [61] (fun i wz => ∃ (m sz : Nat), m ≤ TN ∧ i = .int .i64 m ∧ Hid (Ext w4 wz) ∧ Hid (IMap wz MB (S ++ T.take m).length (setI (S ++ T.take m)) sz) ∧ Hid (FreeN 50 W1.heap.size wz (.slice A2 LN C2) L) ∧ Hid (OwnN 3 w5.heap.size wz (.slice (some ⟨b, off, none⟩) FN cap8) (fromsF L OW)) ∧ Hid (OwnN 3 wo.heap.size wz (.slice A9 TN C9) T)) (fun i _ => TN - (intOf i).toNat)
      case atStart => exact ⟨0, sz, by omega, rfl, HE9, Lib.hid (by simpa using HM9.out), HN9, HF9, HC9⟩
      case round =>
        clear HE9 HM9 HN9 HF9 HC9
        obtain ⟨m, sz, hm, rfl, HE, HM, HN, HF, HC⟩ := hrel
        by_cases hml : m < TN
        case neg =>
          have HZ := Lib.hid (show S ++ T.take m = ((fromsF L OW).take (j + 1)).flatMap (scI L) by rw [HS1.out, show m = T.length by have := HTN.out; omega, List.take_length])
          go_wp2_with fail
          go_roundw
          case rel => exact ⟨j + 1, sz, by omega, by go_num, Lib.hid (by have h1 := HSl.out; have h2 := HTN.out; rw [← HZ.out, show m = T.length by omega, List.take_length, List.length_append]; omega), HE, Lib.hid (by rw [← HZ.out]; exact HM.out), HN, HF⟩
          case measure => simp [intOf]; omega
        have hmT : m < T.length := by have := HTN.out; omega
        obtain ⟨b9, off9, hgA, hb9, hcell, hi6⟩ := int_at (HC.out.row HT6.out) (Ext.refl wr) m hmT
        subst hgA
        obtain ⟨x, hx⟩ : ∃ x, x = T[m] := ⟨_, rfl⟩
        rw [← hx] at hcell hi6
        have HI6 := Lib.hid hi6
        have HS2 := Lib.hid (show S ++ T.take (m + 1) = (S ++ T.take m) ++ [x] by rw [List.take_succ_eq_append_getElem hmT, ← hx, List.append_assoc])
        have hm0 : (0 : Int) ≤ (m : Int) := by omega
        have hm1 : (m : Int) < (TN : Int) := by omega
        clear hx hmT hi6
        go_wp2_with (refine wpList_iput rfl _ _ _ rfl rfl HM.out (by have h1 := HSl.out; have h2 := HTN.out; rw [List.length_append, List.length_take]; omega) x rfl HI6.out 1 rfl (by unfold isI64; omega) ?_; intro w11 hM11 hg11)
        have HM11 := Lib.hid (show IMap w11 MB (S ++ T.take (m + 1)).length (setI (S ++ T.take (m + 1))) _ by rw [HS2.out, ← setI_put, List.length_append]; exact hM11)
        have HE11 := Lib.hid (HE.out.grown hg11 (fun k e => by injection e with e; have := HMB.out; omega))
        have HN11 := Lib.hid (HN.out.kept hg11 HgM.out)
        have HF11 := Lib.hid (HF.out.kept hg11 (fun k e => by injection e with e; omega))
        have HC11 := Lib.hid (HC.out.kept hg11 (fun k e => by injection e with e; omega))
        clear hM11 hg11 HM HE HN HF HC
        go_wp2_with fail
        go_roundw
        case rel => exact ⟨m + 1, _, by omega, by go_num, HE11, HM11, HN11, HF11, HC11⟩
        case measure => simp [intOf]; omega
  case rest =>
    obtain ⟨sz, hEc, hMc, hNc⟩ := hcut
    have HEc := Lib.hid (HE4.out.trans hEc.out)
    have HBc := Lib.hid (HB4.out.ext hEc.out)
    have HgL := Lib.hid (show ∀ b, (Value.slice A2 LN C2).ownBlock = some b → W1.heap.size ≤ b ∧ b < MB from fun b hb => by
      have h1 := HN4.out.lt b hb
      have h2 := HMB.out
      omega)
    have HCW : Hid (CB < W1.heap.size ∧ w.heap.size = CB) := Lib.hid (by have h1 := HCB.out; exact ⟨HCW0.out, h1⟩)
    obtain ⟨nS, hnS⟩ : ∃ nS, nS = (inS L OW).length := ⟨_, rfl⟩
    rw [← hnS] at hMc
    clear HN4 HE4 HB4 hEc HM5 HN5 HE5 hnS HMB
    apply_assumption
    go_wp2_with fail
    go_loopw [71] (fun i wr => ∃ j : Nat, j ≤ LN ∧ i = .int .i64 j ∧ Hid (Ext w wr) ∧ Hid (BoxL wr CB [.int .i64 k0, .int .i64 k1, .int .i64 k2, .int .i64 k3, .int .i64 k4]) ∧ Hid (IMap wr MB nS (setI (inS L OW)) sz) ∧ Hid (FreeN 50 W1.heap.size wr (.slice A2 LN C2) (chgTo (stG k (innB L OW)) L j))) (fun i _ => LN - (intOf i).toNat)
    case atStart => exact ⟨0, by omega, rfl, HEc, HBc, hMc, Lib.hid (by rw [chgTo_zero]; exact hNc.out)⟩
    case round =>
      clear HEc HBc hMc hNc
      obtain ⟨j, hj, rfl, HE, HB, HM, HN⟩ := hrel
      by_cases hlt : j < LN
      case neg =>
        have HN := Lib.hid (show FreeN 50 W1.heap.size wr (.slice A2 LN C2) (chgF (stG k (innB L OW)) L) by have := HN.out; rwa [show j = L.length by have := HLN.out; omega, chgTo_all] at this)
        have c0 := HB.out.cell 0 _ rfl
        have c1 := HB.out.cell 1 _ rfl
        have c2 := HB.out.cell 2 _ rfl
        have c3 := HB.out.cell 3 _ rfl
        have c4 := HB.out.cell 4 _ rfl
        go_wp2_with fail
        refine (cFrag_any (chgF (stG k (innB L OW)) L) I (chgF_right HO.out (fun i n => ⟨rfl, rfl⟩)) (by rw [chgF_len, ← HLN.out]; omega) (by rw [HIn.out]; omega) k0 k1 k2 k3 k4 OW q wr _ _ HN.out.row (HI.out.ext HE.out)).mono ?_
        rw [(stands_same HO.out (by rw [← HLN.out]; exact hob.2) k).check, ← HX.out]
        rintro e w5 ⟨rfl, hE5⟩
        have HE5 := Lib.hid (HE.out.trans hE5)
        have hxx : (X == X) = true := by simp
        clear hE5 c0 c1 c2 c3 c4 HM HN HB HE
        go_wp2_with fail
        refine (awake20_any w5).mono ?_
        rintro e w6 ⟨rfl, hE6⟩
        have HE6 := Lib.hid (HE5.out.trans hE6)
        clear hE6
        go_wp2
        go_ret
        exact ⟨rfl, HE6.out⟩
      have hjl : j < L.length := by have := HLN.out; omega
      have hlen : (chgTo (stG k (innB L OW)) L j).length = LN := by rw [chgTo_len, HLN.out]
      obtain ⟨g, cap, hA, hg1, hg2⟩ := HN.out.form (by omega)
      rw [hlen] at hA
      injection hA with hA1 hA2 hA3
      subst hA1 hA3
      have hgM := (HgL.out g rfl).2
      have hO := HN.out.relen hlen.symm
      have hjc : j < (chgTo (stG k (innB L OW)) L j).length := by omega
      obtain ⟨⟨u9, q9⟩, f9⟩ := hO.spot hjc 9 (by omega)
      obtain ⟨⟨u10, q10⟩, f10⟩ := hO.spot hjc 10 (by omega)
      obtain ⟨⟨u11, q11⟩, f11⟩ := hO.spot hjc 11 (by omega)
      obtain ⟨⟨u12, q12⟩, f12⟩ := hO.spot hjc 12 (by omega)
      obtain ⟨⟨u13, q13⟩, f13⟩ := hO.spot hjc 13 (by omega)
      obtain ⟨⟨u14, q14⟩, f14⟩ := hO.spot hjc 14 (by omega)
      obtain ⟨⟨u15, q15⟩, f15⟩ := hO.spot hjc 15 (by omega)
      have hP := hO.puts hjc (standF k j (chgTo (stG k (innB L OW)) L j)[j]) [(9, .int .u8 (((k.toNat : Int) + (j : Int)) % 256 % 7)), (12, .int .u8 0), (13, .int .i64 j), (14, .string { data := #[] }), (15, .slice none 0 0), (10, .int .i64 j), (11, .int .i64 j)] (by intro u hu; simp only [List.mem_cons, List.not_mem_nil, or_false] at hu; rcases hu with rfl | rfl | rfl | rfl | rfl | rfl | rfl <;> simp) (fun W C h => standF_v (by omega) h)
      have hP1 : FreeN 50 W1.heap.size (stW wr g (j * 16) (((k.toNat : Int) + (j : Int)) % 256 % 7) j) (.slice (some ⟨g, 0, none⟩) _ C2) ((chgTo (stG k (innB L OW)) L j).set j (standF k j (chgTo (stG k (innB L OW)) L j)[j])) := hP.1
      have hP2 : wr.grownBy (stW wr g (j * 16) (((k.toNat : Int) + (j : Int)) % 256 % 7) j) (some g) := hP.2
      have HP1 := Lib.hid hP1
      have HE5 := Lib.hid (HE.out.grown hP2 (fun b e => by injection e with e; have := HCW.out; omega))
      have HB5 := Lib.hid (HB.out.kept hP2 (fun e => by injection e with e; have := HCW.out; omega))
      have HM5 := Lib.hid (HM.out.kept hP2 (fun e => by injection e with e; omega))
      have hj0 : (0 : Int) ≤ (j : Int) := by omega
      have hj1 : (j : Int) < (LN : Int) := by omega
      clear hO hP hP1 hP2
      go_upto_region 21 with (fail)
      clear q9 q10 q11 q12 q13 q14 q15 f9 f10 f11 f12 f13 f14 f15
      change Code.wp _ _ _ _ (stW wr g (j * 16) (((k.toNat : Int) + (j : Int)) % 256 % 7) j)
      generalize stW wr g (j * 16) (((k.toNat : Int) + (j : Int)) % 256 % 7) j = W5 at *
      have hlook := HM5.out.look (s := (j : Int)) (by unfold isI64; omega)
      have hlen5 : ((chgTo (stG k (innB L OW)) L j).set j (standF k j (chgTo (stG k (innB L OW)) L j)[j])).length = LN := by rw [List.length_set]; exact hlen
      cases hin : innB L OW j with
      | true =>
        have hin' : (j : Int) ∈ inS L OW := by unfold innB at hin; simpa using hin
        rw [show (setI (inS L OW) (j : Int)).getD 0 = 1 by unfold setI; rw [if_pos hin']; rfl] at hlook
        have HN5 := Lib.hid (show FreeN 50 W1.heap.size W5 (.slice (some ⟨g, 0, none⟩) LN C2) (chgTo (stG k (innB L OW)) L (j + 1)) by
          rw [chgTo_succ _ _ _ hjl, show stG k (innB L OW) j L[j] = standF k j (chgTo (stG k (innB L OW)) L j)[j] by rw [chgTo_at _ _ _ hjc hjl]; unfold stG standF; rw [hin]; rfl]
          exact HP1.out.relen hlen)
        clear hin hin' HP1
        go_wp2_with fail
        go_roundw
        case rel => exact ⟨j + 1, by omega, by go_num, HE5, HB5, HM5, HN5⟩
        case measure => simp [intOf]; omega
      | false =>
        have hin' : ¬ (j : Int) ∈ inS L OW := by unfold innB at hin; simpa using hin
        rw [show (setI (inS L OW) (j : Int)).getD 0 = 0 by unfold setI; rw [if_neg hin']; rfl] at hlook
        have hO6 := HP1.out.relen (hlen.trans hlen5.symm)
        have hj6 : j < ((chgTo (stG k (innB L OW)) L j).set j (standF k j (chgTo (stG k (innB L OW)) L j)[j])).length := by omega
        obtain ⟨⟨u1, q1⟩, f1⟩ := hO6.spot hj6 1 (by omega)
        have hP6 := hO6.put hj6 1 (by omega) (.string (str [111, 116, 104, 101, 114])) _ (fun w' C h => ndV_name h (s := [111, 116, 104, 101, 114]) (by simp))
        have HN6 := Lib.hid (show FreeN 50 W1.heap.size (W5.setCell ⟨g, j * 16 + 1, none⟩ (.string { data := #[111, 116, 104, 101, 114] })) (.slice (some ⟨g, 0, none⟩) LN C2) (chgTo (stG k (innB L OW)) L (j + 1)) by
          have h := hP6.1.relen hlen5
          rw [List.set_set, List.getElem_set_self] at h
          rw [chgTo_succ _ _ _ hjl, show stG k (innB L OW) j L[j] = { standF k j (chgTo (stG k (innB L OW)) L j)[j] with name := [111, 116, 104, 101, 114] } by rw [chgTo_at _ _ _ hjc hjl]; unfold stG standF; rw [hin]; rfl]
          exact h)
        have hg6 : W5.grownBy (W5.setCell ⟨g, j * 16 + 1, none⟩ (.string { data := #[111, 116, 104, 101, 114] })) (some g) := hP6.2
        have HE6 := Lib.hid (HE5.out.grown hg6 (fun b e => by injection e with e; have := HCW.out; omega))
        have HB6 := Lib.hid (HB5.out.kept hg6 (fun e => by injection e with e; have := HCW.out; omega))
        have HM6 := Lib.hid (HM5.out.kept hg6 (fun e => by injection e with e; omega))
        clear hin hin' HP1 hO6 hP6 hg6
        go_wp2_with fail
        go_roundw
        case rel => exact ⟨j + 1, by omega, by go_num, HE6, HB6, HM6, HN6⟩
        case measure => simp [intOf]; omega
end Go.Proofs.YtgclfmdpapadnaaDoor

namespace Go.Proofs.YtgclfmdpapadnaaDoor
open Go Go.Proofs Fm Go.RowKit Go.ChangeShapes Go.WideShapes Go.ChangeAt

set_option maxRecDepth 100000 in
theorem fields6 : Tryd.prog.underlying 27 = some (.struct #[⟨"Name", 9, 0, false, "", "", 0⟩, ⟨"Kind", 5, 1, false, "", "", 16⟩, ⟨"After", 25, 2, false, "", "", 24⟩, ⟨"Over", 9, 3, false, "", "", 48⟩, ⟨"Width", 3, 4, false, "", "", 64⟩, ⟨"Quota", 3, 5, false, "", "", 72⟩]) := by kernel_rfl
theorem cells_item : Tryd.prog.cellsOf 27 = 6 := by kernel_rfl
theorem cells_str : Tryd.prog.cellsOf 9 = 1 := by kernel_rfl
theorem cells_u8 : Tryd.prog.cellsOf 5 = 1 := by kernel_rfl
theorem cells_int : Tryd.prog.cellsOf 3 = 1 := by kernel_rfl
theorem cells_strs : Tryd.prog.cellsOf 25 = 1 := by kernel_rfl
theorem reads_strs : (rowE strE).Reads Tryd.prog 25 := reads_slice Tryd.underlying25 cells_str (reads_str Tryd.underlying9) (by decide)

set_option maxRecDepth 100000 in
theorem reads_it : itE.Reads Tryd.prog 27 := by
  intro H enc W base spare held fuel cs x h
  obtain ⟨xs, n, hfuel, hx, hlen, hxs, hf⟩ := DataW.trod_struct fields6 h
  rw [cells_item] at hlen
  match cs, hlen with
  | [v0, v1, v2, v3, v4, v5], _ =>
  have g0 : DataW.trod enc Tryd.prog W base spare held n 9 (([v0, v1, v2, v3, v4, v5].drop 0).take (Tryd.prog.cellsOf 9)) = xs[0]? := hf 0 _ rfl
  have g1 : DataW.trod enc Tryd.prog W base spare held n 5 (([v0, v1, v2, v3, v4, v5].drop 1).take (Tryd.prog.cellsOf 5)) = xs[1]? := hf 1 _ rfl
  have g2 : DataW.trod enc Tryd.prog W base spare held n 25 (([v0, v1, v2, v3, v4, v5].drop 2).take (Tryd.prog.cellsOf 25)) = xs[2]? := hf 2 _ rfl
  have g3 : DataW.trod enc Tryd.prog W base spare held n 9 (([v0, v1, v2, v3, v4, v5].drop 3).take (Tryd.prog.cellsOf 9)) = xs[3]? := hf 3 _ rfl
  have g4 : DataW.trod enc Tryd.prog W base spare held n 3 (([v0, v1, v2, v3, v4, v5].drop 4).take (Tryd.prog.cellsOf 3)) = xs[4]? := hf 4 _ rfl
  have g5 : DataW.trod enc Tryd.prog W base spare held n 3 (([v0, v1, v2, v3, v4, v5].drop 5).take (Tryd.prog.cellsOf 3)) = xs[5]? := hf 5 _ rfl
  rw [cells_str] at g0 g3
  rw [cells_u8] at g1
  rw [cells_strs] at g2
  rw [cells_int] at g4 g5
  match xs, hxs with
  | [y0, y1, y2, y3, y4, y5], _ =>
  obtain ⟨a0, r0, l0⟩ := reads_str Tryd.underlying9 enc W base spare held n [v0] y0 g0
  obtain ⟨a1, r1⟩ := reads_u8 Tryd.underlying5 enc W base spare held n [v1] y1 g1
  obtain ⟨a2, r2⟩ := reads_strs enc W base spare held n [v2] y2 g2
  obtain ⟨a3, r3, l3⟩ := reads_str Tryd.underlying9 enc W base spare held n [v3] y3 g3
  obtain ⟨a4, r4, l4⟩ := reads_int Tryd.underlying3 enc W base spare held n [v4] y4 g4
  obtain ⟨a5, r5, l5⟩ := reads_int Tryd.underlying3 enc W base spare held n [v5] y5 g5
  exact ⟨⟨a0, a1, a2, a3, a4, a5⟩, r0, r1, r2, r3, r4, r5, l0, l3, l4, l5⟩
theorem reads_items : (rowE itE).Reads Tryd.prog 22 := reads_slice Tryd.underlying22 cells_item reads_it (by decide)
end Go.Proofs.YtgclfmdpapadnaaDoor

namespace Fm
open Go Go.RowKit
end Fm
namespace Go.Proofs.YtgclfmdpapadnaaDoor
open Go Go.Proofs Fm Go.RowKit Go.ChangeShapes Go.WideShapes Go.ChangeAt
theorem cells_intN : Tryd.prog.cellsOf 3 = 1 := by kernel_rfl
theorem reads_intsN : (rowE intE).Reads Tryd.prog 33 := reads_slice Tryd.underlying33 cells_intN (reads_int Tryd.underlying3) (by decide)
end Go.Proofs.YtgclfmdpapadnaaDoor
