/- Walks: op.Bytes; the law's Few. -/
import Derived.Test.YtdienbcjfljjnaaGreatDoorOpB
import Derived.Test.YtdienbcjfljjnaaGreatDoorFragP
import Derived.Test.YtdienbcjfljjnaaGreatDoorFragG
import Derived.Test.YtdienbcjfljjnaaGreatDoorVaH
open Go.RowKit Go.Shelf
namespace Go.Proofs.YtdienbcjfljjnaaGreatDoor
open Go Go.Proofs Fm

/-- What Bytes comes to. -/
def OBytes (w : World) (o : Opn) (e : Ending) (w' : World) : Prop :=
  ∃ (a : Option Addr) (m c : Nat) (n : Int), e = .returned (.tuple #[.slice a m c, .int .i64 n]) ∧ Ext w w' ∧ (rightO o = false → n = 2 ∧ m = 0) ∧ (rightO o = true → n = 0 ∧ OwnBytes w w' (.slice a m c) (opBy o))
theorem opParts_le {o : Opn} (h : rightO o = true) : o.id.length ≤ 400 ∧ (bytesT o.val).length ≤ 24000 ∧ (fragBy o.frg).length ≤ 50000 := by
  obtain ⟨_, ⟨n1, n2, n3, n4, n5⟩, gi, gt, gv, gf, gq⟩ := rightO_iff.1 h
  refine ⟨?_, ?_, ?_⟩
  · cases hb : oI o.what with
    | true => exact (idB_iff.1 (gi hb)).2.2
    | false => rw [n1 hb]; simp
  · cases hb : oV o.what with
    | true =>
      obtain ⟨a, b, c⟩ := rightT_iff.1 (gv hb)
      have := bytesT_le o.val a
      omega
    | false =>
      rw [n3 hb, zT, bytesT_node, List.length_append, if_pos rfl]
      have := numB_le ((0 : UInt8).toNat : Int)
      have := numB_le 0
      omega
  · cases hb : oF o.what with
    | true => exact fragBy_le (gf hb)
    | false => rw [n4 hb]; decide +kernel

set_option maxRecDepth 100000 in
set_option maxHeartbeats 8000000 in
theorem opBytes_bad (o : Opn) (hr1 : rightO o = false) (w : World) (v : Value) (hv : OpV w o v) (hT : KTab w) :
    Calls Tryz.prog 19 #[v] w (OBytes w o) := by
  have HV := Lib.hid hv
  obtain ⟨k, n, s, d, a, m, c, rfl, hl, hr, hi, ht, hq⟩ := hv
  have HRR := Lib.hid hr1
  have HT := Lib.hid hT
  obtain ⟨KK, hKK⟩ : ∃ KK : Int, KK = (o.what.toNat : Int) := ⟨_, rfl⟩
  rw [← hKK] at HV ⊢
  clear hl hr hT hKK hr1 hi ht hq
  have hB := BoxL.new w [.int .u8 KK, .string (str o.id), .int .i64 o.tok, k, n, s, d, .slice a m c, .int .i64 o.quo] 46
  have hE := (Ext.refl w).alloc (.cells #[.int .u8 KK, .string (str o.id), .int .i64 o.tok, k, n, s, d, .slice a m c, .int .i64 o.quo] 46)
  go_enter Tryz.func19, Tryz.ntmps19
  go_wp2_with fail
  generalize w.alloc (.cells #[.int .u8 KK, .string (str o.id), .int .i64 o.tok, k, n, s, d, .slice a m c, .int .i64 o.quo] 46) = W1 at *
  have HE1 := Lib.hid hE
  clear hB hE
  refine (opRight_any o W1 _ (HV.out.ext HE1.out) (HT.out.ext HE1.out)).mono ?_
  rw [HRR.out]
  rintro e w2 ⟨rfl, hE2⟩
  have HP : Hid (OBytes w o (.returned (.tuple #[.slice none 0 0, .int .i64 2])) w2) := Lib.hid ⟨_, _, _, _, rfl, HE1.out.trans hE2, fun _ => ⟨rfl, rfl⟩, fun h => (by rw [HRR.out] at h; cases h)⟩
  clear hE2 HE1
  go_wp2
  refine bodyPost_ret (v := .tuple #[.slice none 0 0, .int .i64 2]) (by simp [results, Tryz.results19, go_sem]) rfl HP.out

set_option maxRecDepth 100000 in
set_option maxHeartbeats 8000000 in
theorem opBytes_1 (o : Opn) (hk : o.what = 1) (hr1 : rightO o = true) (w : World) (v : Value) (hv : OpV w o v) (hT : KTab w) :
    Calls Tryz.prog 19 #[v] w (OBytes w o) := by
  have HV := Lib.hid hv
  obtain ⟨k, n, s, d, a, m, c, rfl, hl, hr, hi, ht, hq⟩ := hv
  obtain ⟨_, ⟨_, _, _, _, _⟩, gi, gt, gv, gf, gq⟩ := rightO_iff.1 hr1
  have HRR := Lib.hid hr1
  have hL := opParts_le hr1
  obtain ⟨l1, l3, l4⟩ := hL
  have HOF : Hid (∀ w, KTab w → Calls Tryz.prog 56 #[.int .u8 (o.what.toNat : Int)] w fun e w' => e = .returned (.int .u8 (oN o.what)) ∧ w = w') := Lib.hid (fun w h => of_any o.what w h)
  have HBY : Hid (opBy o = numB o.what.toNat ++ (fragBy o.frg ++ (numB o.quo))) := Lib.hid (by unfold opBy opTail; rw [hk]; simp [oI, oT, oV, oF, oQ])
  have HL := Lib.hid hl
  have HR := Lib.hid hr
  have HT := Lib.hid hT
  have hkn : (o.what.toNat : Int) = 1 := by rw [hk]; rfl
  obtain ⟨KK, hKK⟩ : ∃ KK : Int, KK = (o.what.toNat : Int) := ⟨_, rfl⟩
  obtain ⟨H, hH⟩ : ∃ H : Int, H = oN o.what := ⟨_, rfl⟩
  have t1 : (bits BinOp.and IntKind.u8 H 1 != 0) = true := by rw [hH, bitsF, hk]; rfl
  have t2 : (bits BinOp.and IntKind.u8 H 2 != 0) = true := by rw [hH, bitsQ, hk]; rfl
  have t4 : (bits BinOp.and IntKind.u8 H 4 != 0) = false := by rw [hH, bitsI, hk]; rfl
  have t8 : (bits BinOp.and IntKind.u8 H 8 != 0) = false := by rw [hH, bitsT, hk]; rfl
  have t16 : (bits BinOp.and IntKind.u8 H 16 != 0) = false := by rw [hH, bitsV, hk]; rfl
  rw [← hKK, ← hH] at HOF
  rw [← hKK] at HV ⊢
  have hK1 : KK = 1 := by rw [hKK, hkn]
  have hwr : IntKind.i64.wrap KK = KK := IntWalk.i64_in _ (by omega)
  have HKI : Hid (isI64 KK) := Lib.hid (by unfold isI64; omega)
  have HKB : Hid (numB KK = numB o.what.toNat) := Lib.hid (by rw [hKK])
  have HK1 := Lib.hid hK1
  clear hl hr hT hKK hH hkn hK1 hk hr1 gi gt gv gf gq
  have hB := BoxL.new w [.int .u8 KK, .string (str o.id), .int .i64 o.tok, k, n, s, d, .slice a m c, .int .i64 o.quo] 46
  have hE := (Ext.refl w).alloc (.cells #[.int .u8 KK, .string (str o.id), .int .i64 o.tok, k, n, s, d, .slice a m c, .int .i64 o.quo] 46)
  go_enter Tryz.func19, Tryz.ntmps19
  go_wp2_with fail
  generalize w.alloc (.cells #[.int .u8 KK, .string (str o.id), .int .i64 o.tok, k, n, s, d, .slice a m c, .int .i64 o.quo] 46) = W1 at *
  have HB1 := Lib.hid hB
  have HE1 := Lib.hid hE
  clear hB hE
  refine (opRight_any o W1 _ (HV.out.ext HE1.out) (HT.out.ext HE1.out)).mono ?_
  rw [HRR.out]
  rintro e w2 ⟨rfl, hE2⟩
  have HB := Lib.hid (HB1.out.ext hE2)
  have HE2 := Lib.hid (HE1.out.trans hE2)
  clear hE2 HB1 HE1
  have ⟨p0, p1, p2, p3, p4, p5, p6, p7, p8⟩ := HB.out.nine
  go_wp2_with fail
  refine (HOF.out w2 (HT.out.ext HE2.out)).mono ?_
  rintro e wq ⟨rfl, rfl⟩
  go_wp2_with fail
  refine (num_any _ [] w2 (Bytes.nil _) (by simp) KK HKI.out).mono ?_
  rintro e w3 ⟨v3, rfl, r3⟩
  have O3 : Hid (OwnB w.heap.size w3 v3 ([] ++ numB KK)) := Lib.hid (r3.own.mono (by have := HE2.out.size; omega))
  have HE3 := Lib.hid (HE2.out.trans r3.2)
  have HBn := Lib.hid (HB.out.ext r3.2)
  clear r3 HB p0 p1 p2 p3 p4 p5 p6 p7 p8
  have HB := HBn
  clear HBn
  have ⟨p0, p1, p2, p3, p4, p5, p6, p7, p8⟩ := HB.out.nine
  go_wp2_with fail
  refine (fput_any o.frg w3 _ _ _ O3.out.bytes (HR.out.ext HE3.out) (by have := numB_le KK; have := numB_le o.tok; have := textB_le o.id; simp only [List.length_append, List.length_nil]; omega)).mono ?_
  rintro e w4 ⟨v4, rfl, r4⟩
  have O4 : Hid (OwnB w.heap.size w4 v4 (([] ++ numB KK) ++ fragBy o.frg)) := Lib.hid (r4.own.mono (by have := HE3.out.size; omega))
  have HE4 := Lib.hid (HE3.out.trans r4.2)
  have HBn := Lib.hid (HB.out.ext r4.2)
  clear r4 HB p0 p1 p2 p3 p4 p5 p6 p7 p8
  have HB := HBn
  clear HBn
  have ⟨p0, p1, p2, p3, p4, p5, p6, p7, p8⟩ := HB.out.nine
  go_wp2_with fail
  refine (num_any _ _ w4 O4.out.bytes (by have := numB_le KK; have := numB_le o.tok; have := textB_le o.id; simp only [List.length_append, List.length_nil]; omega) o.quo hq).mono ?_
  rintro e w5 ⟨v5, rfl, r5⟩
  have O5 : Hid (OwnB w.heap.size w5 v5 ((([] ++ numB KK) ++ fragBy o.frg) ++ numB o.quo)) := Lib.hid (r5.own.mono (by have := HE4.out.size; omega))
  have HE5 := Lib.hid (HE4.out.trans r5.2)
  have HBn := Lib.hid (HB.out.ext r5.2)
  clear r5 HB p0 p1 p2 p3 p4 p5 p6 p7 p8
  have HB := HBn
  clear HBn
  have ⟨p0, p1, p2, p3, p4, p5, p6, p7, p8⟩ := HB.out.nine
  have hby : ((([] ++ numB KK) ++ fragBy o.frg) ++ numB o.quo) = opBy o := by rw [HBY.out, HKB.out]; simp only [List.nil_append, List.append_assoc]
  have OB := O5.out
  rw [hby] at OB
  obtain ⟨av, cv, hvv, -⟩ := id OB.bytes
  subst hvv
  have HP : Hid (OBytes w o (.returned (.tuple #[.slice av (opBy o).length cv, .int .i64 0])) w5) := Lib.hid ⟨_, _, _, _, rfl, HE5.out, fun h => (by rw [HRR.out] at h; cases h), fun _ => ⟨rfl, OB, HE5.out⟩⟩
  generalize (opBy o).length = L at *
  clear OB hby O5
  go_wp2
  refine bodyPost_ret (v := .tuple #[.slice av L cv, .int .i64 0]) (by simp [results, Tryz.results19, go_sem]) rfl HP.out

set_option maxRecDepth 100000 in
set_option maxHeartbeats 8000000 in
theorem opBytes_2 (o : Opn) (hk : o.what = 2) (hr1 : rightO o = true) (w : World) (v : Value) (hv : OpV w o v) (hT : KTab w) :
    Calls Tryz.prog 19 #[v] w (OBytes w o) := by
  have HV := Lib.hid hv
  obtain ⟨k, n, s, d, a, m, c, rfl, hl, hr, hi, ht, hq⟩ := hv
  obtain ⟨_, ⟨_, _, _, _, _⟩, gi, gt, gv, gf, gq⟩ := rightO_iff.1 hr1
  have HRR := Lib.hid hr1
  have hL := opParts_le hr1
  obtain ⟨l1, l3, l4⟩ := hL
  have HOF : Hid (∀ w, KTab w → Calls Tryz.prog 56 #[.int .u8 (o.what.toNat : Int)] w fun e w' => e = .returned (.int .u8 (oN o.what)) ∧ w = w') := Lib.hid (fun w h => of_any o.what w h)
  have HBY : Hid (opBy o = numB o.what.toNat ++ (textB o.id)) := Lib.hid (by unfold opBy opTail; rw [hk]; simp [oI, oT, oV, oF, oQ])
  have HL := Lib.hid hl
  have HR := Lib.hid hr
  have HT := Lib.hid hT
  have hkn : (o.what.toNat : Int) = 2 := by rw [hk]; rfl
  obtain ⟨KK, hKK⟩ : ∃ KK : Int, KK = (o.what.toNat : Int) := ⟨_, rfl⟩
  obtain ⟨H, hH⟩ : ∃ H : Int, H = oN o.what := ⟨_, rfl⟩
  have t1 : (bits BinOp.and IntKind.u8 H 1 != 0) = false := by rw [hH, bitsF, hk]; rfl
  have t2 : (bits BinOp.and IntKind.u8 H 2 != 0) = false := by rw [hH, bitsQ, hk]; rfl
  have t4 : (bits BinOp.and IntKind.u8 H 4 != 0) = true := by rw [hH, bitsI, hk]; rfl
  have t8 : (bits BinOp.and IntKind.u8 H 8 != 0) = false := by rw [hH, bitsT, hk]; rfl
  have t16 : (bits BinOp.and IntKind.u8 H 16 != 0) = false := by rw [hH, bitsV, hk]; rfl
  rw [← hKK, ← hH] at HOF
  rw [← hKK] at HV ⊢
  have hK1 : KK = 2 := by rw [hKK, hkn]
  have hwr : IntKind.i64.wrap KK = KK := IntWalk.i64_in _ (by omega)
  have HKI : Hid (isI64 KK) := Lib.hid (by unfold isI64; omega)
  have HKB : Hid (numB KK = numB o.what.toNat) := Lib.hid (by rw [hKK])
  have HK1 := Lib.hid hK1
  clear hl hr hT hKK hH hkn hK1 hk hr1 gi gt gv gf gq
  have hB := BoxL.new w [.int .u8 KK, .string (str o.id), .int .i64 o.tok, k, n, s, d, .slice a m c, .int .i64 o.quo] 46
  have hE := (Ext.refl w).alloc (.cells #[.int .u8 KK, .string (str o.id), .int .i64 o.tok, k, n, s, d, .slice a m c, .int .i64 o.quo] 46)
  go_enter Tryz.func19, Tryz.ntmps19
  go_wp2_with fail
  generalize w.alloc (.cells #[.int .u8 KK, .string (str o.id), .int .i64 o.tok, k, n, s, d, .slice a m c, .int .i64 o.quo] 46) = W1 at *
  have HB1 := Lib.hid hB
  have HE1 := Lib.hid hE
  clear hB hE
  refine (opRight_any o W1 _ (HV.out.ext HE1.out) (HT.out.ext HE1.out)).mono ?_
  rw [HRR.out]
  rintro e w2 ⟨rfl, hE2⟩
  have HB := Lib.hid (HB1.out.ext hE2)
  have HE2 := Lib.hid (HE1.out.trans hE2)
  clear hE2 HB1 HE1
  have ⟨p0, p1, p2, p3, p4, p5, p6, p7, p8⟩ := HB.out.nine
  go_wp2_with fail
  refine (HOF.out w2 (HT.out.ext HE2.out)).mono ?_
  rintro e wq ⟨rfl, rfl⟩
  go_wp2_with fail
  refine (num_any _ [] w2 (Bytes.nil _) (by simp) KK HKI.out).mono ?_
  rintro e w3 ⟨v3, rfl, r3⟩
  have O3 : Hid (OwnB w.heap.size w3 v3 ([] ++ numB KK)) := Lib.hid (r3.own.mono (by have := HE2.out.size; omega))
  have HE3 := Lib.hid (HE2.out.trans r3.2)
  have HBn := Lib.hid (HB.out.ext r3.2)
  clear r3 HB p0 p1 p2 p3 p4 p5 p6 p7 p8
  have HB := HBn
  clear HBn
  have ⟨p0, p1, p2, p3, p4, p5, p6, p7, p8⟩ := HB.out.nine
  go_wp2_with fail
  refine (text_any _ _ o.id w3 O3.out.bytes (by have := numB_le KK; have := numB_le o.tok; have := textB_le o.id; simp only [List.length_append, List.length_nil]; omega) (by omega)).mono ?_
  rintro e w4 ⟨v4, rfl, r4⟩
  have O4 : Hid (OwnB w.heap.size w4 v4 (([] ++ numB KK) ++ textB o.id)) := Lib.hid (r4.own.mono (by have := HE3.out.size; omega))
  have HE4 := Lib.hid (HE3.out.trans r4.2)
  have HBn := Lib.hid (HB.out.ext r4.2)
  clear r4 HB p0 p1 p2 p3 p4 p5 p6 p7 p8
  have HB := HBn
  clear HBn
  have ⟨p0, p1, p2, p3, p4, p5, p6, p7, p8⟩ := HB.out.nine
  have hby : (([] ++ numB KK) ++ textB o.id) = opBy o := by rw [HBY.out, HKB.out]; simp only [List.nil_append, List.append_assoc]
  have OB := O4.out
  rw [hby] at OB
  obtain ⟨av, cv, hvv, -⟩ := id OB.bytes
  subst hvv
  have HP : Hid (OBytes w o (.returned (.tuple #[.slice av (opBy o).length cv, .int .i64 0])) w4) := Lib.hid ⟨_, _, _, _, rfl, HE4.out, fun h => (by rw [HRR.out] at h; cases h), fun _ => ⟨rfl, OB, HE4.out⟩⟩
  generalize (opBy o).length = L at *
  clear OB hby O4
  go_wp2
  refine bodyPost_ret (v := .tuple #[.slice av L cv, .int .i64 0]) (by simp [results, Tryz.results19, go_sem]) rfl HP.out

set_option maxRecDepth 100000 in
set_option maxHeartbeats 8000000 in
theorem opBytes_3 (o : Opn) (hk : o.what = 3) (hr1 : rightO o = true) (w : World) (v : Value) (hv : OpV w o v) (hT : KTab w) :
    Calls Tryz.prog 19 #[v] w (OBytes w o) := by
  have HV := Lib.hid hv
  obtain ⟨k, n, s, d, a, m, c, rfl, hl, hr, hi, ht, hq⟩ := hv
  obtain ⟨_, ⟨_, _, _, _, _⟩, gi, gt, gv, gf, gq⟩ := rightO_iff.1 hr1
  have HRR := Lib.hid hr1
  have hL := opParts_le hr1
  obtain ⟨l1, l3, l4⟩ := hL
  have HOF : Hid (∀ w, KTab w → Calls Tryz.prog 56 #[.int .u8 (o.what.toNat : Int)] w fun e w' => e = .returned (.int .u8 (oN o.what)) ∧ w = w') := Lib.hid (fun w h => of_any o.what w h)
  have HBY : Hid (opBy o = numB o.what.toNat ++ (textB o.id ++ (numB o.tok ++ (bytesT o.val ++ (fragBy o.frg))))) := Lib.hid (by unfold opBy opTail; rw [hk]; simp [oI, oT, oV, oF, oQ])
  have HL := Lib.hid hl
  have HR := Lib.hid hr
  have HT := Lib.hid hT
  have hkn : (o.what.toNat : Int) = 3 := by rw [hk]; rfl
  obtain ⟨KK, hKK⟩ : ∃ KK : Int, KK = (o.what.toNat : Int) := ⟨_, rfl⟩
  obtain ⟨H, hH⟩ : ∃ H : Int, H = oN o.what := ⟨_, rfl⟩
  have t1 : (bits BinOp.and IntKind.u8 H 1 != 0) = true := by rw [hH, bitsF, hk]; rfl
  have t2 : (bits BinOp.and IntKind.u8 H 2 != 0) = false := by rw [hH, bitsQ, hk]; rfl
  have t4 : (bits BinOp.and IntKind.u8 H 4 != 0) = true := by rw [hH, bitsI, hk]; rfl
  have t8 : (bits BinOp.and IntKind.u8 H 8 != 0) = true := by rw [hH, bitsT, hk]; rfl
  have t16 : (bits BinOp.and IntKind.u8 H 16 != 0) = true := by rw [hH, bitsV, hk]; rfl
  rw [← hKK, ← hH] at HOF
  rw [← hKK] at HV ⊢
  have hK1 : KK = 3 := by rw [hKK, hkn]
  have hwr : IntKind.i64.wrap KK = KK := IntWalk.i64_in _ (by omega)
  have HKI : Hid (isI64 KK) := Lib.hid (by unfold isI64; omega)
  have HKB : Hid (numB KK = numB o.what.toNat) := Lib.hid (by rw [hKK])
  have HK1 := Lib.hid hK1
  clear hl hr hT hKK hH hkn hK1 hk hr1 gi gt gv gf gq
  have hB := BoxL.new w [.int .u8 KK, .string (str o.id), .int .i64 o.tok, k, n, s, d, .slice a m c, .int .i64 o.quo] 46
  have hE := (Ext.refl w).alloc (.cells #[.int .u8 KK, .string (str o.id), .int .i64 o.tok, k, n, s, d, .slice a m c, .int .i64 o.quo] 46)
  go_enter Tryz.func19, Tryz.ntmps19
  go_wp2_with fail
  generalize w.alloc (.cells #[.int .u8 KK, .string (str o.id), .int .i64 o.tok, k, n, s, d, .slice a m c, .int .i64 o.quo] 46) = W1 at *
  have HB1 := Lib.hid hB
  have HE1 := Lib.hid hE
  clear hB hE
  refine (opRight_any o W1 _ (HV.out.ext HE1.out) (HT.out.ext HE1.out)).mono ?_
  rw [HRR.out]
  rintro e w2 ⟨rfl, hE2⟩
  have HB := Lib.hid (HB1.out.ext hE2)
  have HE2 := Lib.hid (HE1.out.trans hE2)
  clear hE2 HB1 HE1
  have ⟨p0, p1, p2, p3, p4, p5, p6, p7, p8⟩ := HB.out.nine
  go_wp2_with fail
  refine (HOF.out w2 (HT.out.ext HE2.out)).mono ?_
  rintro e wq ⟨rfl, rfl⟩
  go_wp2_with fail
  refine (num_any _ [] w2 (Bytes.nil _) (by simp) KK HKI.out).mono ?_
  rintro e w3 ⟨v3, rfl, r3⟩
  have O3 : Hid (OwnB w.heap.size w3 v3 ([] ++ numB KK)) := Lib.hid (r3.own.mono (by have := HE2.out.size; omega))
  have HE3 := Lib.hid (HE2.out.trans r3.2)
  have HBn := Lib.hid (HB.out.ext r3.2)
  clear r3 HB p0 p1 p2 p3 p4 p5 p6 p7 p8
  have HB := HBn
  clear HBn
  have ⟨p0, p1, p2, p3, p4, p5, p6, p7, p8⟩ := HB.out.nine
  go_wp2_with fail
  refine (text_any _ _ o.id w3 O3.out.bytes (by have := numB_le KK; have := numB_le o.tok; have := textB_le o.id; simp only [List.length_append, List.length_nil]; omega) (by omega)).mono ?_
  rintro e w4 ⟨v4, rfl, r4⟩
  have O4 : Hid (OwnB w.heap.size w4 v4 (([] ++ numB KK) ++ textB o.id)) := Lib.hid (r4.own.mono (by have := HE3.out.size; omega))
  have HE4 := Lib.hid (HE3.out.trans r4.2)
  have HBn := Lib.hid (HB.out.ext r4.2)
  clear r4 HB p0 p1 p2 p3 p4 p5 p6 p7 p8
  have HB := HBn
  clear HBn
  have ⟨p0, p1, p2, p3, p4, p5, p6, p7, p8⟩ := HB.out.nine
  go_wp2_with fail
  refine (num_any _ _ w4 O4.out.bytes (by have := numB_le KK; have := numB_le o.tok; have := textB_le o.id; simp only [List.length_append, List.length_nil]; omega) o.tok ht).mono ?_
  rintro e w5 ⟨v5, rfl, r5⟩
  have O5 : Hid (OwnB w.heap.size w5 v5 ((([] ++ numB KK) ++ textB o.id) ++ numB o.tok)) := Lib.hid (r5.own.mono (by have := HE4.out.size; omega))
  have HE5 := Lib.hid (HE4.out.trans r5.2)
  have HBn := Lib.hid (HB.out.ext r5.2)
  clear r5 HB p0 p1 p2 p3 p4 p5 p6 p7 p8
  have HB := HBn
  clear HBn
  have ⟨p0, p1, p2, p3, p4, p5, p6, p7, p8⟩ := HB.out.nine
  go_wp2_with fail
  refine (put_any o.val w5 _ _ _ O5.out.bytes (HL.out.ext HE5.out) (by have := numB_le KK; have := numB_le o.tok; have := textB_le o.id; simp only [List.length_append, List.length_nil]; omega)).mono ?_
  rintro e w6 ⟨v6, rfl, r6⟩
  have O6 : Hid (OwnB w.heap.size w6 v6 (((([] ++ numB KK) ++ textB o.id) ++ numB o.tok) ++ bytesT o.val)) := Lib.hid (r6.own.mono (by have := HE5.out.size; omega))
  have HE6 := Lib.hid (HE5.out.trans r6.2)
  have HBn := Lib.hid (HB.out.ext r6.2)
  clear r6 HB p0 p1 p2 p3 p4 p5 p6 p7 p8
  have HB := HBn
  clear HBn
  have ⟨p0, p1, p2, p3, p4, p5, p6, p7, p8⟩ := HB.out.nine
  go_wp2_with fail
  refine (fput_any o.frg w6 _ _ _ O6.out.bytes (HR.out.ext HE6.out) (by have := numB_le KK; have := numB_le o.tok; have := textB_le o.id; simp only [List.length_append, List.length_nil]; omega)).mono ?_
  rintro e w7 ⟨v7, rfl, r7⟩
  have O7 : Hid (OwnB w.heap.size w7 v7 ((((([] ++ numB KK) ++ textB o.id) ++ numB o.tok) ++ bytesT o.val) ++ fragBy o.frg)) := Lib.hid (r7.own.mono (by have := HE6.out.size; omega))
  have HE7 := Lib.hid (HE6.out.trans r7.2)
  have HBn := Lib.hid (HB.out.ext r7.2)
  clear r7 HB p0 p1 p2 p3 p4 p5 p6 p7 p8
  have HB := HBn
  clear HBn
  have ⟨p0, p1, p2, p3, p4, p5, p6, p7, p8⟩ := HB.out.nine
  have hby : ((((([] ++ numB KK) ++ textB o.id) ++ numB o.tok) ++ bytesT o.val) ++ fragBy o.frg) = opBy o := by rw [HBY.out, HKB.out]; simp only [List.nil_append, List.append_assoc]
  have OB := O7.out
  rw [hby] at OB
  obtain ⟨av, cv, hvv, -⟩ := id OB.bytes
  subst hvv
  have HP : Hid (OBytes w o (.returned (.tuple #[.slice av (opBy o).length cv, .int .i64 0])) w7) := Lib.hid ⟨_, _, _, _, rfl, HE7.out, fun h => (by rw [HRR.out] at h; cases h), fun _ => ⟨rfl, OB, HE7.out⟩⟩
  generalize (opBy o).length = L at *
  clear OB hby O7
  go_wp2
  refine bodyPost_ret (v := .tuple #[.slice av L cv, .int .i64 0]) (by simp [results, Tryz.results19, go_sem]) rfl HP.out

set_option maxRecDepth 100000 in
set_option maxHeartbeats 8000000 in
theorem opBytes_4 (o : Opn) (hk : o.what = 4) (hr1 : rightO o = true) (w : World) (v : Value) (hv : OpV w o v) (hT : KTab w) :
    Calls Tryz.prog 19 #[v] w (OBytes w o) := by
  have HV := Lib.hid hv
  obtain ⟨k, n, s, d, a, m, c, rfl, hl, hr, hi, ht, hq⟩ := hv
  obtain ⟨_, ⟨_, _, _, _, _⟩, gi, gt, gv, gf, gq⟩ := rightO_iff.1 hr1
  have HRR := Lib.hid hr1
  have hL := opParts_le hr1
  obtain ⟨l1, l3, l4⟩ := hL
  have HOF : Hid (∀ w, KTab w → Calls Tryz.prog 56 #[.int .u8 (o.what.toNat : Int)] w fun e w' => e = .returned (.int .u8 (oN o.what)) ∧ w = w') := Lib.hid (fun w h => of_any o.what w h)
  have HBY : Hid (opBy o = numB o.what.toNat ++ (textB o.id ++ (numB o.tok))) := Lib.hid (by unfold opBy opTail; rw [hk]; simp [oI, oT, oV, oF, oQ])
  have HL := Lib.hid hl
  have HR := Lib.hid hr
  have HT := Lib.hid hT
  have hkn : (o.what.toNat : Int) = 4 := by rw [hk]; rfl
  obtain ⟨KK, hKK⟩ : ∃ KK : Int, KK = (o.what.toNat : Int) := ⟨_, rfl⟩
  obtain ⟨H, hH⟩ : ∃ H : Int, H = oN o.what := ⟨_, rfl⟩
  have t1 : (bits BinOp.and IntKind.u8 H 1 != 0) = false := by rw [hH, bitsF, hk]; rfl
  have t2 : (bits BinOp.and IntKind.u8 H 2 != 0) = false := by rw [hH, bitsQ, hk]; rfl
  have t4 : (bits BinOp.and IntKind.u8 H 4 != 0) = true := by rw [hH, bitsI, hk]; rfl
  have t8 : (bits BinOp.and IntKind.u8 H 8 != 0) = true := by rw [hH, bitsT, hk]; rfl
  have t16 : (bits BinOp.and IntKind.u8 H 16 != 0) = false := by rw [hH, bitsV, hk]; rfl
  rw [← hKK, ← hH] at HOF
  rw [← hKK] at HV ⊢
  have hK1 : KK = 4 := by rw [hKK, hkn]
  have hwr : IntKind.i64.wrap KK = KK := IntWalk.i64_in _ (by omega)
  have HKI : Hid (isI64 KK) := Lib.hid (by unfold isI64; omega)
  have HKB : Hid (numB KK = numB o.what.toNat) := Lib.hid (by rw [hKK])
  have HK1 := Lib.hid hK1
  clear hl hr hT hKK hH hkn hK1 hk hr1 gi gt gv gf gq
  have hB := BoxL.new w [.int .u8 KK, .string (str o.id), .int .i64 o.tok, k, n, s, d, .slice a m c, .int .i64 o.quo] 46
  have hE := (Ext.refl w).alloc (.cells #[.int .u8 KK, .string (str o.id), .int .i64 o.tok, k, n, s, d, .slice a m c, .int .i64 o.quo] 46)
  go_enter Tryz.func19, Tryz.ntmps19
  go_wp2_with fail
  generalize w.alloc (.cells #[.int .u8 KK, .string (str o.id), .int .i64 o.tok, k, n, s, d, .slice a m c, .int .i64 o.quo] 46) = W1 at *
  have HB1 := Lib.hid hB
  have HE1 := Lib.hid hE
  clear hB hE
  refine (opRight_any o W1 _ (HV.out.ext HE1.out) (HT.out.ext HE1.out)).mono ?_
  rw [HRR.out]
  rintro e w2 ⟨rfl, hE2⟩
  have HB := Lib.hid (HB1.out.ext hE2)
  have HE2 := Lib.hid (HE1.out.trans hE2)
  clear hE2 HB1 HE1
  have ⟨p0, p1, p2, p3, p4, p5, p6, p7, p8⟩ := HB.out.nine
  go_wp2_with fail
  refine (HOF.out w2 (HT.out.ext HE2.out)).mono ?_
  rintro e wq ⟨rfl, rfl⟩
  go_wp2_with fail
  refine (num_any _ [] w2 (Bytes.nil _) (by simp) KK HKI.out).mono ?_
  rintro e w3 ⟨v3, rfl, r3⟩
  have O3 : Hid (OwnB w.heap.size w3 v3 ([] ++ numB KK)) := Lib.hid (r3.own.mono (by have := HE2.out.size; omega))
  have HE3 := Lib.hid (HE2.out.trans r3.2)
  have HBn := Lib.hid (HB.out.ext r3.2)
  clear r3 HB p0 p1 p2 p3 p4 p5 p6 p7 p8
  have HB := HBn
  clear HBn
  have ⟨p0, p1, p2, p3, p4, p5, p6, p7, p8⟩ := HB.out.nine
  go_wp2_with fail
  refine (text_any _ _ o.id w3 O3.out.bytes (by have := numB_le KK; have := numB_le o.tok; have := textB_le o.id; simp only [List.length_append, List.length_nil]; omega) (by omega)).mono ?_
  rintro e w4 ⟨v4, rfl, r4⟩
  have O4 : Hid (OwnB w.heap.size w4 v4 (([] ++ numB KK) ++ textB o.id)) := Lib.hid (r4.own.mono (by have := HE3.out.size; omega))
  have HE4 := Lib.hid (HE3.out.trans r4.2)
  have HBn := Lib.hid (HB.out.ext r4.2)
  clear r4 HB p0 p1 p2 p3 p4 p5 p6 p7 p8
  have HB := HBn
  clear HBn
  have ⟨p0, p1, p2, p3, p4, p5, p6, p7, p8⟩ := HB.out.nine
  go_wp2_with fail
  refine (num_any _ _ w4 O4.out.bytes (by have := numB_le KK; have := numB_le o.tok; have := textB_le o.id; simp only [List.length_append, List.length_nil]; omega) o.tok ht).mono ?_
  rintro e w5 ⟨v5, rfl, r5⟩
  have O5 : Hid (OwnB w.heap.size w5 v5 ((([] ++ numB KK) ++ textB o.id) ++ numB o.tok)) := Lib.hid (r5.own.mono (by have := HE4.out.size; omega))
  have HE5 := Lib.hid (HE4.out.trans r5.2)
  have HBn := Lib.hid (HB.out.ext r5.2)
  clear r5 HB p0 p1 p2 p3 p4 p5 p6 p7 p8
  have HB := HBn
  clear HBn
  have ⟨p0, p1, p2, p3, p4, p5, p6, p7, p8⟩ := HB.out.nine
  have hby : ((([] ++ numB KK) ++ textB o.id) ++ numB o.tok) = opBy o := by rw [HBY.out, HKB.out]; simp only [List.nil_append, List.append_assoc]
  have OB := O5.out
  rw [hby] at OB
  obtain ⟨av, cv, hvv, -⟩ := id OB.bytes
  subst hvv
  have HP : Hid (OBytes w o (.returned (.tuple #[.slice av (opBy o).length cv, .int .i64 0])) w5) := Lib.hid ⟨_, _, _, _, rfl, HE5.out, fun h => (by rw [HRR.out] at h; cases h), fun _ => ⟨rfl, OB, HE5.out⟩⟩
  generalize (opBy o).length = L at *
  clear OB hby O5
  go_wp2
  refine bodyPost_ret (v := .tuple #[.slice av L cv, .int .i64 0]) (by simp [results, Tryz.results19, go_sem]) rfl HP.out

set_option maxRecDepth 100000 in
set_option maxHeartbeats 8000000 in
theorem opBytes_5 (o : Opn) (hk : o.what = 5) (hr1 : rightO o = true) (w : World) (v : Value) (hv : OpV w o v) (hT : KTab w) :
    Calls Tryz.prog 19 #[v] w (OBytes w o) := by
  have HV := Lib.hid hv
  obtain ⟨k, n, s, d, a, m, c, rfl, hl, hr, hi, ht, hq⟩ := hv
  obtain ⟨_, ⟨_, _, _, _, _⟩, gi, gt, gv, gf, gq⟩ := rightO_iff.1 hr1
  have HRR := Lib.hid hr1
  have hL := opParts_le hr1
  obtain ⟨l1, l3, l4⟩ := hL
  have HOF : Hid (∀ w, KTab w → Calls Tryz.prog 56 #[.int .u8 (o.what.toNat : Int)] w fun e w' => e = .returned (.int .u8 (oN o.what)) ∧ w = w') := Lib.hid (fun w h => of_any o.what w h)
  have HBY : Hid (opBy o = numB o.what.toNat ++ (textB o.id)) := Lib.hid (by unfold opBy opTail; rw [hk]; simp [oI, oT, oV, oF, oQ])
  have HL := Lib.hid hl
  have HR := Lib.hid hr
  have HT := Lib.hid hT
  have hkn : (o.what.toNat : Int) = 5 := by rw [hk]; rfl
  obtain ⟨KK, hKK⟩ : ∃ KK : Int, KK = (o.what.toNat : Int) := ⟨_, rfl⟩
  obtain ⟨H, hH⟩ : ∃ H : Int, H = oN o.what := ⟨_, rfl⟩
  have t1 : (bits BinOp.and IntKind.u8 H 1 != 0) = false := by rw [hH, bitsF, hk]; rfl
  have t2 : (bits BinOp.and IntKind.u8 H 2 != 0) = false := by rw [hH, bitsQ, hk]; rfl
  have t4 : (bits BinOp.and IntKind.u8 H 4 != 0) = true := by rw [hH, bitsI, hk]; rfl
  have t8 : (bits BinOp.and IntKind.u8 H 8 != 0) = false := by rw [hH, bitsT, hk]; rfl
  have t16 : (bits BinOp.and IntKind.u8 H 16 != 0) = false := by rw [hH, bitsV, hk]; rfl
  rw [← hKK, ← hH] at HOF
  rw [← hKK] at HV ⊢
  have hK1 : KK = 5 := by rw [hKK, hkn]
  have hwr : IntKind.i64.wrap KK = KK := IntWalk.i64_in _ (by omega)
  have HKI : Hid (isI64 KK) := Lib.hid (by unfold isI64; omega)
  have HKB : Hid (numB KK = numB o.what.toNat) := Lib.hid (by rw [hKK])
  have HK1 := Lib.hid hK1
  clear hl hr hT hKK hH hkn hK1 hk hr1 gi gt gv gf gq
  have hB := BoxL.new w [.int .u8 KK, .string (str o.id), .int .i64 o.tok, k, n, s, d, .slice a m c, .int .i64 o.quo] 46
  have hE := (Ext.refl w).alloc (.cells #[.int .u8 KK, .string (str o.id), .int .i64 o.tok, k, n, s, d, .slice a m c, .int .i64 o.quo] 46)
  go_enter Tryz.func19, Tryz.ntmps19
  go_wp2_with fail
  generalize w.alloc (.cells #[.int .u8 KK, .string (str o.id), .int .i64 o.tok, k, n, s, d, .slice a m c, .int .i64 o.quo] 46) = W1 at *
  have HB1 := Lib.hid hB
  have HE1 := Lib.hid hE
  clear hB hE
  refine (opRight_any o W1 _ (HV.out.ext HE1.out) (HT.out.ext HE1.out)).mono ?_
  rw [HRR.out]
  rintro e w2 ⟨rfl, hE2⟩
  have HB := Lib.hid (HB1.out.ext hE2)
  have HE2 := Lib.hid (HE1.out.trans hE2)
  clear hE2 HB1 HE1
  have ⟨p0, p1, p2, p3, p4, p5, p6, p7, p8⟩ := HB.out.nine
  go_wp2_with fail
  refine (HOF.out w2 (HT.out.ext HE2.out)).mono ?_
  rintro e wq ⟨rfl, rfl⟩
  go_wp2_with fail
  refine (num_any _ [] w2 (Bytes.nil _) (by simp) KK HKI.out).mono ?_
  rintro e w3 ⟨v3, rfl, r3⟩
  have O3 : Hid (OwnB w.heap.size w3 v3 ([] ++ numB KK)) := Lib.hid (r3.own.mono (by have := HE2.out.size; omega))
  have HE3 := Lib.hid (HE2.out.trans r3.2)
  have HBn := Lib.hid (HB.out.ext r3.2)
  clear r3 HB p0 p1 p2 p3 p4 p5 p6 p7 p8
  have HB := HBn
  clear HBn
  have ⟨p0, p1, p2, p3, p4, p5, p6, p7, p8⟩ := HB.out.nine
  go_wp2_with fail
  refine (text_any _ _ o.id w3 O3.out.bytes (by have := numB_le KK; have := numB_le o.tok; have := textB_le o.id; simp only [List.length_append, List.length_nil]; omega) (by omega)).mono ?_
  rintro e w4 ⟨v4, rfl, r4⟩
  have O4 : Hid (OwnB w.heap.size w4 v4 (([] ++ numB KK) ++ textB o.id)) := Lib.hid (r4.own.mono (by have := HE3.out.size; omega))
  have HE4 := Lib.hid (HE3.out.trans r4.2)
  have HBn := Lib.hid (HB.out.ext r4.2)
  clear r4 HB p0 p1 p2 p3 p4 p5 p6 p7 p8
  have HB := HBn
  clear HBn
  have ⟨p0, p1, p2, p3, p4, p5, p6, p7, p8⟩ := HB.out.nine
  have hby : (([] ++ numB KK) ++ textB o.id) = opBy o := by rw [HBY.out, HKB.out]; simp only [List.nil_append, List.append_assoc]
  have OB := O4.out
  rw [hby] at OB
  obtain ⟨av, cv, hvv, -⟩ := id OB.bytes
  subst hvv
  have HP : Hid (OBytes w o (.returned (.tuple #[.slice av (opBy o).length cv, .int .i64 0])) w4) := Lib.hid ⟨_, _, _, _, rfl, HE4.out, fun h => (by rw [HRR.out] at h; cases h), fun _ => ⟨rfl, OB, HE4.out⟩⟩
  generalize (opBy o).length = L at *
  clear OB hby O4
  go_wp2
  refine bodyPost_ret (v := .tuple #[.slice av L cv, .int .i64 0]) (by simp [results, Tryz.results19, go_sem]) rfl HP.out

theorem opBytes_any (o : Opn) (w : World) (v : Value) (hv : OpV w o v) (hT : KTab w) :
    Calls Tryz.prog 19 #[v] w (OBytes w o) := by
  cases hr : rightO o with
  | false => exact opBytes_bad o hr w v hv hT
  | true =>
    have hk := (rightO_iff.1 hr).1
    simp only [oK, Bool.and_eq_true, decide_eq_true_eq] at hk
    rcases (by omega : o.what.toNat = 1 ∨ o.what.toNat = 2 ∨ o.what.toNat = 3 ∨ o.what.toNat = 4 ∨ o.what.toNat = 5) with h | h | h | h | h
    · exact opBytes_1 o (u8_is (by decide) h) hr w v hv hT
    · exact opBytes_2 o (u8_is (by decide) h) hr w v hv hT
    · exact opBytes_3 o (u8_is (by decide) h) hr w v hv hT
    · exact opBytes_4 o (u8_is (by decide) h) hr w v hv hT
    · exact opBytes_5 o (u8_is (by decide) h) hr w v hv hT

/-- Is an operation light? -/
def fewO (o : Opn) : Bool := decide (fewT 20 o.val ≤ 600) && fewF o.frg && decide (o.id.length ≤ 500)
set_option maxRecDepth 100000 in
set_option maxHeartbeats 4000000 in
theorem opFew_any (o : Opn) (w : World) (v : Value) (hv : OpV w o v) :
    Calls Tryz.prog 16 #[v] w fun e w' => e = .returned (.bool (fewO o)) ∧ Ext w w' := by
  obtain ⟨k, n, s, d, a, m, c, rfl, hl, hr, hi, ht, hq⟩ := hv
  have hss := str_size o.id
  have HX : Hid (fewO o = (decide (fewT 20 o.val ≤ 600) && fewF o.frg && decide (o.id.length ≤ 500))) := Lib.hid rfl
  have HL := Lib.hid hl
  have HR := Lib.hid hr
  clear hl hr
  have hB := BoxL.new w [.int .u8 (o.what.toNat : Int), .string (str o.id), .int .i64 o.tok, k, n, s, d, .slice a m c, .int .i64 o.quo] 46
  have hE := (Ext.refl w).alloc (.cells #[.int .u8 (o.what.toNat : Int), .string (str o.id), .int .i64 o.tok, k, n, s, d, .slice a m c, .int .i64 o.quo] 46)
  go_enter Tryz.func16, Tryz.ntmps16
  go_wp2_with fail
  generalize w.alloc (.cells #[.int .u8 (o.what.toNat : Int), .string (str o.id), .int .i64 o.tok, k, n, s, d, .slice a m c, .int .i64 o.quo] 46) = W1 at *
  have HB := Lib.hid hB
  have HE := Lib.hid hE
  clear hB hE
  refine (Few_any o.val W1 _ (HL.out.ext HE.out)).mono ?_
  rintro e w2 ⟨rfl, hE2⟩
  have HB2 := Lib.hid (HB.out.ext hE2)
  have HE2 := Lib.hid (HE.out.trans hE2)
  clear hE2 HB HE
  cases b1 : decide (fewT 20 o.val ≤ 600) with
  | false =>
    have HF := Lib.hid (by rw [HX.out, b1]; rfl : fewO o = false)
    clear b1
    go_wp2
    go_ret
    exact ⟨by rw [HF.out]; rfl, HE2.out⟩
  | true =>
    have HX2 : Hid (fewO o = (fewF o.frg && decide (o.id.length ≤ 500))) := Lib.hid (by rw [HX.out, b1]; rfl)
    clear b1 HX
    have ⟨p0, p1, p2, p3, p4, p5, p6, p7, p8⟩ := HB2.out.nine
    go_wp2_with fail
    refine (few09_any o.frg w2 _ (HR.out.ext HE2.out)).mono ?_
    rintro e w3 ⟨rfl, hE3⟩
    have HB3 := Lib.hid (HB2.out.ext hE3)
    have HE3 := Lib.hid (HE2.out.trans hE3)
    clear hE3 HB2 HE2 p0 p1 p2 p3 p4 p5 p6 p7 p8
    cases b2 : fewF o.frg with
    | false =>
      have HF := Lib.hid (by rw [HX2.out, b2]; rfl : fewO o = false)
      clear b2
      go_wp2
      go_ret
      exact ⟨by rw [HF.out]; rfl, HE3.out⟩
    | true =>
      have HF : Hid (fewO o = decide ((o.id.length : Int) ≤ 500)) := Lib.hid (by rw [HX2.out, b2, Bool.true_and]; exact decide_eq_decide.2 (by omega))
      clear b2
      have ⟨p0, p1, p2, p3, p4, p5, p6, p7, p8⟩ := HB3.out.nine
      go_wp2
      go_ret
      exact ⟨by rw [HF.out]; rfl, HE3.out⟩
end Go.Proofs.YtdienbcjfljjnaaGreatDoor
