/- Walks: frag's reader: an item. -/
import Derived.Test.YtnbalamacpcanaaDoorFragS
import Derived.Test.YtnbalamacpcanaaDoorItSt
import Derived.Deep.Cut
open Go.RowKit Go.Shelf
namespace Go.Proofs.YtnbalamacpcanaaDoor
open Go Go.Proofs Fm

theorem _root_.Fm.OwnS.far {e : TypeId} {base : Nat} {w : World} {v : Value} {l : List (List UInt8)} (h : OwnS e base w v l) {B : Nat} (hB : B < base) (j : Nat) (u : Value) : OwnS e base (w.setCell ⟨B, j, none⟩ u) v l :=
  h.kept (setOne_grown w B j u) (fun b hb e => by injection e with e; have := (h.block b hb).1; omega)
theorem _root_.Fm.OwnS.far6 {e : TypeId} {base : Nat} {w : World} {v : Value} {l : List (List UInt8)} (h : OwnS e base w v l) {B : Nat} (hB : B < base) {c0 c1 c2 c3 c4 c5 : Value} : OwnS e base (set6W w B c0 c1 c2 c3 c4 c5) v l :=
  (((((h.far hB 0 c0).far hB 1 c1).far hB 2 c2).far hB 3 c3).far hB 4 c4).far hB 5 c5
/-- What item comes to. -/
def ItemPost (w0 w : World) (R : Nat) (s : Option (List UInt8)) (e : Ending) (w' : World) : Prop :=
  ∃ x : It, x = (itemS s).1 ∧ ∃ (a : Option Addr) (m c : Nat), e = .returned (.agg #[.string (str x.name), .int .u8 (x.kind.toNat : Int), .slice a m c, .string (str x.over), .int .i64 x.width, .int .i64 x.quota]) ∧
    OwnS 9 w.heap.size w' (.slice a m c) x.after ∧ (x.name.length ≤ 9223372036854775807 ∧ x.over.length ≤ 9223372036854775807 ∧ isI64 x.width ∧ isI64 x.quota) ∧ RdS w0 w' R (itemS s).2 ∧ w.grownBy w' (some R)

set_option maxRecDepth 100000 in
set_option maxHeartbeats 16000000 in
theorem fritem_any {w0 w : World} {R : Nat} {s : Option (List UInt8)} (h : RdS w0 w R s) :
    Calls Tryd.prog 105 #[.pointer (some ⟨R, 0, none⟩)] w (ItemPost w0 w R s) := by
  have H := Lib.hid h
  have hRw := h.lt
  clear h
  obtain ⟨ta, hta0⟩ : ∃ ta, ta = (textS s).1 := ⟨_, rfl⟩
  obtain ⟨sa, hsa⟩ : ∃ sa, sa = (textS s).2 := ⟨_, rfl⟩
  obtain ⟨tb, htb⟩ : ∃ tb, tb = (numS 1 sa).1 := ⟨_, rfl⟩
  obtain ⟨sb, hsb⟩ : ∃ sb, sb = (numS 1 sa).2 := ⟨_, rfl⟩
  obtain ⟨la, hla⟩ : ∃ la, la = (manyS 20 textS sb).1 := ⟨_, rfl⟩
  obtain ⟨sc, hsc⟩ : ∃ sc, sc = (manyS 20 textS sb).2 := ⟨_, rfl⟩
  obtain ⟨tq, htq0⟩ : ∃ tq, tq = (numS 400 sc).1 := ⟨_, rfl⟩
  obtain ⟨sd, hsd⟩ : ∃ sd, sd = (numS 400 sc).2 := ⟨_, rfl⟩
  have hta : ta.length ≤ 9223372036854775807 := by have := textS_len s; rw [← hta0] at this; omega
  have htbr := numS_range 1 (by omega) sa
  have htqr := numS_range 400 (by omega) sc
  rw [← htb] at htbr
  rw [← htq0] at htqr
  have htq : isI64 tq := by unfold isI64; omega
  have HTA : Hid (textS s = (ta, sa)) := Lib.hid (by rw [hta0, hsa])
  have HNb : Hid (numS 1 sa = (tb, sb)) := Lib.hid (by rw [htb, hsb])
  have HMa : Hid ((la, sc) = manyS 20 textS sb) := Lib.hid (by rw [hla, hsc])
  have HQd : Hid ((tq, sd) = numS 400 sc) := Lib.hid (by rw [htq0, hsd])
  have HIT : Hid (itemS s = (let e := if tb = 1 then textS sd else ([], sd); let f := if tb = 1 then numS 40 e.2 else (0, e.2); let x : It := ⟨ta, UInt8.ofNat tb.toNat, la, e.1, f.1, tq⟩; (x, if f.2.isNone || !itB x then none else f.2))) := Lib.hid (by
    unfold itemS; rw [HTA.out]; simp only; rw [HNb.out]; simp only; rw [← HMa.out]; simp only; rw [← HQd.out])
  clear hta0 hsa htb hsb hla hsc htq0 hsd htqr
  have hb0 : BoxL (w.alloc (.cells #[.string { data := #[] }, .int .u8 0, .slice none 0 0, .string { data := #[] }, .int .i64 0, .int .i64 0] 47)) w.heap.size [.string { data := #[] }, .int .u8 0, .slice none 0 0, .string { data := #[] }, .int .i64 0, .int .i64 0] := BoxL.new w _ _
  have hE0 := (Ext.refl w).alloc (.cells #[.string { data := #[] }, .int .u8 0, .slice none 0 0, .string { data := #[] }, .int .i64 0, .int .i64 0] 47)
  go_enter Tryd.func105, Tryd.ntmps105
  go_wp2_with fail
  have hz1 : (w.alloc (.cells #[.string { data := #[] }, .int .u8 0, .slice none 0 0, .string { data := #[] }, .int .i64 0, .int .i64 0] 47)).heap.size = w.heap.size + 1 := by simp
  generalize w.alloc (.cells #[.string { data := #[] }, .int .u8 0, .slice none 0 0, .string { data := #[] }, .int .i64 0, .int .i64 0] 47) = W1 at *
  refine (frtext_any (H.out.then hE0)).mono ?_
  rw [HTA.out]
  rintro e w2 ⟨rfl, hr2, hg2'⟩
  have hP2 := hb0.kept hg2' (fun e => by injection e with e; omega)
  have hg2 := grown_trans (grown_ext hE0 (some R)) hg2'
  have hz2 := hg2'.size
  clear hg2' hb0 hE0 H
  go_wp2_with fail
  refine (frnum_any 1 (by omega) (by omega) hr2).mono ?_
  rw [HNb.out]
  rcases (by omega : tb = 0 ∨ tb = 1) with rfl | rfl
  · rintro e w3 ⟨rfl, hr3, hg3⟩
    have HP3 := Lib.hid (hP2.kept hg3 (fun e => by injection e with e; omega))
    have HG3 := Lib.hid (grown_trans hg2 hg3)
    have hz3 := hg3.size
    have HR3 := Lib.hid hr3
    clear hr3 hg3 hP2 hg2 hr2
    have hst4 : ItSt w0 w (w3.alloc (.cells #[.string (str ta), .int .u8 0, .slice none 0 0, .string { data := #[] }, .int .i64 0, .int .i64 0] 47)) R w.heap.size w3.heap.size sb [.string { data := #[] }, .int .u8 0, .slice none 0 0, .string { data := #[] }, .int .i64 0, .int .i64 0] [.string (str ta), .int .u8 0, .slice none 0 0, .string { data := #[] }, .int .i64 0, .int .i64 0] :=
      ⟨HR3.out.then ((Ext.refl w3).alloc _), grown_trans HG3.out (grown_ext ((Ext.refl w3).alloc _) _), HP3.out.ext ((Ext.refl w3).alloc _), BoxL.new w3 _ _, hRw, by omega, by omega⟩
    have HST := Lib.hid hst4
    have hz4 : (w3.alloc (.cells #[.string (str ta), .int .u8 0, .slice none 0 0, .string { data := #[] }, .int .i64 0, .int .i64 0] 47)).heap.size = w3.heap.size + 1 := by simp
    have HZ4 := Lib.hid hz4
    clear hst4 hz4
    have hPV : w.heap.size < w3.heap.size := by omega
    go_wp2_with fail
    obtain ⟨V, hV⟩ : ∃ V, V = w3.heap.size := ⟨_, rfl⟩
    have HVe := Lib.hid hV
    clear hV
    refine (frmanyS_any 20 (by omega) (by omega) HST.out.rd).mono ?_
    rintro e w5 ⟨v5, rfl, hO5, hr5, hg5⟩
    rw [HZ4.out] at hO5
    have hst5 := HST.out.step hr5 hg5
    rw [← HMa.out] at hO5 hst5
    obtain ⟨aa, cc, rfl, -⟩ := hO5.row.slice
    generalize hm : la.length = m at *
    clear hm HST hr5 hg5 HP3 HG3 HR3
    have HO5 := Lib.hid hO5
    have HS5 := Lib.hid hst5
    obtain ⟨p0, p1, p2, p3, p4, p5⟩ := hst5.bv.six
    have g2 := hst5.bv.free 2
    have h6 : Hid (ItSt w0 w (w5.setCell ⟨w3.heap.size, 2, none⟩ (.slice aa m cc)) R w.heap.size w3.heap.size sc [.string { data := #[] }, .int .u8 0, .slice none 0 0, .string { data := #[] }, .int .i64 0, .int .i64 0] [.string (str ta), .int .u8 0, .slice aa m cc, .string { data := #[] }, .int .i64 0, .int .i64 0]) := Lib.hid (HS5.out.set 2 (by simp) _)
    have HO6 : Hid (OwnS 9 (w3.heap.size + 1) (w5.setCell ⟨w3.heap.size, 2, none⟩ (.slice aa m cc)) (.slice aa m cc) la) := Lib.hid (HO5.out.far (by omega) 2 _)
    clear hst5 hO5
    go_wp2_with fail
    clear p0 p1 p2 p3 p4 p5 g2 HS5 HO5
    generalize w5.setCell ⟨w3.heap.size, 2, none⟩ (.slice aa m cc) = W6 at *
    refine (frnum_any 400 (by omega) (by omega) h6.out.rd).mono ?_
    rintro e w7 ⟨rfl, hr7, hg7⟩
    rw [← HQd.out] at hr7 ⊢
    have hst7 := h6.out.step hr7 hg7
    have HO7 := Lib.hid (HO6.out.kept hg7 (fun b hb e => by injection e with e; have := (HO6.out.block b hb).1; omega))
    have HS7 := Lib.hid hst7
    obtain ⟨p0, p1, p2, p3, p4, p5⟩ := hst7.bv.six
    have g5 := hst7.bv.free 5
    have h8 : Hid (ItSt w0 w (w7.setCell ⟨w3.heap.size, 5, none⟩ (.int .i64 tq)) R w.heap.size w3.heap.size sd [.string { data := #[] }, .int .u8 0, .slice none 0 0, .string { data := #[] }, .int .i64 0, .int .i64 0] [.string (str ta), .int .u8 0, .slice aa m cc, .string { data := #[] }, .int .i64 0, .int .i64 tq]) := Lib.hid (HS7.out.set 5 (by simp) _)
    have HO8 : Hid (OwnS 9 (w3.heap.size + 1) (w7.setCell ⟨w3.heap.size, 5, none⟩ (.int .i64 tq)) (.slice aa m cc) la) := Lib.hid (HO7.out.far (by omega) 5 _)
    clear hst7 hr7 hg7 h6 HO6
    go_upto_region 4 with (fail)
    clear p0 p1 p2 p3 p4 p5 g5 HS7 HO7
    generalize w7.setCell ⟨w3.heap.size, 5, none⟩ (.int .i64 tq) = W8 at *
    obtain ⟨p0, p1, p2, p3, p4, p5⟩ := h8.out.bv.six
    obtain rfl : V = w3.heap.size := HVe.out
    have HX : Hid (itemS s = (⟨ta, 0, la, [], 0, tq⟩, if sd.isNone || !itB ⟨ta, 0, la, [], 0, tq⟩ then none else sd)) := Lib.hid HIT.out
    have hov : ([] : List UInt8).length ≤ 9223372036854775807 := by simp
    have htw : isI64 0 := by unfold isI64; omega
    have HF := h8
    have HO := HO8
    clear HIT HVe h8 HO8
    obtain ⟨wF, hwF⟩ : ∃ wF, wF = W8 := ⟨_, rfl⟩
    subst hwF
    obtain ⟨sF, hsF⟩ : ∃ sF, sF = sd := ⟨_, rfl⟩
    rw [← hsF] at HX HF HQd
    clear hsF p0 p1 p2 p3 p4 p5
    obtain ⟨xx, hxx⟩ : ∃ xx : It, xx = ⟨ta, 0, la, [], 0, tq⟩ := ⟨_, rfl⟩
    rw [← hxx] at HX
    cases sF with
    | none =>
      have HX2 : Hid (itemS s = (xx, none)) := Lib.hid (by rw [HX.out]; rfl)
      have c1 : wF.cell? ⟨R, 1, none⟩ = some (.bool true) := HF.out.rd.mark
      have f1 := HF.out.rd.free
      obtain ⟨p0, p1, p2, p3, p4, p5⟩ := HF.out.bv.six
      obtain ⟨z0, z1, z2, z3, z4, z5⟩ := HF.out.pb.six
      have g0 := HF.out.pb.free 0
      have g1 := HF.out.pb.free 1
      have g2 := HF.out.pb.free 2
      have g3 := HF.out.pb.free 3
      have g4 := HF.out.pb.free 4
      have g5 := HF.out.pb.free 5
      have HXX := Lib.hid hxx
      clear hxx
      have HFb := Lib.hid (HF.out.bad true none rfl (fun xs h => by cases h))
      have HOb : Hid (OwnS 9 (w3.heap.size + 1) (wF.setCell ⟨R, 1, none⟩ (.bool true)) (.slice aa m cc) la) := Lib.hid (HO.out.far (by omega) 1 _)
      go_wp2
      change bodyPost _ _ _ _ _ (set6W (wF.setCell ⟨R, 1, none⟩ (.bool true)) w.heap.size (.string (str ta)) (.int .u8 0) (.slice aa m cc) (.string { data := #[] }) (.int .i64 0) (.int .i64 tq))
      have hD := HFb.out.done (.string (str ta)) (.int .u8 0) (.slice aa m cc) (.string { data := #[] }) (.int .i64 0) (.int .i64 tq)
      have hO9 : OwnS 9 (w3.heap.size + 1) (set6W (wF.setCell ⟨R, 1, none⟩ (.bool true)) w.heap.size (.string (str ta)) (.int .u8 0) (.slice aa m cc) (.string { data := #[] }) (.int .i64 0) (.int .i64 tq)) (.slice aa m cc) la := OwnS.far6 HOb.out (by omega)
      generalize set6W (wF.setCell ⟨R, 1, none⟩ (.bool true)) w.heap.size (.string (str ta)) (.int .u8 0) (.slice aa m cc) (.string { data := #[] }) (.int .i64 0) (.int .i64 tq) = W9 at *
      obtain ⟨y0, y1, y2, y3, y4, y5⟩ := hD.pb.six
      refine bodyPost_ret (v := .agg #[.string (str ta), .int .u8 0, .slice aa m cc, .string { data := #[] }, .int .i64 0, .int .i64 tq]) (by simp [results, Tryd.results105, go_sem, y0, y1, y2, y3, y4, y5]) rfl ?_
      exact ⟨xx, by rw [HX2.out], aa, m, cc, by rw [HXX.out]; rfl, by rw [HXX.out]; exact hO9.mono (by omega), by rw [HXX.out]; exact ⟨hta, hov, htw, htq⟩, by rw [HX2.out]; exact hD.rd, hD.g⟩
    | some rF =>
      have HIt : Hid (ItV wF xx (.agg #[.string (str ta), .int .u8 0, .slice aa m cc, .string { data := #[] }, .int .i64 0, .int .i64 tq])) := Lib.hid ⟨aa, m, cc, by rw [hxx]; rfl, by rw [hxx]; exact HO.out.row, by rw [hxx]; exact hta, by rw [hxx]; exact hov, by rw [hxx]; exact htw, by rw [hxx]; exact htq⟩
      have c1 : wF.cell? ⟨R, 1, none⟩ = some (.bool false) := HF.out.rd.mark
      have f1 := HF.out.rd.free
      obtain ⟨p0, p1, p2, p3, p4, p5⟩ := HF.out.bv.six
      have HXX := Lib.hid hxx
      clear hxx
      go_wp2_with fail
      refine (ffits_any xx wF _ HIt.out).mono ?_
      rintro e wG ⟨rfl, hEG⟩
      have HFG := Lib.hid (HF.out.then hEG)
      have HOG := Lib.hid (HO.out.ext hEG)
      clear hEG c1 f1 p0 p1 p2 p3 p4 p5 HF HO
      cases hit : itB xx with
      | true =>
        have HX2 : Hid (itemS s = (xx, some rF)) := Lib.hid (by rw [HX.out, hit]; rfl)
        clear hit
        have c1 : wG.cell? ⟨R, 1, none⟩ = some (.bool false) := HFG.out.rd.mark
        have f1 := HFG.out.rd.free
        obtain ⟨p0, p1, p2, p3, p4, p5⟩ := HFG.out.bv.six
        obtain ⟨z0, z1, z2, z3, z4, z5⟩ := HFG.out.pb.six
        have g0 := HFG.out.pb.free 0
        have g1 := HFG.out.pb.free 1
        have g2 := HFG.out.pb.free 2
        have g3 := HFG.out.pb.free 3
        have g4 := HFG.out.pb.free 4
        have g5 := HFG.out.pb.free 5
        have HFb := Lib.hid (HFG.out.bad false (some rF) rfl (fun xs h => h))
        have HOb : Hid (OwnS 9 (w3.heap.size + 1) (wG.setCell ⟨R, 1, none⟩ (.bool false)) (.slice aa m cc) la) := Lib.hid (HOG.out.far (by omega) 1 _)
        go_wp2
        change bodyPost _ _ _ _ _ (set6W (wG.setCell ⟨R, 1, none⟩ (.bool false)) w.heap.size (.string (str ta)) (.int .u8 0) (.slice aa m cc) (.string { data := #[] }) (.int .i64 0) (.int .i64 tq))
        have hD := HFb.out.done (.string (str ta)) (.int .u8 0) (.slice aa m cc) (.string { data := #[] }) (.int .i64 0) (.int .i64 tq)
        have hO9 : OwnS 9 (w3.heap.size + 1) (set6W (wG.setCell ⟨R, 1, none⟩ (.bool false)) w.heap.size (.string (str ta)) (.int .u8 0) (.slice aa m cc) (.string { data := #[] }) (.int .i64 0) (.int .i64 tq)) (.slice aa m cc) la := OwnS.far6 HOb.out (by omega)
        generalize set6W (wG.setCell ⟨R, 1, none⟩ (.bool false)) w.heap.size (.string (str ta)) (.int .u8 0) (.slice aa m cc) (.string { data := #[] }) (.int .i64 0) (.int .i64 tq) = W9 at *
        obtain ⟨y0, y1, y2, y3, y4, y5⟩ := hD.pb.six
        refine bodyPost_ret (v := .agg #[.string (str ta), .int .u8 0, .slice aa m cc, .string { data := #[] }, .int .i64 0, .int .i64 tq]) (by simp [results, Tryd.results105, go_sem, y0, y1, y2, y3, y4, y5]) rfl ?_
        exact ⟨xx, by rw [HX2.out], aa, m, cc, by rw [HXX.out]; rfl, by rw [HXX.out]; exact hO9.mono (by omega), by rw [HXX.out]; exact ⟨hta, hov, htw, htq⟩, by rw [HX2.out]; exact hD.rd, hD.g⟩
      | false =>
        have HX2 : Hid (itemS s = (xx, none)) := Lib.hid (by rw [HX.out, hit]; rfl)
        clear hit
        have c1 : wG.cell? ⟨R, 1, none⟩ = some (.bool false) := HFG.out.rd.mark
        have f1 := HFG.out.rd.free
        obtain ⟨p0, p1, p2, p3, p4, p5⟩ := HFG.out.bv.six
        obtain ⟨z0, z1, z2, z3, z4, z5⟩ := HFG.out.pb.six
        have g0 := HFG.out.pb.free 0
        have g1 := HFG.out.pb.free 1
        have g2 := HFG.out.pb.free 2
        have g3 := HFG.out.pb.free 3
        have g4 := HFG.out.pb.free 4
        have g5 := HFG.out.pb.free 5
        have HFb := Lib.hid (HFG.out.bad true none rfl (fun xs h => by cases h))
        have HOb : Hid (OwnS 9 (w3.heap.size + 1) (wG.setCell ⟨R, 1, none⟩ (.bool true)) (.slice aa m cc) la) := Lib.hid (HOG.out.far (by omega) 1 _)
        go_wp2
        change bodyPost _ _ _ _ _ (set6W (wG.setCell ⟨R, 1, none⟩ (.bool true)) w.heap.size (.string (str ta)) (.int .u8 0) (.slice aa m cc) (.string { data := #[] }) (.int .i64 0) (.int .i64 tq))
        have hD := HFb.out.done (.string (str ta)) (.int .u8 0) (.slice aa m cc) (.string { data := #[] }) (.int .i64 0) (.int .i64 tq)
        have hO9 : OwnS 9 (w3.heap.size + 1) (set6W (wG.setCell ⟨R, 1, none⟩ (.bool true)) w.heap.size (.string (str ta)) (.int .u8 0) (.slice aa m cc) (.string { data := #[] }) (.int .i64 0) (.int .i64 tq)) (.slice aa m cc) la := OwnS.far6 HOb.out (by omega)
        generalize set6W (wG.setCell ⟨R, 1, none⟩ (.bool true)) w.heap.size (.string (str ta)) (.int .u8 0) (.slice aa m cc) (.string { data := #[] }) (.int .i64 0) (.int .i64 tq) = W9 at *
        obtain ⟨y0, y1, y2, y3, y4, y5⟩ := hD.pb.six
        refine bodyPost_ret (v := .agg #[.string (str ta), .int .u8 0, .slice aa m cc, .string { data := #[] }, .int .i64 0, .int .i64 tq]) (by simp [results, Tryd.results105, go_sem, y0, y1, y2, y3, y4, y5]) rfl ?_
        exact ⟨xx, by rw [HX2.out], aa, m, cc, by rw [HXX.out]; rfl, by rw [HXX.out]; exact hO9.mono (by omega), by rw [HXX.out]; exact ⟨hta, hov, htw, htq⟩, by rw [HX2.out]; exact hD.rd, hD.g⟩
  · obtain ⟨te, hte⟩ : ∃ te, te = (textS sd).1 := ⟨_, rfl⟩
    obtain ⟨se, hse⟩ : ∃ se, se = (textS sd).2 := ⟨_, rfl⟩
    obtain ⟨tw, htw0⟩ : ∃ tw, tw = (numS 40 se).1 := ⟨_, rfl⟩
    obtain ⟨sF, hsF⟩ : ∃ sF, sF = (numS 40 se).2 := ⟨_, rfl⟩
    have hov : te.length ≤ 9223372036854775807 := by have := textS_len sd; rw [← hte] at this; omega
    have htwr := numS_range 40 (by omega) se
    rw [← htw0] at htwr
    have htw : isI64 tw := by unfold isI64; omega
    have HTE : Hid (textS sd = (te, se)) := Lib.hid (by rw [hte, hse])
    have HTW : Hid (numS 40 se = (tw, sF)) := Lib.hid (by rw [htw0, hsF])
    have HX : Hid (itemS s = (⟨ta, 1, la, te, tw, tq⟩, if sF.isNone || !itB ⟨ta, 1, la, te, tw, tq⟩ then none else sF)) := Lib.hid (by
      have h := HIT.out
      simp only [if_true] at h
      rw [HTE.out] at h
      simp only at h
      rw [HTW.out] at h
      exact h)
    clear hte hse htw0 hsF htwr HIT
    rintro e w3 ⟨rfl, hr3, hg3⟩
    have HP3 := Lib.hid (hP2.kept hg3 (fun e => by injection e with e; omega))
    have HG3 := Lib.hid (grown_trans hg2 hg3)
    have hz3 := hg3.size
    have HR3 := Lib.hid hr3
    clear hr3 hg3 hP2 hg2 hr2
    have hst4 : ItSt w0 w (w3.alloc (.cells #[.string (str ta), .int .u8 1, .slice none 0 0, .string { data := #[] }, .int .i64 0, .int .i64 0] 47)) R w.heap.size w3.heap.size sb [.string { data := #[] }, .int .u8 0, .slice none 0 0, .string { data := #[] }, .int .i64 0, .int .i64 0] [.string (str ta), .int .u8 1, .slice none 0 0, .string { data := #[] }, .int .i64 0, .int .i64 0] :=
      ⟨HR3.out.then ((Ext.refl w3).alloc _), grown_trans HG3.out (grown_ext ((Ext.refl w3).alloc _) _), HP3.out.ext ((Ext.refl w3).alloc _), BoxL.new w3 _ _, hRw, by omega, by omega⟩
    have HST := Lib.hid hst4
    have hz4 : (w3.alloc (.cells #[.string (str ta), .int .u8 1, .slice none 0 0, .string { data := #[] }, .int .i64 0, .int .i64 0] 47)).heap.size = w3.heap.size + 1 := by simp
    have HZ4 := Lib.hid hz4
    clear hst4 hz4
    have hPV : w.heap.size < w3.heap.size := by omega
    go_wp2_with fail
    obtain ⟨V, hV⟩ : ∃ V, V = w3.heap.size := ⟨_, rfl⟩
    have HVe := Lib.hid hV
    clear hV
    refine (frmanyS_any 20 (by omega) (by omega) HST.out.rd).mono ?_
    rintro e w5 ⟨v5, rfl, hO5, hr5, hg5⟩
    rw [HZ4.out] at hO5
    have hst5 := HST.out.step hr5 hg5
    rw [← HMa.out] at hO5 hst5
    obtain ⟨aa, cc, rfl, -⟩ := hO5.row.slice
    generalize hm : la.length = m at *
    clear hm HST hr5 hg5 HP3 HG3 HR3
    have HO5 := Lib.hid hO5
    have HS5 := Lib.hid hst5
    obtain ⟨p0, p1, p2, p3, p4, p5⟩ := hst5.bv.six
    have g2 := hst5.bv.free 2
    have h6 : Hid (ItSt w0 w (w5.setCell ⟨w3.heap.size, 2, none⟩ (.slice aa m cc)) R w.heap.size w3.heap.size sc [.string { data := #[] }, .int .u8 0, .slice none 0 0, .string { data := #[] }, .int .i64 0, .int .i64 0] [.string (str ta), .int .u8 1, .slice aa m cc, .string { data := #[] }, .int .i64 0, .int .i64 0]) := Lib.hid (HS5.out.set 2 (by simp) _)
    have HO6 : Hid (OwnS 9 (w3.heap.size + 1) (w5.setCell ⟨w3.heap.size, 2, none⟩ (.slice aa m cc)) (.slice aa m cc) la) := Lib.hid (HO5.out.far (by omega) 2 _)
    clear hst5 hO5
    go_wp2_with fail
    clear p0 p1 p2 p3 p4 p5 g2 HS5 HO5
    generalize w5.setCell ⟨w3.heap.size, 2, none⟩ (.slice aa m cc) = W6 at *
    refine (frnum_any 400 (by omega) (by omega) h6.out.rd).mono ?_
    rintro e w7 ⟨rfl, hr7, hg7⟩
    rw [← HQd.out] at hr7 ⊢
    have hst7 := h6.out.step hr7 hg7
    have HO7 := Lib.hid (HO6.out.kept hg7 (fun b hb e => by injection e with e; have := (HO6.out.block b hb).1; omega))
    have HS7 := Lib.hid hst7
    obtain ⟨p0, p1, p2, p3, p4, p5⟩ := hst7.bv.six
    have g5 := hst7.bv.free 5
    have h8 : Hid (ItSt w0 w (w7.setCell ⟨w3.heap.size, 5, none⟩ (.int .i64 tq)) R w.heap.size w3.heap.size sd [.string { data := #[] }, .int .u8 0, .slice none 0 0, .string { data := #[] }, .int .i64 0, .int .i64 0] [.string (str ta), .int .u8 1, .slice aa m cc, .string { data := #[] }, .int .i64 0, .int .i64 tq]) := Lib.hid (HS7.out.set 5 (by simp) _)
    have HO8 : Hid (OwnS 9 (w3.heap.size + 1) (w7.setCell ⟨w3.heap.size, 5, none⟩ (.int .i64 tq)) (.slice aa m cc) la) := Lib.hid (HO7.out.far (by omega) 5 _)
    clear hst7 hr7 hg7 h6 HO6
    go_upto_region 4 with (fail)
    clear p0 p1 p2 p3 p4 p5 g5 HS7 HO7
    generalize w7.setCell ⟨w3.heap.size, 5, none⟩ (.int .i64 tq) = W8 at *
    obtain ⟨p0, p1, p2, p3, p4, p5⟩ := h8.out.bv.six
    obtain rfl : V = w3.heap.size := HVe.out
    clear HVe
    go_wp2_with fail
    clear p0 p1 p2 p3 p4 p5
    refine (frtext_any h8.out.rd).mono ?_
    rw [HTE.out]
    rintro e w9 ⟨rfl, hr9, hg9⟩
    have hst9 := h8.out.step hr9 hg9
    have HO9 := Lib.hid (HO8.out.kept hg9 (fun b hb e => by injection e with e; have := (HO8.out.block b hb).1; omega))
    have HS9 := Lib.hid hst9
    obtain ⟨p0, p1, p2, p3, p4, p5⟩ := hst9.bv.six
    have g3 := hst9.bv.free 3
    have h10 : Hid (ItSt w0 w (w9.setCell ⟨w3.heap.size, 3, none⟩ (.string (str te))) R w.heap.size w3.heap.size se [.string { data := #[] }, .int .u8 0, .slice none 0 0, .string { data := #[] }, .int .i64 0, .int .i64 0] [.string (str ta), .int .u8 1, .slice aa m cc, .string (str te), .int .i64 0, .int .i64 tq]) := Lib.hid (HS9.out.set 3 (by simp) _)
    have HO10 : Hid (OwnS 9 (w3.heap.size + 1) (w9.setCell ⟨w3.heap.size, 3, none⟩ (.string (str te))) (.slice aa m cc) la) := Lib.hid (HO9.out.far (by omega) 3 _)
    clear hst9 hr9 hg9 h8 HO8
    go_wp2_with fail
    clear p0 p1 p2 p3 p4 p5 g3 HS9 HO9
    generalize w9.setCell ⟨w3.heap.size, 3, none⟩ (.string (str te)) = W10 at *
    refine (frnum_any 40 (by omega) (by omega) h10.out.rd).mono ?_
    rw [HTW.out]
    rintro e w11 ⟨rfl, hr11, hg11⟩
    have hst11 := h10.out.step hr11 hg11
    have HO11 := Lib.hid (HO10.out.kept hg11 (fun b hb e => by injection e with e; have := (HO10.out.block b hb).1; omega))
    have HS11 := Lib.hid hst11
    obtain ⟨p0, p1, p2, p3, p4, p5⟩ := hst11.bv.six
    have g4 := hst11.bv.free 4
    have h12 : Hid (ItSt w0 w (w11.setCell ⟨w3.heap.size, 4, none⟩ (.int .i64 tw)) R w.heap.size w3.heap.size sF [.string { data := #[] }, .int .u8 0, .slice none 0 0, .string { data := #[] }, .int .i64 0, .int .i64 0] [.string (str ta), .int .u8 1, .slice aa m cc, .string (str te), .int .i64 tw, .int .i64 tq]) := Lib.hid (HS11.out.set 4 (by simp) _)
    have HO12 : Hid (OwnS 9 (w3.heap.size + 1) (w11.setCell ⟨w3.heap.size, 4, none⟩ (.int .i64 tw)) (.slice aa m cc) la) := Lib.hid (HO11.out.far (by omega) 4 _)
    clear hst11 hr11 hg11 h10 HO10
    go_upto_region 7 with (fail)
    clear p0 p1 p2 p3 p4 p5 g4 HS11 HO11
    generalize w11.setCell ⟨w3.heap.size, 4, none⟩ (.int .i64 tw) = wF at *
    have HF := h12
    have HO := HO12
    clear h12 HO12
    obtain ⟨xx, hxx⟩ : ∃ xx : It, xx = ⟨ta, 1, la, te, tw, tq⟩ := ⟨_, rfl⟩
    rw [← hxx] at HX
    cases sF with
    | none =>
      have HX2 : Hid (itemS s = (xx, none)) := Lib.hid (by rw [HX.out]; rfl)
      have c1 : wF.cell? ⟨R, 1, none⟩ = some (.bool true) := HF.out.rd.mark
      have f1 := HF.out.rd.free
      obtain ⟨p0, p1, p2, p3, p4, p5⟩ := HF.out.bv.six
      obtain ⟨z0, z1, z2, z3, z4, z5⟩ := HF.out.pb.six
      have g0 := HF.out.pb.free 0
      have g1 := HF.out.pb.free 1
      have g2 := HF.out.pb.free 2
      have g3 := HF.out.pb.free 3
      have g4 := HF.out.pb.free 4
      have g5 := HF.out.pb.free 5
      have HXX := Lib.hid hxx
      clear hxx
      have HFb := Lib.hid (HF.out.bad true none rfl (fun xs h => by cases h))
      have HOb : Hid (OwnS 9 (w3.heap.size + 1) (wF.setCell ⟨R, 1, none⟩ (.bool true)) (.slice aa m cc) la) := Lib.hid (HO.out.far (by omega) 1 _)
      go_wp2
      change bodyPost _ _ _ _ _ (set6W (wF.setCell ⟨R, 1, none⟩ (.bool true)) w.heap.size (.string (str ta)) (.int .u8 1) (.slice aa m cc) (.string (str te)) (.int .i64 tw) (.int .i64 tq))
      have hD := HFb.out.done (.string (str ta)) (.int .u8 1) (.slice aa m cc) (.string (str te)) (.int .i64 tw) (.int .i64 tq)
      have hO9 : OwnS 9 (w3.heap.size + 1) (set6W (wF.setCell ⟨R, 1, none⟩ (.bool true)) w.heap.size (.string (str ta)) (.int .u8 1) (.slice aa m cc) (.string (str te)) (.int .i64 tw) (.int .i64 tq)) (.slice aa m cc) la := OwnS.far6 HOb.out (by omega)
      generalize set6W (wF.setCell ⟨R, 1, none⟩ (.bool true)) w.heap.size (.string (str ta)) (.int .u8 1) (.slice aa m cc) (.string (str te)) (.int .i64 tw) (.int .i64 tq) = W9 at *
      obtain ⟨y0, y1, y2, y3, y4, y5⟩ := hD.pb.six
      refine bodyPost_ret (v := .agg #[.string (str ta), .int .u8 1, .slice aa m cc, .string (str te), .int .i64 tw, .int .i64 tq]) (by simp [results, Tryd.results105, go_sem, y0, y1, y2, y3, y4, y5]) rfl ?_
      exact ⟨xx, by rw [HX2.out], aa, m, cc, by rw [HXX.out]; rfl, by rw [HXX.out]; exact hO9.mono (by omega), by rw [HXX.out]; exact ⟨hta, hov, htw, htq⟩, by rw [HX2.out]; exact hD.rd, hD.g⟩
    | some rF =>
      have HIt : Hid (ItV wF xx (.agg #[.string (str ta), .int .u8 1, .slice aa m cc, .string (str te), .int .i64 tw, .int .i64 tq])) := Lib.hid ⟨aa, m, cc, by rw [hxx]; rfl, by rw [hxx]; exact HO.out.row, by rw [hxx]; exact hta, by rw [hxx]; exact hov, by rw [hxx]; exact htw, by rw [hxx]; exact htq⟩
      have c1 : wF.cell? ⟨R, 1, none⟩ = some (.bool false) := HF.out.rd.mark
      have f1 := HF.out.rd.free
      obtain ⟨p0, p1, p2, p3, p4, p5⟩ := HF.out.bv.six
      have HXX := Lib.hid hxx
      clear hxx
      go_wp2_with fail
      refine (ffits_any xx wF _ HIt.out).mono ?_
      rintro e wG ⟨rfl, hEG⟩
      have HFG := Lib.hid (HF.out.then hEG)
      have HOG := Lib.hid (HO.out.ext hEG)
      clear hEG c1 f1 p0 p1 p2 p3 p4 p5 HF HO
      cases hit : itB xx with
      | true =>
        have HX2 : Hid (itemS s = (xx, some rF)) := Lib.hid (by rw [HX.out, hit]; rfl)
        clear hit
        have c1 : wG.cell? ⟨R, 1, none⟩ = some (.bool false) := HFG.out.rd.mark
        have f1 := HFG.out.rd.free
        obtain ⟨p0, p1, p2, p3, p4, p5⟩ := HFG.out.bv.six
        obtain ⟨z0, z1, z2, z3, z4, z5⟩ := HFG.out.pb.six
        have g0 := HFG.out.pb.free 0
        have g1 := HFG.out.pb.free 1
        have g2 := HFG.out.pb.free 2
        have g3 := HFG.out.pb.free 3
        have g4 := HFG.out.pb.free 4
        have g5 := HFG.out.pb.free 5
        have HFb := Lib.hid (HFG.out.bad false (some rF) rfl (fun xs h => h))
        have HOb : Hid (OwnS 9 (w3.heap.size + 1) (wG.setCell ⟨R, 1, none⟩ (.bool false)) (.slice aa m cc) la) := Lib.hid (HOG.out.far (by omega) 1 _)
        go_wp2
        change bodyPost _ _ _ _ _ (set6W (wG.setCell ⟨R, 1, none⟩ (.bool false)) w.heap.size (.string (str ta)) (.int .u8 1) (.slice aa m cc) (.string (str te)) (.int .i64 tw) (.int .i64 tq))
        have hD := HFb.out.done (.string (str ta)) (.int .u8 1) (.slice aa m cc) (.string (str te)) (.int .i64 tw) (.int .i64 tq)
        have hO9 : OwnS 9 (w3.heap.size + 1) (set6W (wG.setCell ⟨R, 1, none⟩ (.bool false)) w.heap.size (.string (str ta)) (.int .u8 1) (.slice aa m cc) (.string (str te)) (.int .i64 tw) (.int .i64 tq)) (.slice aa m cc) la := OwnS.far6 HOb.out (by omega)
        generalize set6W (wG.setCell ⟨R, 1, none⟩ (.bool false)) w.heap.size (.string (str ta)) (.int .u8 1) (.slice aa m cc) (.string (str te)) (.int .i64 tw) (.int .i64 tq) = W9 at *
        obtain ⟨y0, y1, y2, y3, y4, y5⟩ := hD.pb.six
        refine bodyPost_ret (v := .agg #[.string (str ta), .int .u8 1, .slice aa m cc, .string (str te), .int .i64 tw, .int .i64 tq]) (by simp [results, Tryd.results105, go_sem, y0, y1, y2, y3, y4, y5]) rfl ?_
        exact ⟨xx, by rw [HX2.out], aa, m, cc, by rw [HXX.out]; rfl, by rw [HXX.out]; exact hO9.mono (by omega), by rw [HXX.out]; exact ⟨hta, hov, htw, htq⟩, by rw [HX2.out]; exact hD.rd, hD.g⟩
      | false =>
        have HX2 : Hid (itemS s = (xx, none)) := Lib.hid (by rw [HX.out, hit]; rfl)
        clear hit
        have c1 : wG.cell? ⟨R, 1, none⟩ = some (.bool false) := HFG.out.rd.mark
        have f1 := HFG.out.rd.free
        obtain ⟨p0, p1, p2, p3, p4, p5⟩ := HFG.out.bv.six
        obtain ⟨z0, z1, z2, z3, z4, z5⟩ := HFG.out.pb.six
        have g0 := HFG.out.pb.free 0
        have g1 := HFG.out.pb.free 1
        have g2 := HFG.out.pb.free 2
        have g3 := HFG.out.pb.free 3
        have g4 := HFG.out.pb.free 4
        have g5 := HFG.out.pb.free 5
        have HFb := Lib.hid (HFG.out.bad true none rfl (fun xs h => by cases h))
        have HOb : Hid (OwnS 9 (w3.heap.size + 1) (wG.setCell ⟨R, 1, none⟩ (.bool true)) (.slice aa m cc) la) := Lib.hid (HOG.out.far (by omega) 1 _)
        go_wp2
        change bodyPost _ _ _ _ _ (set6W (wG.setCell ⟨R, 1, none⟩ (.bool true)) w.heap.size (.string (str ta)) (.int .u8 1) (.slice aa m cc) (.string (str te)) (.int .i64 tw) (.int .i64 tq))
        have hD := HFb.out.done (.string (str ta)) (.int .u8 1) (.slice aa m cc) (.string (str te)) (.int .i64 tw) (.int .i64 tq)
        have hO9 : OwnS 9 (w3.heap.size + 1) (set6W (wG.setCell ⟨R, 1, none⟩ (.bool true)) w.heap.size (.string (str ta)) (.int .u8 1) (.slice aa m cc) (.string (str te)) (.int .i64 tw) (.int .i64 tq)) (.slice aa m cc) la := OwnS.far6 HOb.out (by omega)
        generalize set6W (wG.setCell ⟨R, 1, none⟩ (.bool true)) w.heap.size (.string (str ta)) (.int .u8 1) (.slice aa m cc) (.string (str te)) (.int .i64 tw) (.int .i64 tq) = W9 at *
        obtain ⟨y0, y1, y2, y3, y4, y5⟩ := hD.pb.six
        refine bodyPost_ret (v := .agg #[.string (str ta), .int .u8 1, .slice aa m cc, .string (str te), .int .i64 tw, .int .i64 tq]) (by simp [results, Tryd.results105, go_sem, y0, y1, y2, y3, y4, y5]) rfl ?_
        exact ⟨xx, by rw [HX2.out], aa, m, cc, by rw [HXX.out]; rfl, by rw [HXX.out]; exact hO9.mono (by omega), by rw [HXX.out]; exact ⟨hta, hov, htw, htq⟩, by rw [HX2.out]; exact hD.rd, hD.g⟩
end Go.Proofs.YtnbalamacpcanaaDoor
