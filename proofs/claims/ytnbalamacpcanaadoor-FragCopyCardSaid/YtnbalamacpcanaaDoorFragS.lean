/- Walks: frag's reader: many texts. -/
import Derived.Test.YtnbalamacpcanaaDoorFragR
import Derived.Test.YtnbalamacpcanaaDoorOwnF
import Derived.Test.YtnbalamacpcanaaDoorValL
open Go.RowKit Go.Shelf
namespace Go.Proofs.YtnbalamacpcanaaDoor
open Go Go.Proofs Fm

theorem info_string : (Tryd.prog.info? 9).map (fun i => (i.zero, i.size, i.bytes)) = some (some (.string { data := #[] }), 1, 16) := by kernel_rfl
theorem elem_string : ElemOf Tryd.prog 45 9 (.string { data := #[] }) 1 16 := ⟨Tryd.underlying45, info_string, rfl, by decide⟩

set_option maxRecDepth 100000 in
set_option maxHeartbeats 4000000 in
theorem frmanyS_any (high : Int) (hh : 0 ≤ high) (hh2 : high ≤ 100) {w0 w : World} {R : Nat} {s : Option (List UInt8)} (h : RdS w0 w R s) :
    Calls Tryd.prog 155 #[.pointer (some ⟨R, 0, none⟩), .int .i64 high, .func (.func 154) #[.pointer (some ⟨R, 0, none⟩)] #[]] w fun e w' =>
      ∃ v, e = .returned v ∧ OwnS 9 w.heap.size w' v (manyS high textS s).1 ∧ RdS w0 w' R (manyS high textS s).2 ∧ w.grownBy w' (some R) := by
  have H := Lib.hid h
  have hR := h.lt
  obtain ⟨n, hn⟩ : ∃ n : Nat, n = (numS high s).1.toNat := ⟨_, rfl⟩
  have hnr := numS_range high hh s
  have hni : (numS high s).1 = (n : Int) := by omega
  have hn100 : n ≤ 100 := by omega
  have HNI := Lib.hid hni
  have HM : Hid (manyS high textS s = loopS textS n [] (numS high s).2) := Lib.hid (by unfold manyS; rw [← hn])
  clear h hn hni hnr
  go_enter Tryd.func155, Tryd.ntmps155
  go_wp2_with fail
  refine (frnum_any high hh (by omega) H.out).mono ?_
  rw [HNI.out]
  rintro e w1 ⟨rfl, hr1, hg1⟩
  have HR1 := Lib.hid hr1
  have HG1 := Lib.hid hg1
  clear hr1 hg1
  go_wp2_with fail
  go_loopw [7, 12] (fun o i wr => ∃ (j : Nat) (acc : List (List UInt8)) (sj : Option (List UInt8)), j ≤ n ∧ i = .int .i64 j ∧ Hid (manyS high textS s = loopS textS (n - j) acc sj) ∧ acc.length ≤ j ∧ Hid (OwnS 9 w.heap.size wr o acc) ∧ Hid (RdS w0 wr R sj) ∧ Hid (w.grownBy wr (some R))) (fun _ i _ => n - (intOf i).toNat)
  case atStart => exact ⟨0, [], _, by omega, rfl, HM, by simp, Lib.hid (OwnS.nil _ _ _), HR1, HG1⟩
  case round =>
    obtain ⟨j, acc, sj, hj, rfl, HL, hacc, HO, HRj, HG⟩ := hrel
    by_cases hlt : j < n
    · have hz := HG.out.size
      go_wp2_with fail
      refine (frtext_any HRj.out).mono ?_
      rintro e w2 ⟨rfl, hr2, hg2⟩
      have HR2 := Lib.hid hr2
      have HG2 := Lib.hid (grown_trans HG.out hg2)
      have HO2 : Hid (OwnS 9 w.heap.size w2 u7 acc) := Lib.hid (HO.out.kept hg2 (fun b hb e => by injection e with e; have := (HO.out.block b hb).1; omega))
      have hts := textS_len sj
      have hz2 := HG2.out.size
      obtain ⟨v2, ys2, hF2, -⟩ := hr2
      have c1 := hF2.c1
      have HL2 : Hid (manyS high textS s = loopS textS (n - (j + 1)) (if (textS sj).2.isNone then acc else acc ++ [(textS sj).1]) (textS sj).2) := Lib.hid (by
        rw [HL.out, show n - j = (n - (j + 1)) + 1 by omega]; rfl)
      clear hg2 hF2 HO HRj HG HL
      obtain ⟨T, hT⟩ : ∃ T, T = (textS sj).1 := ⟨_, rfl⟩
      obtain ⟨s2, hs2⟩ : ∃ s2, s2 = (textS sj).2 := ⟨_, rfl⟩
      rw [← hT, ← hs2] at HL2
      rw [← hs2] at HR2 c1
      rw [← hT] at hts ⊢
      clear hT hs2
      cases s2 with
      | none =>
        have HL3 : Hid (manyS high textS s = loopS textS (n - (j + 1)) acc none) := HL2
        have c1 : w2.cell? ⟨R, 1, none⟩ = some (.bool true) := c1
        go_wp2
        go_roundw
        case rel => exact ⟨j + 1, acc, none, by omega, by go_num, HL3, by omega, HO2, HR2, HG2⟩
        case measure => simp [intOf]; omega
      | some r2 =>
        have HL3 : Hid (manyS high textS s = loopS textS (n - (j + 1)) (acc ++ [T]) (some r2)) := HL2
        have c1 : w2.cell? ⟨R, 1, none⟩ = some (.bool false) := c1
        have hE3 : Ext w2 (w2.alloc (.cells #[.string (str T)] 9)) := (Ext.refl w2).alloc _
        have HOr : Hid ((w2.alloc (.cells #[.string (str T)] 9)).ownsRow w.heap.size 9 1 u7 acc.length (acc.map strV)) := Lib.hid (hE3.own HO2.out.1)
        have HNb : Hid ((w2.alloc (.cells #[.string (str T)] 9)).heap[w2.heap.size]? = some (.cells [.string (str T)].toArray 9 (0, 0))) := Lib.hid (heap_alloc_new w2 _)
        have HE3 := Lib.hid hE3
        have hz3 := hE3.size
        clear hE3
        go_wp2_with (at_builtin; refine wpList_appOne elem_string rfl _ _ rfl rfl HOr.out rfl HNb.out rfl (by simp [Value.oneCell']) (by omega) (by omega) (by omega) ?_)
        intro v4 w4 hown4 hg4 hat4
        have HO4 : Hid (OwnS 9 w.heap.size w4 v4 (acc ++ [T])) := Lib.hid (OwnS.snoc hown4 HO2.out.2 (by omega))
        have hne : ∀ b, u7.ownBlock = some b → w.heap.size ≤ b := fun b hb => (HO2.out.block b hb).1
        have HR4 : Hid (RdS w0 w4 R (some r2)) := Lib.hid ((HR2.out.then HE3.out).kept hg4 (fun b hb => by have := hne b hb; have := HR2.out.old; omega))
        have HG4 : Hid (w.grownBy w4 (some R)) := Lib.hid (grown_row (grown_trans HG2.out (grown_ext HE3.out _)) hg4 hne)
        clear hown4 hg4 hat4 hne
        go_wp2
        go_roundw
        case rel => exact ⟨j + 1, acc ++ [T], some r2, by omega, by go_num, HL3, by simp; omega, HO4, HR4, HG4⟩
        case measure => simp [intOf]; omega
    · have hjn : j = n := by omega
      have hX : manyS high textS s = (acc, sj) := by have := HL.out; rw [hjn, Nat.sub_self] at this; exact this
      have hR2 : ∃ vr, vr = u7 ∧ OwnS 9 w.heap.size wr vr (manyS high textS s).1 ∧ RdS w0 wr R (manyS high textS s).2 ∧ w.grownBy wr (some R) := ⟨u7, rfl, by rw [hX]; exact HO.out, by rw [hX]; exact HRj.out, HG.out⟩
      obtain ⟨vr, rfl, hq1, hq2, hq3⟩ := hR2
      have Q1 := Lib.hid hq1
      have Q2 := Lib.hid hq2
      have Q3 := Lib.hid hq3
      clear hq1 hq2 hq3 hX HO HRj HG HL hjn
      go_wp2
      go_ret
      exact ⟨_, rfl, Q1.out, Q2.out, Q3.out⟩
end Go.Proofs.YtnbalamacpcanaaDoor
