/- Walks: frag's reader: num, text. -/
import Derived.Test.YtdienbcjfljjnaaDoorPlF
import Derived.Test.YtdienbcjfljjnaaDoorFrgA
import Derived.Test.YtdienbcjfljjnaaDoorValL
import Derived.Deep.Cut
open Go.RowKit Go.Shelf
namespace Go.Proofs.YtdienbcjfljjnaaDoor
open Go Go.Proofs Fm

/-- What a step of the reader comes to. -/
def RdfPost (w0 w : World) (R : Nat) (x : Value) (s : Option (List UInt8)) (e : Ending) (w' : World) : Prop := e = .returned x ∧ RdS w0 w' R s ∧ w.grownBy w' (some R)

set_option maxRecDepth 100000 in
set_option maxHeartbeats 2000000 in
theorem frnum_any (high : Int) (hh : 0 ≤ high) (hh2 : high ≤ 1000) {w0 w : World} {R : Nat} {s : Option (List UInt8)} (h : RdS w0 w R s) :
    Calls Tryd.prog 119 #[.pointer (some ⟨R, 0, none⟩), .int .i64 high] w (RdfPost w0 w R (.int .i64 (numS high s).1) (numS high s).2) := by
  obtain ⟨v, ys, hF, hys⟩ := h
  have H := Lib.hid hF
  have HY := Lib.hid hys
  have c0 := hF.c0
  have c1 := hF.c1
  have f0 := hF.f0
  have f1 := hF.f1
  clear hF hys
  obtain ⟨b, hb⟩ : ∃ b, b = s.isNone := ⟨_, rfl⟩
  have HB := Lib.hid hb
  rw [← hb] at c1
  clear hb
  go_enter Tryd.func119, Tryd.ntmps119
  go_wp2_with fail
  refine (takeNum_any v ys w (H.out.bytes.ext H.out.ext)).mono ?_
  intro e w1 hp
  unfold TakeNumPost at hp
  cases hN : takeN ys with
  | none =>
    rw [hN] at hp
    obtain ⟨rfl, rfl⟩ := hp
    have HX : Hid (numS high s = (0, none)) := Lib.hid (by
      cases s with
      | none => rfl
      | some xs =>
        obtain rfl := HY.out xs rfl
        exact numS_bad (by unfold hdB; rw [hdN_none hN]; rfl))
    have HP : Hid (RdfPost w0 w R (.int .i64 (numS high s).1) (numS high s).2 (.returned (.int .i64 0)) (w.setCell ⟨R, 1, none⟩ (.bool true))) := Lib.hid (by
      rw [HX.out]
      exact ⟨rfl, ⟨v, ys, H.out.setBad true, fun xs h => by cases h⟩, setOne_grown w R 1 _⟩)
    clear hN
    cases b
    all_goals
      go_wp2
      go_ret
      exact HP.out
  | some p =>
    obtain ⟨n, k⟩ := p
    rw [hN] at hp
    obtain ⟨nq, rfl, rfl⟩ := hp
    have hE : Ext w (w.drewN nq) := (Ext.refl w).drewN nq
    have hr := H.out.then hE
    have HR := Lib.hid hr
    have c0' := hr.c0
    have c1' := hr.c1
    have f0' := hr.f0
    have f1' := hr.f1
    rw [← HB.out] at c1'
    have HBad : Hid (numS high s = (0, none) → RdfPost w0 w R (.int .i64 (numS high s).1) (numS high s).2 (.returned (.int .i64 0)) ((w.drewN nq).setCell ⟨R, 1, none⟩ (.bool true))) := Lib.hid (fun hx => by
      rw [hx]
      exact ⟨rfl, ⟨v, ys, HR.out.setBad true, fun xs h => by cases h⟩, grown_trans (grown_ext hE _) (setOne_grown _ R 1 _)⟩)
    cases s with
    | none =>
      have HP := Lib.hid (HBad.out (numS_none high))
      obtain rfl : b = true := HB.out
      clear hN c0 c1 f0 f1 hE hr HBad
      go_wp2
      go_ret
      exact HP.out
    | some xs =>
      obtain rfl := HY.out xs rfl
      obtain rfl : b = false := HB.out
      have hNb : hdN ys = some (n, ys.drop k) := hdN_some hN
      by_cases hlo : n < 0
      · have HP := Lib.hid (HBad.out (numS_bad (by unfold hdB; rw [hNb, Option.bind_some, if_pos (Or.inl hlo)])))
        clear hN c0 c1 f0 f1 hE hr HBad hNb
        go_wp2
        go_ret
        exact HP.out
      by_cases hhi : high < n
      · have HP := Lib.hid (HBad.out (numS_bad (by unfold hdB; rw [hNb, Option.bind_some, if_pos (Or.inr hhi)])))
        clear hN c0 c1 f0 f1 hE hr HBad hNb
        go_wp2
        go_ret
        exact HP.out
      have HX : Hid (numS high (some ys) = (n, some (ys.drop k))) := Lib.hid (numS_some (by unfold hdB; rw [hNb, Option.bind_some, if_neg (by simp only; omega)]))
      have hb2 := hr.bytes.drop (k := k) (takeN_inv hN).2.2.2.1
      generalize dropV v k = v2 at *
      obtain ⟨a2, cap2, rfl, -⟩ := id hb2
      have HP : Hid (RdfPost w0 w R (.int .i64 (numS high (some ys)).1) (numS high (some ys)).2 (.returned (.int .i64 n)) (((w.drewN nq).setCell ⟨R, 1, none⟩ (.bool (decide (n < 0) || decide (high < n)))).setCell ⟨R, 0, none⟩ (.slice a2 (ys.drop k).length cap2))) := Lib.hid (by
        rw [HX.out, show (decide (n < 0) || decide (high < n)) = false by simp; omega]
        exact ⟨rfl, ⟨_, _, (HR.out.setBad false).setLeft hb2, fun xs h => by injection h⟩, grown_trans (grown_ext hE _) (grown_trans (setOne_grown _ R 1 _) (setOne_grown _ R 0 _))⟩)
      generalize (ys.drop k).length = ly at *
      clear hN c0 c1 f0 f1 hE hr HBad hNb hb2
      go_wp2
      go_ret
      exact HP.out

set_option maxRecDepth 100000 in
set_option maxHeartbeats 2000000 in
theorem frtext_any {w0 w : World} {R : Nat} {s : Option (List UInt8)} (h : RdS w0 w R s) :
    Calls Tryd.prog 120 #[.pointer (some ⟨R, 0, none⟩)] w (RdfPost w0 w R (.string (str (textS s).1)) (textS s).2) := by
  obtain ⟨v, ys, hF, hys⟩ := h
  have H := Lib.hid hF
  have HY := Lib.hid hys
  have c0 := hF.c0
  have c1 := hF.c1
  have f0 := hF.f0
  have f1 := hF.f1
  clear hF hys
  obtain ⟨b, hb⟩ : ∃ b, b = s.isNone := ⟨_, rfl⟩
  have HB := Lib.hid hb
  rw [← hb] at c1
  clear hb
  go_enter Tryd.func120, Tryd.ntmps120
  go_wp2_with fail
  refine (takeText_any v ys 20 (by unfold isI64; omega) w (H.out.bytes.ext H.out.ext)).mono ?_
  intro e w1 hp
  unfold TakeTextPost at hp
  cases hN : takeT ys 20 with
  | none =>
    rw [hN] at hp
    obtain ⟨nq, rfl, rfl⟩ := hp
    have hE : Ext w (w.drewN nq) := (Ext.refl w).drewN nq
    have hr := H.out.then hE
    have HR := Lib.hid hr
    have c0' := hr.c0
    have c1' := hr.c1
    have f0' := hr.f0
    have f1' := hr.f1
    rw [← HB.out] at c1'
    have HX : Hid (textS s = ([], none)) := Lib.hid (by
      cases s with
      | none => rfl
      | some xs =>
        obtain rfl := HY.out xs rfl
        exact textS_bad (hdX_none hN))
    have HP : Hid (RdfPost w0 w R (.string (str (textS s).1)) (textS s).2 (.returned (.string { data := #[] })) ((w.drewN nq).setCell ⟨R, 1, none⟩ (.bool true))) := Lib.hid (by
      rw [HX.out]
      exact ⟨rfl, ⟨v, ys, HR.out.setBad true, fun xs h => by cases h⟩, grown_trans (grown_ext hE _) (setOne_grown _ R 1 _)⟩)
    clear hN c0 c1 f0 f1 hE hr
    cases b
    all_goals
      go_wp2
      go_ret
      exact HP.out
  | some p =>
    obtain ⟨k, n⟩ := p
    rw [hN] at hp
    obtain ⟨nq, rfl, rfl⟩ := hp
    have hE : Ext w (w.drewN nq) := (Ext.refl w).drewN nq
    have hr := H.out.then hE
    have HR := Lib.hid hr
    have c0' := hr.c0
    have c1' := hr.c1
    have f0' := hr.f0
    have f1' := hr.f1
    rw [← HB.out] at c1'
    cases s with
    | none =>
      have HP : Hid (RdfPost w0 w R (.string (str (textS none).1)) (textS none).2 (.returned (.string { data := #[] })) ((w.drewN nq).setCell ⟨R, 1, none⟩ (.bool true))) := Lib.hid
        ⟨rfl, ⟨v, ys, HR.out.setBad true, fun xs h => by cases h⟩, grown_trans (grown_ext hE _) (setOne_grown _ R 1 _)⟩
      obtain rfl : b = true := HB.out
      clear hN c0 c1 f0 f1 hE hr
      go_wp2
      go_ret
      exact HP.out
    | some xs =>
      obtain rfl := HY.out xs rfl
      obtain rfl : b = false := HB.out
      have HX : Hid (textS (some ys) = ((ys.drop k).take n, some ((ys.drop k).drop n))) := Lib.hid (textS_some (hdX_some hN))
      obtain ⟨_, _, hkn⟩ := takeT_inv hN
      have hb2 := (hr.bytes.drop (k := k) (by omega)).drop (k := n) (by simp; omega)
      generalize dropV (dropV v k) n = v2 at *
      obtain ⟨a2, cap2, rfl, -⟩ := id hb2
      have HP : Hid (RdfPost w0 w R (.string (str (textS (some ys)).1)) (textS (some ys)).2 (.returned (.string (str ((ys.drop k).take n)))) (((w.drewN nq).setCell ⟨R, 1, none⟩ (.bool false)).setCell ⟨R, 0, none⟩ (.slice a2 ((ys.drop k).drop n).length cap2))) := Lib.hid (by
        rw [HX.out]
        exact ⟨rfl, ⟨_, _, (HR.out.setBad false).setLeft hb2, fun xs h => by injection h⟩, grown_trans (grown_ext hE _) (grown_trans (setOne_grown _ R 1 _) (setOne_grown _ R 0 _))⟩)
      generalize ((ys.drop k).drop n).length = ly at *
      generalize str ((ys.drop k).take n) = sx at *
      clear hN c0 c1 f0 f1 hE hr hb2 hkn
      go_wp2
      go_ret
      exact HP.out
end Go.Proofs.YtdienbcjfljjnaaDoor

/- Walks: frag's reader: many texts. -/
open Go.RowKit Go.Shelf
namespace Go.Proofs.YtdienbcjfljjnaaDoor
open Go Go.Proofs Fm

theorem info_string : (Tryd.prog.info? 9).map (fun i => (i.zero, i.size, i.bytes)) = some (some (.string { data := #[] }), 1, 16) := by kernel_rfl
theorem elem_string : ElemOf Tryd.prog 105 9 (.string { data := #[] }) 1 16 := ⟨Tryd.underlying105, info_string, rfl, by decide⟩

set_option maxRecDepth 100000 in
set_option maxHeartbeats 4000000 in
theorem frmanyS_any (high : Int) (hh : 0 ≤ high) (hh2 : high ≤ 100) {w0 w : World} {R : Nat} {s : Option (List UInt8)} (h : RdS w0 w R s) :
    Calls Tryd.prog 121 #[.pointer (some ⟨R, 0, none⟩), .int .i64 high, .func (.func 120) #[.pointer (some ⟨R, 0, none⟩)] #[]] w fun e w' =>
      ∃ v, e = .returned v ∧ OwnS 9 w.heap.size w' v (manyS high textS s).1 ∧ RdS w0 w' R (manyS high textS s).2 ∧ w.grownBy w' (some R) := by
  have H := Lib.hid h
  have hR := h.lt
  obtain ⟨n, hn⟩ : ∃ n : Nat, n = (numS high s).1.toNat := ⟨_, rfl⟩
  have hnr := numS_range high hh s
  have hni : (numS high s).1 = (n : Int) := by omega
  have hn100 : n ≤ 100 := by omega
  have HNI := Lib.hid hni
  have HM : Hid (manyS high textS s = loopS textS n [] (numS high s).2) := Lib.hid (by unfold manyS; rw [← hn])
  clear h hn hni hnr
  go_enter Tryd.func121, Tryd.ntmps121
  go_wp2_with fail
  refine (frnum_any high hh (by omega) H.out).mono ?_
  rw [HNI.out]
  rintro e w1 ⟨rfl, hr1, hg1⟩
  have HR1 := Lib.hid hr1
  have HG1 := Lib.hid hg1
  clear hr1 hg1
  go_wp2_with fail
  go_loopw [7, 12] (fun o i wr => ∃ (j : Nat) (acc : List (List UInt8)) (sj : Option (List UInt8)), j ≤ n ∧ i = .int .i64 j ∧ Hid (manyS high textS s = loopS textS (n - j) acc sj) ∧ acc.length ≤ j ∧ Hid (OwnS 9 w.heap.size wr o acc) ∧ Hid (RdS w0 wr R sj) ∧ Hid (w.grownBy wr (some R))) (fun _ i _ => n - (intOf i).toNat)
  case atStart => exact ⟨0, [], _, by omega, rfl, HM, by simp, Lib.hid (OwnS.nil _ _ _), HR1, HG1⟩
  case round =>
    obtain ⟨j, acc, sj, hj, rfl, HL, hacc, HO, HRj, HG⟩ := hrel
    by_cases hlt : j < n
    · have hz := HG.out.size
      go_wp2_with fail
      refine (frtext_any HRj.out).mono ?_
      rintro e w2 ⟨rfl, hr2, hg2⟩
      have HR2 := Lib.hid hr2
      have HG2 := Lib.hid (grown_trans HG.out hg2)
      have HO2 : Hid (OwnS 9 w.heap.size w2 u7 acc) := Lib.hid (HO.out.kept hg2 (fun b hb e => by injection e with e; have := (HO.out.block b hb).1; omega))
      have hts := textS_len sj
      have hz2 := HG2.out.size
      obtain ⟨v2, ys2, hF2, -⟩ := hr2
      have c1 := hF2.c1
      have HL2 : Hid (manyS high textS s = loopS textS (n - (j + 1)) (if (textS sj).2.isNone then acc else acc ++ [(textS sj).1]) (textS sj).2) := Lib.hid (by
        rw [HL.out, show n - j = (n - (j + 1)) + 1 by omega]; rfl)
      clear hg2 hF2 HO HRj HG HL
      obtain ⟨T, hT⟩ : ∃ T, T = (textS sj).1 := ⟨_, rfl⟩
      obtain ⟨s2, hs2⟩ : ∃ s2, s2 = (textS sj).2 := ⟨_, rfl⟩
      rw [← hT, ← hs2] at HL2
      rw [← hs2] at HR2 c1
      rw [← hT] at hts ⊢
      clear hT hs2
      cases s2 with
      | none =>
        have HL3 : Hid (manyS high textS s = loopS textS (n - (j + 1)) acc none) := HL2
        have c1 : w2.cell? ⟨R, 1, none⟩ = some (.bool true) := c1
        go_wp2
        go_roundw
        case rel => exact ⟨j + 1, acc, none, by omega, by go_num, HL3, by omega, HO2, HR2, HG2⟩
        case measure => simp [intOf]; omega
      | some r2 =>
        have HL3 : Hid (manyS high textS s = loopS textS (n - (j + 1)) (acc ++ [T]) (some r2)) := HL2
        have c1 : w2.cell? ⟨R, 1, none⟩ = some (.bool false) := c1
        have hE3 : Ext w2 (w2.alloc (.cells #[.string (str T)] 9)) := (Ext.refl w2).alloc _
        have HOr : Hid ((w2.alloc (.cells #[.string (str T)] 9)).ownsRow w.heap.size 9 1 u7 acc.length (acc.map strV)) := Lib.hid (hE3.own HO2.out.1)
        have HNb : Hid ((w2.alloc (.cells #[.string (str T)] 9)).heap[w2.heap.size]? = some (.cells [.string (str T)].toArray 9 (0, 0))) := Lib.hid (heap_alloc_new w2 _)
        have HE3 := Lib.hid hE3
        have hz3 := hE3.size
        clear hE3
        go_wp2_with (at_builtin; refine wpList_appOne elem_string rfl _ _ rfl rfl HOr.out rfl HNb.out rfl (by simp [Value.oneCell']) (by omega) (by omega) (by omega) ?_)
        intro v4 w4 hown4 hg4 hat4
        have HO4 : Hid (OwnS 9 w.heap.size w4 v4 (acc ++ [T])) := Lib.hid (OwnS.snoc hown4 HO2.out.2 (by omega))
        have hne : ∀ b, u7.ownBlock = some b → w.heap.size ≤ b := fun b hb => (HO2.out.block b hb).1
        have HR4 : Hid (RdS w0 w4 R (some r2)) := Lib.hid ((HR2.out.then HE3.out).kept hg4 (fun b hb => by have := hne b hb; have := HR2.out.old; omega))
        have HG4 : Hid (w.grownBy w4 (some R)) := Lib.hid (grown_row (grown_trans HG2.out (grown_ext HE3.out _)) hg4 hne)
        clear hown4 hg4 hat4 hne
        go_wp2
        go_roundw
        case rel => exact ⟨j + 1, acc ++ [T], some r2, by omega, by go_num, HL3, by simp; omega, HO4, HR4, HG4⟩
        case measure => simp [intOf]; omega
    · have hjn : j = n := by omega
      have hX : manyS high textS s = (acc, sj) := by have := HL.out; rw [hjn, Nat.sub_self] at this; exact this
      have hR2 : ∃ vr, vr = u7 ∧ OwnS 9 w.heap.size wr vr (manyS high textS s).1 ∧ RdS w0 wr R (manyS high textS s).2 ∧ w.grownBy wr (some R) := ⟨u7, rfl, by rw [hX]; exact HO.out, by rw [hX]; exact HRj.out, HG.out⟩
      obtain ⟨vr, rfl, hq1, hq2, hq3⟩ := hR2
      have Q1 := Lib.hid hq1
      have Q2 := Lib.hid hq2
      have Q3 := Lib.hid hq3
      clear hq1 hq2 hq3 hX HO HRj HG HL hjn
      go_wp2
      go_ret
      exact ⟨_, rfl, Q1.out, Q2.out, Q3.out⟩
end Go.Proofs.YtdienbcjfljjnaaDoor

/- Walks: frag's reader: an item. -/
open Go.RowKit Go.Shelf
namespace Go.Proofs.YtdienbcjfljjnaaDoor
open Go Go.Proofs Fm

theorem _root_.Fm.OwnS.far {e : TypeId} {base : Nat} {w : World} {v : Value} {l : List (List UInt8)} (h : OwnS e base w v l) {B : Nat} (hB : B < base) (j : Nat) (u : Value) : OwnS e base (w.setCell ⟨B, j, none⟩ u) v l :=
  h.kept (setOne_grown w B j u) (fun b hb e => by injection e with e; have := (h.block b hb).1; omega)
theorem _root_.Fm.OwnS.far6 {e : TypeId} {base : Nat} {w : World} {v : Value} {l : List (List UInt8)} (h : OwnS e base w v l) {B : Nat} (hB : B < base) {c0 c1 c2 c3 c4 c5 : Value} : OwnS e base (set6W w B c0 c1 c2 c3 c4 c5) v l :=
  (((((h.far hB 0 c0).far hB 1 c1).far hB 2 c2).far hB 3 c3).far hB 4 c4).far hB 5 c5
/-- What item comes to. -/
def ItemPost (w0 w : World) (R : Nat) (s : Option (List UInt8)) (e : Ending) (w' : World) : Prop :=
  ∃ x : It, x = (itemS s).1 ∧ ∃ (a : Option Addr) (m c : Nat), e = .returned (.agg #[.string (str x.name), .int .u8 (x.kind.toNat : Int), .slice a m c, .string (str x.over), .int .i64 x.width, .int .i64 x.quota]) ∧
    OwnS 9 w.heap.size w' (.slice a m c) x.after ∧ (x.name.length ≤ 9223372036854775807 ∧ x.over.length ≤ 9223372036854775807 ∧ isI64 x.width ∧ isI64 x.quota) ∧ RdS w0 w' R (itemS s).2 ∧ w.grownBy w' (some R)

set_option maxRecDepth 100000 in
set_option maxHeartbeats 16000000 in
theorem fritem_any {w0 w : World} {R : Nat} {s : Option (List UInt8)} (h : RdS w0 w R s) :
    Calls Tryd.prog 105 #[.pointer (some ⟨R, 0, none⟩)] w (ItemPost w0 w R s) := by
  have H := Lib.hid h
  have hRw := h.lt
  clear h
  obtain ⟨ta, hta0⟩ : ∃ ta, ta = (textS s).1 := ⟨_, rfl⟩
  obtain ⟨sa, hsa⟩ : ∃ sa, sa = (textS s).2 := ⟨_, rfl⟩
  obtain ⟨tb, htb⟩ : ∃ tb, tb = (numS 1 sa).1 := ⟨_, rfl⟩
  obtain ⟨sb, hsb⟩ : ∃ sb, sb = (numS 1 sa).2 := ⟨_, rfl⟩
  obtain ⟨la, hla⟩ : ∃ la, la = (manyS 20 textS sb).1 := ⟨_, rfl⟩
  obtain ⟨sc, hsc⟩ : ∃ sc, sc = (manyS 20 textS sb).2 := ⟨_, rfl⟩
  obtain ⟨tq, htq0⟩ : ∃ tq, tq = (numS 400 sc).1 := ⟨_, rfl⟩
  obtain ⟨sd, hsd⟩ : ∃ sd, sd = (numS 400 sc).2 := ⟨_, rfl⟩
  have hta : ta.length ≤ 9223372036854775807 := by have := textS_len s; rw [← hta0] at this; omega
  have htbr := numS_range 1 (by omega) sa
  have htqr := numS_range 400 (by omega) sc
  rw [← htb] at htbr
  rw [← htq0] at htqr
  have htq : isI64 tq := by unfold isI64; omega
  have HTA : Hid (textS s = (ta, sa)) := Lib.hid (by rw [hta0, hsa])
  have HNb : Hid (numS 1 sa = (tb, sb)) := Lib.hid (by rw [htb, hsb])
  have HMa : Hid ((la, sc) = manyS 20 textS sb) := Lib.hid (by rw [hla, hsc])
  have HQd : Hid ((tq, sd) = numS 400 sc) := Lib.hid (by rw [htq0, hsd])
  have HIT : Hid (itemS s = (let e := if tb = 1 then textS sd else ([], sd); let f := if tb = 1 then numS 40 e.2 else (0, e.2); let x : It := ⟨ta, UInt8.ofNat tb.toNat, la, e.1, f.1, tq⟩; (x, if f.2.isNone || !itB x then none else f.2))) := Lib.hid (by
    unfold itemS; rw [HTA.out]; simp only; rw [HNb.out]; simp only; rw [← HMa.out]; simp only; rw [← HQd.out])
  clear hta0 hsa htb hsb hla hsc htq0 hsd htqr
  have hb0 : BoxL (w.alloc (.cells #[.string { data := #[] }, .int .u8 0, .slice none 0 0, .string { data := #[] }, .int .i64 0, .int .i64 0] 107)) w.heap.size [.string { data := #[] }, .int .u8 0, .slice none 0 0, .string { data := #[] }, .int .i64 0, .int .i64 0] := BoxL.new w _ _
  have hE0 := (Ext.refl w).alloc (.cells #[.string { data := #[] }, .int .u8 0, .slice none 0 0, .string { data := #[] }, .int .i64 0, .int .i64 0] 107)
  go_enter Tryd.func105, Tryd.ntmps105
  go_wp2_with fail
  have hz1 : (w.alloc (.cells #[.string { data := #[] }, .int .u8 0, .slice none 0 0, .string { data := #[] }, .int .i64 0, .int .i64 0] 107)).heap.size = w.heap.size + 1 := by simp
  generalize w.alloc (.cells #[.string { data := #[] }, .int .u8 0, .slice none 0 0, .string { data := #[] }, .int .i64 0, .int .i64 0] 107) = W1 at *
  refine (frtext_any (H.out.then hE0)).mono ?_
  rw [HTA.out]
  rintro e w2 ⟨rfl, hr2, hg2'⟩
  have hP2 := hb0.kept hg2' (fun e => by injection e with e; omega)
  have hg2 := grown_trans (grown_ext hE0 (some R)) hg2'
  have hz2 := hg2'.size
  clear hg2' hb0 hE0 H
  go_wp2_with fail
  refine (frnum_any 1 (by omega) (by omega) hr2).mono ?_
  rw [HNb.out]
  rcases (by omega : tb = 0 ∨ tb = 1) with rfl | rfl
  · rintro e w3 ⟨rfl, hr3, hg3⟩
    have HP3 := Lib.hid (hP2.kept hg3 (fun e => by injection e with e; omega))
    have HG3 := Lib.hid (grown_trans hg2 hg3)
    have hz3 := hg3.size
    have HR3 := Lib.hid hr3
    clear hr3 hg3 hP2 hg2 hr2
    have hst4 : ItSt w0 w (w3.alloc (.cells #[.string (str ta), .int .u8 0, .slice none 0 0, .string { data := #[] }, .int .i64 0, .int .i64 0] 107)) R w.heap.size w3.heap.size sb [.string { data := #[] }, .int .u8 0, .slice none 0 0, .string { data := #[] }, .int .i64 0, .int .i64 0] [.string (str ta), .int .u8 0, .slice none 0 0, .string { data := #[] }, .int .i64 0, .int .i64 0] :=
      ⟨HR3.out.then ((Ext.refl w3).alloc _), grown_trans HG3.out (grown_ext ((Ext.refl w3).alloc _) _), HP3.out.ext ((Ext.refl w3).alloc _), BoxL.new w3 _ _, hRw, by omega, by omega⟩
    have HST := Lib.hid hst4
    have hz4 : (w3.alloc (.cells #[.string (str ta), .int .u8 0, .slice none 0 0, .string { data := #[] }, .int .i64 0, .int .i64 0] 107)).heap.size = w3.heap.size + 1 := by simp
    have HZ4 := Lib.hid hz4
    clear hst4 hz4
    have hPV : w.heap.size < w3.heap.size := by omega
    go_wp2_with fail
    obtain ⟨V, hV⟩ : ∃ V, V = w3.heap.size := ⟨_, rfl⟩
    have HVe := Lib.hid hV
    clear hV
    refine (frmanyS_any 20 (by omega) (by omega) HST.out.rd).mono ?_
    rintro e w5 ⟨v5, rfl, hO5, hr5, hg5⟩
    rw [HZ4.out] at hO5
    have hst5 := HST.out.step hr5 hg5
    rw [← HMa.out] at hO5 hst5
    obtain ⟨aa, cc, rfl, -⟩ := hO5.row.slice
    generalize hm : la.length = m at *
    clear hm HST hr5 hg5 HP3 HG3 HR3
    have HO5 := Lib.hid hO5
    have HS5 := Lib.hid hst5
    obtain ⟨p0, p1, p2, p3, p4, p5⟩ := hst5.bv.six
    have g2 := hst5.bv.free 2
    have h6 : Hid (ItSt w0 w (w5.setCell ⟨w3.heap.size, 2, none⟩ (.slice aa m cc)) R w.heap.size w3.heap.size sc [.string { data := #[] }, .int .u8 0, .slice none 0 0, .string { data := #[] }, .int .i64 0, .int .i64 0] [.string (str ta), .int .u8 0, .slice aa m cc, .string { data := #[] }, .int .i64 0, .int .i64 0]) := Lib.hid (HS5.out.set 2 (by simp) _)
    have HO6 : Hid (OwnS 9 (w3.heap.size + 1) (w5.setCell ⟨w3.heap.size, 2, none⟩ (.slice aa m cc)) (.slice aa m cc) la) := Lib.hid (HO5.out.far (by omega) 2 _)
    clear hst5 hO5
    go_wp2_with fail
    clear p0 p1 p2 p3 p4 p5 g2 HS5 HO5
    generalize w5.setCell ⟨w3.heap.size, 2, none⟩ (.slice aa m cc) = W6 at *
    refine (frnum_any 400 (by omega) (by omega) h6.out.rd).mono ?_
    rintro e w7 ⟨rfl, hr7, hg7⟩
    rw [← HQd.out] at hr7 ⊢
    have hst7 := h6.out.step hr7 hg7
    have HO7 := Lib.hid (HO6.out.kept hg7 (fun b hb e => by injection e with e; have := (HO6.out.block b hb).1; omega))
    have HS7 := Lib.hid hst7
    obtain ⟨p0, p1, p2, p3, p4, p5⟩ := hst7.bv.six
    have g5 := hst7.bv.free 5
    have h8 : Hid (ItSt w0 w (w7.setCell ⟨w3.heap.size, 5, none⟩ (.int .i64 tq)) R w.heap.size w3.heap.size sd [.string { data := #[] }, .int .u8 0, .slice none 0 0, .string { data := #[] }, .int .i64 0, .int .i64 0] [.string (str ta), .int .u8 0, .slice aa m cc, .string { data := #[] }, .int .i64 0, .int .i64 tq]) := Lib.hid (HS7.out.set 5 (by simp) _)
    have HO8 : Hid (OwnS 9 (w3.heap.size + 1) (w7.setCell ⟨w3.heap.size, 5, none⟩ (.int .i64 tq)) (.slice aa m cc) la) := Lib.hid (HO7.out.far (by omega) 5 _)
    clear hst7 hr7 hg7 h6 HO6
    go_upto_region 4 with (fail)
    clear p0 p1 p2 p3 p4 p5 g5 HS7 HO7
    generalize w7.setCell ⟨w3.heap.size, 5, none⟩ (.int .i64 tq) = W8 at *
    obtain ⟨p0, p1, p2, p3, p4, p5⟩ := h8.out.bv.six
    obtain rfl : V = w3.heap.size := HVe.out
    have HX : Hid (itemS s = (⟨ta, 0, la, [], 0, tq⟩, if sd.isNone || !itB ⟨ta, 0, la, [], 0, tq⟩ then none else sd)) := Lib.hid HIT.out
    have hov : ([] : List UInt8).length ≤ 9223372036854775807 := by simp
    have htw : isI64 0 := by unfold isI64; omega
    have HF := h8
    have HO := HO8
    clear HIT HVe h8 HO8
    obtain ⟨wF, hwF⟩ : ∃ wF, wF = W8 := ⟨_, rfl⟩
    subst hwF
    obtain ⟨sF, hsF⟩ : ∃ sF, sF = sd := ⟨_, rfl⟩
    rw [← hsF] at HX HF HQd
    clear hsF p0 p1 p2 p3 p4 p5
    obtain ⟨xx, hxx⟩ : ∃ xx : It, xx = ⟨ta, 0, la, [], 0, tq⟩ := ⟨_, rfl⟩
    rw [← hxx] at HX
    cases sF with
    | none =>
      have HX2 : Hid (itemS s = (xx, none)) := Lib.hid (by rw [HX.out]; rfl)
      have c1 : wF.cell? ⟨R, 1, none⟩ = some (.bool true) := HF.out.rd.mark
      have f1 := HF.out.rd.free
      obtain ⟨p0, p1, p2, p3, p4, p5⟩ := HF.out.bv.six
      obtain ⟨z0, z1, z2, z3, z4, z5⟩ := HF.out.pb.six
      have g0 := HF.out.pb.free 0
      have g1 := HF.out.pb.free 1
      have g2 := HF.out.pb.free 2
      have g3 := HF.out.pb.free 3
      have g4 := HF.out.pb.free 4
      have g5 := HF.out.pb.free 5
      have HXX := Lib.hid hxx
      clear hxx
      have HFb := Lib.hid (HF.out.bad true none rfl (fun xs h => by cases h))
      have HOb : Hid (OwnS 9 (w3.heap.size + 1) (wF.setCell ⟨R, 1, none⟩ (.bool true)) (.slice aa m cc) la) := Lib.hid (HO.out.far (by omega) 1 _)
      go_wp2
      change bodyPost _ _ _ _ _ (set6W (wF.setCell ⟨R, 1, none⟩ (.bool true)) w.heap.size (.string (str ta)) (.int .u8 0) (.slice aa m cc) (.string { data := #[] }) (.int .i64 0) (.int .i64 tq))
      have hD := HFb.out.done (.string (str ta)) (.int .u8 0) (.slice aa m cc) (.string { data := #[] }) (.int .i64 0) (.int .i64 tq)
      have hO9 : OwnS 9 (w3.heap.size + 1) (set6W (wF.setCell ⟨R, 1, none⟩ (.bool true)) w.heap.size (.string (str ta)) (.int .u8 0) (.slice aa m cc) (.string { data := #[] }) (.int .i64 0) (.int .i64 tq)) (.slice aa m cc) la := OwnS.far6 HOb.out (by omega)
      generalize set6W (wF.setCell ⟨R, 1, none⟩ (.bool true)) w.heap.size (.string (str ta)) (.int .u8 0) (.slice aa m cc) (.string { data := #[] }) (.int .i64 0) (.int .i64 tq) = W9 at *
      obtain ⟨y0, y1, y2, y3, y4, y5⟩ := hD.pb.six
      refine bodyPost_ret (v := .agg #[.string (str ta), .int .u8 0, .slice aa m cc, .string { data := #[] }, .int .i64 0, .int .i64 tq]) (by simp [results, Tryd.results105, go_sem, y0, y1, y2, y3, y4, y5]) rfl ?_
      exact ⟨xx, by rw [HX2.out], aa, m, cc, by rw [HXX.out]; rfl, by rw [HXX.out]; exact hO9.mono (by omega), by rw [HXX.out]; exact ⟨hta, hov, htw, htq⟩, by rw [HX2.out]; exact hD.rd, hD.g⟩
    | some rF =>
      have HIt : Hid (ItV wF xx (.agg #[.string (str ta), .int .u8 0, .slice aa m cc, .string { data := #[] }, .int .i64 0, .int .i64 tq])) := Lib.hid ⟨aa, m, cc, by rw [hxx]; rfl, by rw [hxx]; exact HO.out.row, by rw [hxx]; exact hta, by rw [hxx]; exact hov, by rw [hxx]; exact htw, by rw [hxx]; exact htq⟩
      have c1 : wF.cell? ⟨R, 1, none⟩ = some (.bool false) := HF.out.rd.mark
      have f1 := HF.out.rd.free
      obtain ⟨p0, p1, p2, p3, p4, p5⟩ := HF.out.bv.six
      have HXX := Lib.hid hxx
      clear hxx
      go_wp2_with fail
      refine (ffits_any xx wF _ HIt.out).mono ?_
      rintro e wG ⟨rfl, hEG⟩
      have HFG := Lib.hid (HF.out.then hEG)
      have HOG := Lib.hid (HO.out.ext hEG)
      clear hEG c1 f1 p0 p1 p2 p3 p4 p5 HF HO
      cases hit : itB xx with
      | true =>
        have HX2 : Hid (itemS s = (xx, some rF)) := Lib.hid (by rw [HX.out, hit]; rfl)
        clear hit
        have c1 : wG.cell? ⟨R, 1, none⟩ = some (.bool false) := HFG.out.rd.mark
        have f1 := HFG.out.rd.free
        obtain ⟨p0, p1, p2, p3, p4, p5⟩ := HFG.out.bv.six
        obtain ⟨z0, z1, z2, z3, z4, z5⟩ := HFG.out.pb.six
        have g0 := HFG.out.pb.free 0
        have g1 := HFG.out.pb.free 1
        have g2 := HFG.out.pb.free 2
        have g3 := HFG.out.pb.free 3
        have g4 := HFG.out.pb.free 4
        have g5 := HFG.out.pb.free 5
        have HFb := Lib.hid (HFG.out.bad false (some rF) rfl (fun xs h => h))
        have HOb : Hid (OwnS 9 (w3.heap.size + 1) (wG.setCell ⟨R, 1, none⟩ (.bool false)) (.slice aa m cc) la) := Lib.hid (HOG.out.far (by omega) 1 _)
        go_wp2
        change bodyPost _ _ _ _ _ (set6W (wG.setCell ⟨R, 1, none⟩ (.bool false)) w.heap.size (.string (str ta)) (.int .u8 0) (.slice aa m cc) (.string { data := #[] }) (.int .i64 0) (.int .i64 tq))
        have hD := HFb.out.done (.string (str ta)) (.int .u8 0) (.slice aa m cc) (.string { data := #[] }) (.int .i64 0) (.int .i64 tq)
        have hO9 : OwnS 9 (w3.heap.size + 1) (set6W (wG.setCell ⟨R, 1, none⟩ (.bool false)) w.heap.size (.string (str ta)) (.int .u8 0) (.slice aa m cc) (.string { data := #[] }) (.int .i64 0) (.int .i64 tq)) (.slice aa m cc) la := OwnS.far6 HOb.out (by omega)
        generalize set6W (wG.setCell ⟨R, 1, none⟩ (.bool false)) w.heap.size (.string (str ta)) (.int .u8 0) (.slice aa m cc) (.string { data := #[] }) (.int .i64 0) (.int .i64 tq) = W9 at *
        obtain ⟨y0, y1, y2, y3, y4, y5⟩ := hD.pb.six
        refine bodyPost_ret (v := .agg #[.string (str ta), .int .u8 0, .slice aa m cc, .string { data := #[] }, .int .i64 0, .int .i64 tq]) (by simp [results, Tryd.results105, go_sem, y0, y1, y2, y3, y4, y5]) rfl ?_
        exact ⟨xx, by rw [HX2.out], aa, m, cc, by rw [HXX.out]; rfl, by rw [HXX.out]; exact hO9.mono (by omega), by rw [HXX.out]; exact ⟨hta, hov, htw, htq⟩, by rw [HX2.out]; exact hD.rd, hD.g⟩
      | false =>
        have HX2 : Hid (itemS s = (xx, none)) := Lib.hid (by rw [HX.out, hit]; rfl)
        clear hit
        have c1 : wG.cell? ⟨R, 1, none⟩ = some (.bool false) := HFG.out.rd.mark
        have f1 := HFG.out.rd.free
        obtain ⟨p0, p1, p2, p3, p4, p5⟩ := HFG.out.bv.six
        obtain ⟨z0, z1, z2, z3, z4, z5⟩ := HFG.out.pb.six
        have g0 := HFG.out.pb.free 0
        have g1 := HFG.out.pb.free 1
        have g2 := HFG.out.pb.free 2
        have g3 := HFG.out.pb.free 3
        have g4 := HFG.out.pb.free 4
        have g5 := HFG.out.pb.free 5
        have HFb := Lib.hid (HFG.out.bad true none rfl (fun xs h => by cases h))
        have HOb : Hid (OwnS 9 (w3.heap.size + 1) (wG.setCell ⟨R, 1, none⟩ (.bool true)) (.slice aa m cc) la) := Lib.hid (HOG.out.far (by omega) 1 _)
        go_wp2
        change bodyPost _ _ _ _ _ (set6W (wG.setCell ⟨R, 1, none⟩ (.bool true)) w.heap.size (.string (str ta)) (.int .u8 0) (.slice aa m cc) (.string { data := #[] }) (.int .i64 0) (.int .i64 tq))
        have hD := HFb.out.done (.string (str ta)) (.int .u8 0) (.slice aa m cc) (.string { data := #[] }) (.int .i64 0) (.int .i64 tq)
        have hO9 : OwnS 9 (w3.heap.size + 1) (set6W (wG.setCell ⟨R, 1, none⟩ (.bool true)) w.heap.size (.string (str ta)) (.int .u8 0) (.slice aa m cc) (.string { data := #[] }) (.int .i64 0) (.int .i64 tq)) (.slice aa m cc) la := OwnS.far6 HOb.out (by omega)
        generalize set6W (wG.setCell ⟨R, 1, none⟩ (.bool true)) w.heap.size (.string (str ta)) (.int .u8 0) (.slice aa m cc) (.string { data := #[] }) (.int .i64 0) (.int .i64 tq) = W9 at *
        obtain ⟨y0, y1, y2, y3, y4, y5⟩ := hD.pb.six
        refine bodyPost_ret (v := .agg #[.string (str ta), .int .u8 0, .slice aa m cc, .string { data := #[] }, .int .i64 0, .int .i64 tq]) (by simp [results, Tryd.results105, go_sem, y0, y1, y2, y3, y4, y5]) rfl ?_
        exact ⟨xx, by rw [HX2.out], aa, m, cc, by rw [HXX.out]; rfl, by rw [HXX.out]; exact hO9.mono (by omega), by rw [HXX.out]; exact ⟨hta, hov, htw, htq⟩, by rw [HX2.out]; exact hD.rd, hD.g⟩
  · obtain ⟨te, hte⟩ : ∃ te, te = (textS sd).1 := ⟨_, rfl⟩
    obtain ⟨se, hse⟩ : ∃ se, se = (textS sd).2 := ⟨_, rfl⟩
    obtain ⟨tw, htw0⟩ : ∃ tw, tw = (numS 40 se).1 := ⟨_, rfl⟩
    obtain ⟨sF, hsF⟩ : ∃ sF, sF = (numS 40 se).2 := ⟨_, rfl⟩
    have hov : te.length ≤ 9223372036854775807 := by have := textS_len sd; rw [← hte] at this; omega
    have htwr := numS_range 40 (by omega) se
    rw [← htw0] at htwr
    have htw : isI64 tw := by unfold isI64; omega
    have HTE : Hid (textS sd = (te, se)) := Lib.hid (by rw [hte, hse])
    have HTW : Hid (numS 40 se = (tw, sF)) := Lib.hid (by rw [htw0, hsF])
    have HX : Hid (itemS s = (⟨ta, 1, la, te, tw, tq⟩, if sF.isNone || !itB ⟨ta, 1, la, te, tw, tq⟩ then none else sF)) := Lib.hid (by
      have h := HIT.out
      simp only [if_true] at h
      rw [HTE.out] at h
      simp only at h
      rw [HTW.out] at h
      exact h)
    clear hte hse htw0 hsF htwr HIT
    rintro e w3 ⟨rfl, hr3, hg3⟩
    have HP3 := Lib.hid (hP2.kept hg3 (fun e => by injection e with e; omega))
    have HG3 := Lib.hid (grown_trans hg2 hg3)
    have hz3 := hg3.size
    have HR3 := Lib.hid hr3
    clear hr3 hg3 hP2 hg2 hr2
    have hst4 : ItSt w0 w (w3.alloc (.cells #[.string (str ta), .int .u8 1, .slice none 0 0, .string { data := #[] }, .int .i64 0, .int .i64 0] 107)) R w.heap.size w3.heap.size sb [.string { data := #[] }, .int .u8 0, .slice none 0 0, .string { data := #[] }, .int .i64 0, .int .i64 0] [.string (str ta), .int .u8 1, .slice none 0 0, .string { data := #[] }, .int .i64 0, .int .i64 0] :=
      ⟨HR3.out.then ((Ext.refl w3).alloc _), grown_trans HG3.out (grown_ext ((Ext.refl w3).alloc _) _), HP3.out.ext ((Ext.refl w3).alloc _), BoxL.new w3 _ _, hRw, by omega, by omega⟩
    have HST := Lib.hid hst4
    have hz4 : (w3.alloc (.cells #[.string (str ta), .int .u8 1, .slice none 0 0, .string { data := #[] }, .int .i64 0, .int .i64 0] 107)).heap.size = w3.heap.size + 1 := by simp
    have HZ4 := Lib.hid hz4
    clear hst4 hz4
    have hPV : w.heap.size < w3.heap.size := by omega
    go_wp2_with fail
    obtain ⟨V, hV⟩ : ∃ V, V = w3.heap.size := ⟨_, rfl⟩
    have HVe := Lib.hid hV
    clear hV
    refine (frmanyS_any 20 (by omega) (by omega) HST.out.rd).mono ?_
    rintro e w5 ⟨v5, rfl, hO5, hr5, hg5⟩
    rw [HZ4.out] at hO5
    have hst5 := HST.out.step hr5 hg5
    rw [← HMa.out] at hO5 hst5
    obtain ⟨aa, cc, rfl, -⟩ := hO5.row.slice
    generalize hm : la.length = m at *
    clear hm HST hr5 hg5 HP3 HG3 HR3
    have HO5 := Lib.hid hO5
    have HS5 := Lib.hid hst5
    obtain ⟨p0, p1, p2, p3, p4, p5⟩ := hst5.bv.six
    have g2 := hst5.bv.free 2
    have h6 : Hid (ItSt w0 w (w5.setCell ⟨w3.heap.size, 2, none⟩ (.slice aa m cc)) R w.heap.size w3.heap.size sc [.string { data := #[] }, .int .u8 0, .slice none 0 0, .string { data := #[] }, .int .i64 0, .int .i64 0] [.string (str ta), .int .u8 1, .slice aa m cc, .string { data := #[] }, .int .i64 0, .int .i64 0]) := Lib.hid (HS5.out.set 2 (by simp) _)
    have HO6 : Hid (OwnS 9 (w3.heap.size + 1) (w5.setCell ⟨w3.heap.size, 2, none⟩ (.slice aa m cc)) (.slice aa m cc) la) := Lib.hid (HO5.out.far (by omega) 2 _)
    clear hst5 hO5
    go_wp2_with fail
    clear p0 p1 p2 p3 p4 p5 g2 HS5 HO5
    generalize w5.setCell ⟨w3.heap.size, 2, none⟩ (.slice aa m cc) = W6 at *
    refine (frnum_any 400 (by omega) (by omega) h6.out.rd).mono ?_
    rintro e w7 ⟨rfl, hr7, hg7⟩
    rw [← HQd.out] at hr7 ⊢
    have hst7 := h6.out.step hr7 hg7
    have HO7 := Lib.hid (HO6.out.kept hg7 (fun b hb e => by injection e with e; have := (HO6.out.block b hb).1; omega))
    have HS7 := Lib.hid hst7
    obtain ⟨p0, p1, p2, p3, p4, p5⟩ := hst7.bv.six
    have g5 := hst7.bv.free 5
    have h8 : Hid (ItSt w0 w (w7.setCell ⟨w3.heap.size, 5, none⟩ (.int .i64 tq)) R w.heap.size w3.heap.size sd [.string { data := #[] }, .int .u8 0, .slice none 0 0, .string { data := #[] }, .int .i64 0, .int .i64 0] [.string (str ta), .int .u8 1, .slice aa m cc, .string { data := #[] }, .int .i64 0, .int .i64 tq]) := Lib.hid (HS7.out.set 5 (by simp) _)
    have HO8 : Hid (OwnS 9 (w3.heap.size + 1) (w7.setCell ⟨w3.heap.size, 5, none⟩ (.int .i64 tq)) (.slice aa m cc) la) := Lib.hid (HO7.out.far (by omega) 5 _)
    clear hst7 hr7 hg7 h6 HO6
    go_upto_region 4 with (fail)
    clear p0 p1 p2 p3 p4 p5 g5 HS7 HO7
    generalize w7.setCell ⟨w3.heap.size, 5, none⟩ (.int .i64 tq) = W8 at *
    obtain ⟨p0, p1, p2, p3, p4, p5⟩ := h8.out.bv.six
    obtain rfl : V = w3.heap.size := HVe.out
    clear HVe
    go_wp2_with fail
    clear p0 p1 p2 p3 p4 p5
    refine (frtext_any h8.out.rd).mono ?_
    rw [HTE.out]
    rintro e w9 ⟨rfl, hr9, hg9⟩
    have hst9 := h8.out.step hr9 hg9
    have HO9 := Lib.hid (HO8.out.kept hg9 (fun b hb e => by injection e with e; have := (HO8.out.block b hb).1; omega))
    have HS9 := Lib.hid hst9
    obtain ⟨p0, p1, p2, p3, p4, p5⟩ := hst9.bv.six
    have g3 := hst9.bv.free 3
    have h10 : Hid (ItSt w0 w (w9.setCell ⟨w3.heap.size, 3, none⟩ (.string (str te))) R w.heap.size w3.heap.size se [.string { data := #[] }, .int .u8 0, .slice none 0 0, .string { data := #[] }, .int .i64 0, .int .i64 0] [.string (str ta), .int .u8 1, .slice aa m cc, .string (str te), .int .i64 0, .int .i64 tq]) := Lib.hid (HS9.out.set 3 (by simp) _)
    have HO10 : Hid (OwnS 9 (w3.heap.size + 1) (w9.setCell ⟨w3.heap.size, 3, none⟩ (.string (str te))) (.slice aa m cc) la) := Lib.hid (HO9.out.far (by omega) 3 _)
    clear hst9 hr9 hg9 h8 HO8
    go_wp2_with fail
    clear p0 p1 p2 p3 p4 p5 g3 HS9 HO9
    generalize w9.setCell ⟨w3.heap.size, 3, none⟩ (.string (str te)) = W10 at *
    refine (frnum_any 40 (by omega) (by omega) h10.out.rd).mono ?_
    rw [HTW.out]
    rintro e w11 ⟨rfl, hr11, hg11⟩
    have hst11 := h10.out.step hr11 hg11
    have HO11 := Lib.hid (HO10.out.kept hg11 (fun b hb e => by injection e with e; have := (HO10.out.block b hb).1; omega))
    have HS11 := Lib.hid hst11
    obtain ⟨p0, p1, p2, p3, p4, p5⟩ := hst11.bv.six
    have g4 := hst11.bv.free 4
    have h12 : Hid (ItSt w0 w (w11.setCell ⟨w3.heap.size, 4, none⟩ (.int .i64 tw)) R w.heap.size w3.heap.size sF [.string { data := #[] }, .int .u8 0, .slice none 0 0, .string { data := #[] }, .int .i64 0, .int .i64 0] [.string (str ta), .int .u8 1, .slice aa m cc, .string (str te), .int .i64 tw, .int .i64 tq]) := Lib.hid (HS11.out.set 4 (by simp) _)
    have HO12 : Hid (OwnS 9 (w3.heap.size + 1) (w11.setCell ⟨w3.heap.size, 4, none⟩ (.int .i64 tw)) (.slice aa m cc) la) := Lib.hid (HO11.out.far (by omega) 4 _)
    clear hst11 hr11 hg11 h10 HO10
    go_upto_region 7 with (fail)
    clear p0 p1 p2 p3 p4 p5 g4 HS11 HO11
    generalize w11.setCell ⟨w3.heap.size, 4, none⟩ (.int .i64 tw) = wF at *
    have HF := h12
    have HO := HO12
    clear h12 HO12
    obtain ⟨xx, hxx⟩ : ∃ xx : It, xx = ⟨ta, 1, la, te, tw, tq⟩ := ⟨_, rfl⟩
    rw [← hxx] at HX
    cases sF with
    | none =>
      have HX2 : Hid (itemS s = (xx, none)) := Lib.hid (by rw [HX.out]; rfl)
      have c1 : wF.cell? ⟨R, 1, none⟩ = some (.bool true) := HF.out.rd.mark
      have f1 := HF.out.rd.free
      obtain ⟨p0, p1, p2, p3, p4, p5⟩ := HF.out.bv.six
      obtain ⟨z0, z1, z2, z3, z4, z5⟩ := HF.out.pb.six
      have g0 := HF.out.pb.free 0
      have g1 := HF.out.pb.free 1
      have g2 := HF.out.pb.free 2
      have g3 := HF.out.pb.free 3
      have g4 := HF.out.pb.free 4
      have g5 := HF.out.pb.free 5
      have HXX := Lib.hid hxx
      clear hxx
      have HFb := Lib.hid (HF.out.bad true none rfl (fun xs h => by cases h))
      have HOb : Hid (OwnS 9 (w3.heap.size + 1) (wF.setCell ⟨R, 1, none⟩ (.bool true)) (.slice aa m cc) la) := Lib.hid (HO.out.far (by omega) 1 _)
      go_wp2
      change bodyPost _ _ _ _ _ (set6W (wF.setCell ⟨R, 1, none⟩ (.bool true)) w.heap.size (.string (str ta)) (.int .u8 1) (.slice aa m cc) (.string (str te)) (.int .i64 tw) (.int .i64 tq))
      have hD := HFb.out.done (.string (str ta)) (.int .u8 1) (.slice aa m cc) (.string (str te)) (.int .i64 tw) (.int .i64 tq)
      have hO9 : OwnS 9 (w3.heap.size + 1) (set6W (wF.setCell ⟨R, 1, none⟩ (.bool true)) w.heap.size (.string (str ta)) (.int .u8 1) (.slice aa m cc) (.string (str te)) (.int .i64 tw) (.int .i64 tq)) (.slice aa m cc) la := OwnS.far6 HOb.out (by omega)
      generalize set6W (wF.setCell ⟨R, 1, none⟩ (.bool true)) w.heap.size (.string (str ta)) (.int .u8 1) (.slice aa m cc) (.string (str te)) (.int .i64 tw) (.int .i64 tq) = W9 at *
      obtain ⟨y0, y1, y2, y3, y4, y5⟩ := hD.pb.six
      refine bodyPost_ret (v := .agg #[.string (str ta), .int .u8 1, .slice aa m cc, .string (str te), .int .i64 tw, .int .i64 tq]) (by simp [results, Tryd.results105, go_sem, y0, y1, y2, y3, y4, y5]) rfl ?_
      exact ⟨xx, by rw [HX2.out], aa, m, cc, by rw [HXX.out]; rfl, by rw [HXX.out]; exact hO9.mono (by omega), by rw [HXX.out]; exact ⟨hta, hov, htw, htq⟩, by rw [HX2.out]; exact hD.rd, hD.g⟩
    | some rF =>
      have HIt : Hid (ItV wF xx (.agg #[.string (str ta), .int .u8 1, .slice aa m cc, .string (str te), .int .i64 tw, .int .i64 tq])) := Lib.hid ⟨aa, m, cc, by rw [hxx]; rfl, by rw [hxx]; exact HO.out.row, by rw [hxx]; exact hta, by rw [hxx]; exact hov, by rw [hxx]; exact htw, by rw [hxx]; exact htq⟩
      have c1 : wF.cell? ⟨R, 1, none⟩ = some (.bool false) := HF.out.rd.mark
      have f1 := HF.out.rd.free
      obtain ⟨p0, p1, p2, p3, p4, p5⟩ := HF.out.bv.six
      have HXX := Lib.hid hxx
      clear hxx
      go_wp2_with fail
      refine (ffits_any xx wF _ HIt.out).mono ?_
      rintro e wG ⟨rfl, hEG⟩
      have HFG := Lib.hid (HF.out.then hEG)
      have HOG := Lib.hid (HO.out.ext hEG)
      clear hEG c1 f1 p0 p1 p2 p3 p4 p5 HF HO
      cases hit : itB xx with
      | true =>
        have HX2 : Hid (itemS s = (xx, some rF)) := Lib.hid (by rw [HX.out, hit]; rfl)
        clear hit
        have c1 : wG.cell? ⟨R, 1, none⟩ = some (.bool false) := HFG.out.rd.mark
        have f1 := HFG.out.rd.free
        obtain ⟨p0, p1, p2, p3, p4, p5⟩ := HFG.out.bv.six
        obtain ⟨z0, z1, z2, z3, z4, z5⟩ := HFG.out.pb.six
        have g0 := HFG.out.pb.free 0
        have g1 := HFG.out.pb.free 1
        have g2 := HFG.out.pb.free 2
        have g3 := HFG.out.pb.free 3
        have g4 := HFG.out.pb.free 4
        have g5 := HFG.out.pb.free 5
        have HFb := Lib.hid (HFG.out.bad false (some rF) rfl (fun xs h => h))
        have HOb : Hid (OwnS 9 (w3.heap.size + 1) (wG.setCell ⟨R, 1, none⟩ (.bool false)) (.slice aa m cc) la) := Lib.hid (HOG.out.far (by omega) 1 _)
        go_wp2
        change bodyPost _ _ _ _ _ (set6W (wG.setCell ⟨R, 1, none⟩ (.bool false)) w.heap.size (.string (str ta)) (.int .u8 1) (.slice aa m cc) (.string (str te)) (.int .i64 tw) (.int .i64 tq))
        have hD := HFb.out.done (.string (str ta)) (.int .u8 1) (.slice aa m cc) (.string (str te)) (.int .i64 tw) (.int .i64 tq)
        have hO9 : OwnS 9 (w3.heap.size + 1) (set6W (wG.setCell ⟨R, 1, none⟩ (.bool false)) w.heap.size (.string (str ta)) (.int .u8 1) (.slice aa m cc) (.string (str te)) (.int .i64 tw) (.int .i64 tq)) (.slice aa m cc) la := OwnS.far6 HOb.out (by omega)
        generalize set6W (wG.setCell ⟨R, 1, none⟩ (.bool false)) w.heap.size (.string (str ta)) (.int .u8 1) (.slice aa m cc) (.string (str te)) (.int .i64 tw) (.int .i64 tq) = W9 at *
        obtain ⟨y0, y1, y2, y3, y4, y5⟩ := hD.pb.six
        refine bodyPost_ret (v := .agg #[.string (str ta), .int .u8 1, .slice aa m cc, .string (str te), .int .i64 tw, .int .i64 tq]) (by simp [results, Tryd.results105, go_sem, y0, y1, y2, y3, y4, y5]) rfl ?_
        exact ⟨xx, by rw [HX2.out], aa, m, cc, by rw [HXX.out]; rfl, by rw [HXX.out]; exact hO9.mono (by omega), by rw [HXX.out]; exact ⟨hta, hov, htw, htq⟩, by rw [HX2.out]; exact hD.rd, hD.g⟩
      | false =>
        have HX2 : Hid (itemS s = (xx, none)) := Lib.hid (by rw [HX.out, hit]; rfl)
        clear hit
        have c1 : wG.cell? ⟨R, 1, none⟩ = some (.bool false) := HFG.out.rd.mark
        have f1 := HFG.out.rd.free
        obtain ⟨p0, p1, p2, p3, p4, p5⟩ := HFG.out.bv.six
        obtain ⟨z0, z1, z2, z3, z4, z5⟩ := HFG.out.pb.six
        have g0 := HFG.out.pb.free 0
        have g1 := HFG.out.pb.free 1
        have g2 := HFG.out.pb.free 2
        have g3 := HFG.out.pb.free 3
        have g4 := HFG.out.pb.free 4
        have g5 := HFG.out.pb.free 5
        have HFb := Lib.hid (HFG.out.bad true none rfl (fun xs h => by cases h))
        have HOb : Hid (OwnS 9 (w3.heap.size + 1) (wG.setCell ⟨R, 1, none⟩ (.bool true)) (.slice aa m cc) la) := Lib.hid (HOG.out.far (by omega) 1 _)
        go_wp2
        change bodyPost _ _ _ _ _ (set6W (wG.setCell ⟨R, 1, none⟩ (.bool true)) w.heap.size (.string (str ta)) (.int .u8 1) (.slice aa m cc) (.string (str te)) (.int .i64 tw) (.int .i64 tq))
        have hD := HFb.out.done (.string (str ta)) (.int .u8 1) (.slice aa m cc) (.string (str te)) (.int .i64 tw) (.int .i64 tq)
        have hO9 : OwnS 9 (w3.heap.size + 1) (set6W (wG.setCell ⟨R, 1, none⟩ (.bool true)) w.heap.size (.string (str ta)) (.int .u8 1) (.slice aa m cc) (.string (str te)) (.int .i64 tw) (.int .i64 tq)) (.slice aa m cc) la := OwnS.far6 HOb.out (by omega)
        generalize set6W (wG.setCell ⟨R, 1, none⟩ (.bool true)) w.heap.size (.string (str ta)) (.int .u8 1) (.slice aa m cc) (.string (str te)) (.int .i64 tw) (.int .i64 tq) = W9 at *
        obtain ⟨y0, y1, y2, y3, y4, y5⟩ := hD.pb.six
        refine bodyPost_ret (v := .agg #[.string (str ta), .int .u8 1, .slice aa m cc, .string (str te), .int .i64 tw, .int .i64 tq]) (by simp [results, Tryd.results105, go_sem, y0, y1, y2, y3, y4, y5]) rfl ?_
        exact ⟨xx, by rw [HX2.out], aa, m, cc, by rw [HXX.out]; rfl, by rw [HXX.out]; exact hO9.mono (by omega), by rw [HXX.out]; exact ⟨hta, hov, htw, htq⟩, by rw [HX2.out]; exact hD.rd, hD.g⟩
end Go.Proofs.YtdienbcjfljjnaaDoor

/- Walks: frag's reader: many items; Take, Parse. -/
open Go.RowKit Go.Shelf
namespace Go.Proofs.YtdienbcjfljjnaaDoor
open Go Go.Proofs Fm

theorem info_item : (Tryd.prog.info? 107).map (fun i => (i.zero, i.size, i.bytes)) = some (some (.agg #[.string { data := #[] }, .int .u8 0, .slice none 0 0, .string { data := #[] }, .int .i64 0, .int .i64 0]), 6, 80) := by kernel_rfl
theorem elem_item : ElemOf Tryd.prog 50 107 (.agg #[.string { data := #[] }, .int .u8 0, .slice none 0 0, .string { data := #[] }, .int .i64 0, .int .i64 0]) 6 80 := ⟨Tryd.underlying50, info_item, rfl, by decide⟩
abbrev OwnFF := OwnF 107 9

set_option maxRecDepth 100000 in
set_option maxHeartbeats 8000000 in
theorem frmanyI_any {w0 w : World} {R : Nat} {s : Option (List UInt8)} (h : RdS w0 w R s) :
    Calls Tryd.prog 104 #[.pointer (some ⟨R, 0, none⟩), .int .i64 40, .func (.func 105) #[.pointer (some ⟨R, 0, none⟩)] #[]] w fun e w' =>
      ∃ v, e = .returned v ∧ OwnFF w.heap.size w' v (fragS s).1 ∧ RdS w0 w' R (fragS s).2 ∧ w.grownBy w' (some R) := by
  have H := Lib.hid h
  have hR := h.lt
  obtain ⟨n, hn⟩ : ∃ n : Nat, n = (numS 40 s).1.toNat := ⟨_, rfl⟩
  have hnr := numS_range 40 (by omega) s
  have hni : (numS 40 s).1 = (n : Int) := by omega
  have hn100 : n ≤ 100 := by omega
  have HNI := Lib.hid hni
  have HM : Hid (fragS s = loopS itemS n [] (numS 40 s).2) := Lib.hid (by unfold fragS manyS; rw [← hn])
  clear h hn hni hnr
  go_enter Tryd.func104, Tryd.ntmps104
  go_wp2_with fail
  refine (frnum_any 40 (by omega) (by omega) H.out).mono ?_
  rw [HNI.out]
  rintro e w1 ⟨rfl, hr1, hg1⟩
  have HR1 := Lib.hid hr1
  have HG1 := Lib.hid hg1
  clear hr1 hg1
  go_wp2_with fail
  go_loopw [7, 12] (fun o i wr => ∃ (j : Nat) (acc : List It) (sj : Option (List UInt8)), j ≤ n ∧ i = .int .i64 j ∧ Hid (fragS s = loopS itemS (n - j) acc sj) ∧ acc.length ≤ j ∧ Hid (OwnFF w.heap.size wr o acc) ∧ Hid (RdS w0 wr R sj) ∧ Hid (w.grownBy wr (some R))) (fun _ i _ => n - (intOf i).toNat)
  case atStart => exact ⟨0, [], _, by omega, rfl, HM, by simp, Lib.hid (OwnF.nil _ _ _ _), HR1, HG1⟩
  case round =>
    obtain ⟨j, acc, sj, hj, rfl, HL, hacc, HO, HRj, HG⟩ := hrel
    by_cases hlt : j < n
    · have hz := HG.out.size
      go_wp2_with fail
      refine (fritem_any HRj.out).mono ?_
      rintro e w2 ⟨x, hx, a, m, c, rfl, hOx, hwf, hr2, hg2⟩
      have HR2 := Lib.hid hr2
      have HG2 := Lib.hid (grown_trans HG.out hg2)
      have HO2 : Hid (OwnFF w.heap.size w2 u7 acc) := Lib.hid (HO.out.kept hg2 (fun b hb => by injection hb with hb; omega))
      have HOx := Lib.hid hOx
      have HWf : Hid (itWf x) := Lib.hid hwf
      have hz2 := HG2.out.size
      have hz3 := hg2.size
      have hvr : ∀ b, u7.ownBlock = some b → w.heap.size ≤ b ∧ b < wr.heap.size := by
        obtain ⟨ds, _, h2, _⟩ := HO.out
        exact h2.lt
      have HVR := Lib.hid hvr
      have HL2 : Hid (fragS s = loopS itemS (n - (j + 1)) (if (itemS sj).2.isNone then acc else acc ++ [x]) (itemS sj).2) := Lib.hid (by
        rw [HL.out, show n - j = (n - (j + 1)) + 1 by omega, hx]; rfl)
      clear hg2 HO HRj HG HL hOx hwf hvr hx hr2
      obtain ⟨s2, hs2⟩ : ∃ s2, s2 = (itemS sj).2 := ⟨_, rfl⟩
      rw [← hs2] at HL2
      rw [← hs2] at HR2
      clear hs2
      have HE3 := Lib.hid ((Ext.refl w2).alloc (.cells #[.string (str x.name), .int .u8 (x.kind.toNat : Int), .slice a m c, .string (str x.over), .int .i64 x.width, .int .i64 x.quota] 107))
      have HR3 := Lib.hid (HR2.out.then HE3.out)
      have HO3 := Lib.hid (HO2.out.ext HE3.out)
      have HG3 := Lib.hid (grown_trans HG2.out (grown_ext HE3.out _))
      have c1 := HR3.out.mark
      cases s2 with
      | none =>
        have HL3 : Hid (fragS s = loopS itemS (n - (j + 1)) acc none) := HL2
        have c1 : (w2.alloc (.cells #[.string (str x.name), .int .u8 (x.kind.toNat : Int), .slice a m c, .string (str x.over), .int .i64 x.width, .int .i64 x.quota] 107)).cell? ⟨R, 1, none⟩ = some (.bool true) := c1
        have c1' : w2.cell? ⟨R, 1, none⟩ = some (.bool true) := HR2.out.mark
        have hR2 := HR2.out.lt
        go_wp2
        go_roundw
        case rel => exact ⟨j + 1, acc, none, by omega, by go_num, HL3, by omega, HO3, HR3, HG3⟩
        case measure => simp [intOf]; omega
      | some r2 =>
        have HL3 : Hid (fragS s = loopS itemS (n - (j + 1)) (acc ++ [x]) (some r2)) := HL2
        have c1 : (w2.alloc (.cells #[.string (str x.name), .int .u8 (x.kind.toNat : Int), .slice a m c, .string (str x.over), .int .i64 x.width, .int .i64 x.quota] 107)).cell? ⟨R, 1, none⟩ = some (.bool false) := c1
        have c1' : w2.cell? ⟨R, 1, none⟩ = some (.bool false) := HR2.out.mark
        have hR2 := HR2.out.lt
        have HZ4 : Hid ((w2.alloc (.cells #[.string (str x.name), .int .u8 (x.kind.toNat : Int), .slice a m c, .string (str x.over), .int .i64 x.width, .int .i64 x.quota] 107)).heap.size = w2.heap.size + 1) := Lib.hid (by simp)
        have HE4 := Lib.hid ((Ext.refl (w2.alloc (.cells #[.string (str x.name), .int .u8 (x.kind.toNat : Int), .slice a m c, .string (str x.over), .int .i64 x.width, .int .i64 x.quota] 107))).alloc (.cells #[.string (str x.name), .int .u8 (x.kind.toNat : Int), .slice a m c, .string (str x.over), .int .i64 x.width, .int .i64 x.quota] 107))
        have HO4 := Lib.hid (HO3.out.ext HE4.out)
        have HR4 := Lib.hid (HR3.out.then HE4.out)
        have HG4 := Lib.hid (grown_trans HG3.out (grown_ext HE4.out _))
        have HOx4 := Lib.hid ((HOx.out.ext HE3.out).ext HE4.out)
        obtain ⟨xsr, hrow⟩ : ∃ xsr, ((w2.alloc (.cells #[.string (str x.name), .int .u8 (x.kind.toNat : Int), .slice a m c, .string (str x.over), .int .i64 x.width, .int .i64 x.quota] 107)).alloc (.cells #[.string (str x.name), .int .u8 (x.kind.toNat : Int), .slice a m c, .string (str x.over), .int .i64 x.width, .int .i64 x.quota] 107)).ownsRow w.heap.size 107 6 u7 acc.length xsr := by
          obtain ⟨ds, _, h2, _⟩ := HO4.out
          exact ⟨_, h2⟩
        have HRow := Lib.hid hrow
        have HNb : Hid (((w2.alloc (.cells #[.string (str x.name), .int .u8 (x.kind.toNat : Int), .slice a m c, .string (str x.over), .int .i64 x.width, .int .i64 x.quota] 107)).alloc (.cells #[.string (str x.name), .int .u8 (x.kind.toNat : Int), .slice a m c, .string (str x.over), .int .i64 x.width, .int .i64 x.quota] 107)).heap[w2.heap.size + 1]? = some (.cells (itCells x (.slice a m c)).toArray 107 (0, 0))) := Lib.hid (by
          have h := heap_alloc_new (w2.alloc (.cells #[.string (str x.name), .int .u8 (x.kind.toNat : Int), .slice a m c, .string (str x.over), .int .i64 x.width, .int .i64 x.quota] 107)) (.cells #[.string (str x.name), .int .u8 (x.kind.toNat : Int), .slice a m c, .string (str x.over), .int .i64 x.width, .int .i64 x.quota] 107)
          rw [HZ4.out] at h
          exact h)
        have hz5 : w.heap.size ≤ ((w2.alloc (.cells #[.string (str x.name), .int .u8 (x.kind.toNat : Int), .slice a m c, .string (str x.over), .int .i64 x.width, .int .i64 x.quota] 107)).alloc (.cells #[.string (str x.name), .int .u8 (x.kind.toNat : Int), .slice a m c, .string (str x.over), .int .i64 x.width, .int .i64 x.quota] 107)).heap.size := HG4.out.size
        have HZ5 := Lib.hid hz5
        clear hrow hz5 HE3 HE4 HR3 HO3 HG3 HZ4
        go_wp2_with (at_builtin; refine wpList_appOne elem_item rfl _ _ rfl rfl HRow.out rfl HNb.out rfl (by simp [itCells, Value.oneCell']) (by omega) (by omega) HZ5.out ?_)
        intro v4 w4 hown4 hg4 hat4
        have HO5 : Hid (OwnFF w.heap.size w4 v4 (acc ++ [x])) := Lib.hid (OwnF.snoc HO4.out (HOx4.out.mono (by omega)) HWf.out (fun b hb e => by have := (HOx4.out.block b hb).1; have := (HVR.out b e).2; omega) HRow.out hown4 hg4 (by simpa using hat4))
        have HR5 : Hid (RdS w0 w4 R (some r2)) := Lib.hid (HR4.out.kept hg4 (fun b hb => by have := HVR.out b hb; have := HR4.out.old; omega))
        have HG5 : Hid (w.grownBy w4 (some R)) := Lib.hid (grown_row HG4.out hg4 (fun b hb => (HVR.out b hb).1))
        clear hown4 hg4 hat4 HNb HRow HO4 HR4 HG4 HOx4 HZ5
        go_wp2
        go_roundw
        case rel => exact ⟨j + 1, acc ++ [x], some r2, by omega, by go_num, HL3, by simp; omega, HO5, HR5, HG5⟩
        case measure => simp [intOf]; omega
    · have hjn : j = n := by omega
      have hX : fragS s = (acc, sj) := by have := HL.out; rw [hjn, Nat.sub_self] at this; exact this
      have hR2 : ∃ vr, vr = u7 ∧ OwnFF w.heap.size wr vr (fragS s).1 ∧ RdS w0 wr R (fragS s).2 ∧ w.grownBy wr (some R) := ⟨u7, rfl, by rw [hX]; exact HO.out, by rw [hX]; exact HRj.out, HG.out⟩
      obtain ⟨vr, rfl, hq1, hq2, hq3⟩ := hR2
      have Q1 := Lib.hid hq1
      have Q2 := Lib.hid hq2
      have Q3 := Lib.hid hq3
      clear hq1 hq2 hq3 hX HO HRj HG HL hjn
      go_wp2
      go_ret
      exact ⟨_, rfl, Q1.out, Q2.out, Q3.out⟩

/-- What Take comes to. -/
def FTake (w : World) (xs : List UInt8) (e : Ending) (w' : World) : Prop :=
  ∃ (a : Option Addr) (m c : Nat) (ar : Option Addr) (mr cr : Nat) (f : Int) (l : List It), e = .returned (.tuple #[.slice a m c, .slice ar mr cr, .int .i64 f]) ∧ Ext w w' ∧ OwnFF w.heap.size w' (.slice a m c) l ∧
    (takeF xs = none → l = [] ∧ mr = 0 ∧ f = 30) ∧ (∀ l' r, takeF xs = some (l', r) → l = l' ∧ f = 0 ∧ Bytes w (.slice ar mr cr) r)

/-- The same over what lay ahead. -/
def FTake0 (w0 w : World) (xs : List UInt8) (e : Ending) (w' : World) : Prop :=
  ∃ (a : Option Addr) (m c : Nat) (ar : Option Addr) (mr cr : Nat) (f : Int) (l : List It), e = .returned (.tuple #[.slice a m c, .slice ar mr cr, .int .i64 f]) ∧ Ext w w' ∧ OwnFF w.heap.size w' (.slice a m c) l ∧
    (takeF xs = none → l = [] ∧ mr = 0 ∧ f = 30) ∧ (∀ l' r, takeF xs = some (l', r) → l = l' ∧ f = 0 ∧ Bytes w0 (.slice ar mr cr) r)
theorem ownF_slice {base : Nat} {w : World} {v : Value} {l : List It} (h : OwnFF base w v l) : ∃ (a : Option Addr) (c : Nat), v = .slice a l.length c := by
  obtain ⟨a, c, h, _⟩ := h.row.slice
  exact ⟨a, c, h⟩

set_option maxRecDepth 100000 in
set_option maxHeartbeats 4000000 in
theorem ftake_from (v : Value) (xs : List UInt8) (w0 w : World) (hE00 : Ext w0 w) (h : Bytes w0 v xs) :
    Calls Tryd.prog 85 #[v] w (FTake0 w0 w xs) := by
  have HE00 := Lib.hid hE00
  have hz00 := hE00.size
  obtain ⟨a0, c0, rfl, -⟩ := id h
  have HB := Lib.hid h
  have hrd : RdF w0 (w.alloc (.cells #[.slice a0 xs.length c0, .bool false] 164)) w.heap.size (.slice a0 xs.length c0) xs false :=
    ⟨hE00.alloc _, hE00.size, by simp, (BoxL.new w [.slice a0 xs.length c0, .bool false] 164).cell 0 _ rfl, (BoxL.new w [.slice a0 xs.length c0, .bool false] 164).cell 1 _ rfl, (BoxL.new w [.slice a0 xs.length c0, .bool false] 164).free 0, (BoxL.new w [.slice a0 xs.length c0, .bool false] 164).free 1, h⟩
  have HR0 : Hid (RdS w0 (w.alloc (.cells #[.slice a0 xs.length c0, .bool false] 164)) w.heap.size (some xs)) := Lib.hid ⟨_, _, hrd, fun ys hy => by injection hy⟩
  have HE0 := Lib.hid ((Ext.refl w).alloc (.cells #[.slice a0 xs.length c0, .bool false] 164))
  have hz0 : (w.alloc (.cells #[.slice a0 xs.length c0, .bool false] 164)).heap.size = w.heap.size + 1 := by simp
  have HZ0 := Lib.hid hz0
  clear h hrd hz0 hE00
  go_enter Tryd.func85, Tryd.ntmps85
  go_wp2_with fail
  generalize w.alloc (.cells #[.slice a0 xs.length c0, .bool false] 164) = W1 at *
  refine (frmanyI_any HR0.out).mono ?_
  rintro e w1 ⟨v1, rfl, hO1, hr1, hg1⟩
  have hE1 : Ext w w1 := HE0.out.grown hg1 (fun k hk => by injection hk with hk; omega)
  have hO1' := hO1.mono (show w.heap.size ≤ W1.heap.size by rw [HZ0.out]; omega)
  have c1 := hr1.mark
  have HE1 := Lib.hid hE1
  clear hO1 hg1 hE1 HE0 HR0
  cases hT : takeF xs with
  | none =>
    have hn := fragS_none hT
    rw [hn] at c1
    have c1 : w1.cell? ⟨w.heap.size, 1, none⟩ = some (.bool true) := c1
    have HP : Hid (FTake0 w0 w xs (.returned (.tuple #[.slice none 0 0, .slice none 0 0, .int .i64 30])) w1) := Lib.hid
      ⟨none, 0, 0, none, 0, 0, 30, [], rfl, HE1.out, OwnF.nil _ _ _ _, fun _ => ⟨rfl, rfl, rfl⟩, fun l r h => by rw [hT] at h; cases h⟩
    clear hT hn hO1' hr1
    go_wp2
    refine bodyPost_ret (v := .tuple #[.slice none 0 0, .slice none 0 0, .int .i64 30]) (by simp [results, Tryd.results85, go_sem]) rfl HP.out
  | some p =>
    obtain ⟨l, r⟩ := p
    have hs := fragS_some hT
    rw [hs] at c1 hO1' hr1
    obtain ⟨vr, ys, hF, hys⟩ := hr1
    obtain rfl := hys r rfl
    have c0r := hF.c0
    have hbr := hF.bytes
    obtain ⟨ar, cr, rfl, -⟩ := id hbr
    obtain ⟨al, cl, rfl⟩ := ownF_slice hO1'
    have c1 : w1.cell? ⟨w.heap.size, 1, none⟩ = some (.bool false) := c1
    have HP : Hid (∀ nq, FTake0 w0 w xs (.returned (.tuple #[.slice al l.length cl, .slice ar ys.length cr, .int .i64 0])) (w1.drewN nq)) := Lib.hid (fun nq =>
      ⟨_, _, _, _, _, _, 0, l, rfl, HE1.out.drewN nq, hO1'.ext ((Ext.refl _).drewN nq), fun h => (by rw [hT] at h; cases h), fun l' r' h => by rw [hT] at h; cases h; exact ⟨rfl, rfl, hbr⟩⟩)
    clear hT hs hO1' hbr hF hys
    generalize ys.length = ly at *
    generalize l.length = ll at *
    go_wp2_with fail
    go_quiet (fail)
    go_wp2
    refine bodyPost_ret (v := .tuple #[.slice al ll cl, .slice ar ly cr, .int .i64 0]) (by simp [results, Tryd.results85, go_sem]) rfl (HP.out nq)

theorem ftake_any (v : Value) (xs : List UInt8) (w : World) (h : Bytes w v xs) :
    Calls Tryd.prog 85 #[v] w (FTake w xs) := ftake_from v xs w w (Ext.refl w) h

/-- What Parse comes to. -/
def FParse (w : World) (xs : List UInt8) (e : Ending) (w' : World) : Prop :=
  ∃ (a : Option Addr) (m c : Nat) (f : Int) (l : List It), e = .returned (.tuple #[.slice a m c, .int .i64 f]) ∧ Ext w w' ∧ OwnFF w.heap.size w' (.slice a m c) l ∧
    ((∀ l', takeF xs ≠ some (l', [])) → l = [] ∧ f = 30) ∧ (∀ l', takeF xs = some (l', []) → l = l' ∧ f = 0)

end Go.Proofs.YtdienbcjfljjnaaDoor
