/- Walks: frag's reader: many items; Take, Parse. -/
import Derived.Test.YtnbalamacpcanaaDoorFragT
import Derived.Test.YtnbalamacpcanaaDoorRdG
import Derived.Test.YtnbalamacpcanaaDoorOwnG
open Go.RowKit Go.Shelf
namespace Go.Proofs.YtnbalamacpcanaaDoor
open Go Go.Proofs Fm

theorem info_item : (Tryd.prog.info? 47).map (fun i => (i.zero, i.size, i.bytes)) = some (some (.agg #[.string { data := #[] }, .int .u8 0, .slice none 0 0, .string { data := #[] }, .int .i64 0, .int .i64 0]), 6, 80) := by kernel_rfl
theorem elem_item : ElemOf Tryd.prog 43 47 (.agg #[.string { data := #[] }, .int .u8 0, .slice none 0 0, .string { data := #[] }, .int .i64 0, .int .i64 0]) 6 80 := ⟨Tryd.underlying43, info_item, rfl, by decide⟩
abbrev OwnFF := OwnF 47 9

set_option maxRecDepth 100000 in
set_option maxHeartbeats 8000000 in
theorem frmanyI_any {w0 w : World} {R : Nat} {s : Option (List UInt8)} (h : RdS w0 w R s) :
    Calls Tryd.prog 104 #[.pointer (some ⟨R, 0, none⟩), .int .i64 40, .func (.func 105) #[.pointer (some ⟨R, 0, none⟩)] #[]] w fun e w' =>
      ∃ v, e = .returned v ∧ OwnFF w.heap.size w' v (fragS s).1 ∧ RdS w0 w' R (fragS s).2 ∧ w.grownBy w' (some R) := by
  have H := Lib.hid h
  have hR := h.lt
  obtain ⟨n, hn⟩ : ∃ n : Nat, n = (numS 40 s).1.toNat := ⟨_, rfl⟩
  have hnr := numS_range 40 (by omega) s
  have hni : (numS 40 s).1 = (n : Int) := by omega
  have hn100 : n ≤ 100 := by omega
  have HNI := Lib.hid hni
  have HM : Hid (fragS s = loopS itemS n [] (numS 40 s).2) := Lib.hid (by unfold fragS manyS; rw [← hn])
  clear h hn hni hnr
  go_enter Tryd.func104, Tryd.ntmps104
  go_wp2_with fail
  refine (frnum_any 40 (by omega) (by omega) H.out).mono ?_
  rw [HNI.out]
  rintro e w1 ⟨rfl, hr1, hg1⟩
  have HR1 := Lib.hid hr1
  have HG1 := Lib.hid hg1
  clear hr1 hg1
  go_wp2_with fail
  go_loopw [7, 12] (fun o i wr => ∃ (j : Nat) (acc : List It) (sj : Option (List UInt8)), j ≤ n ∧ i = .int .i64 j ∧ Hid (fragS s = loopS itemS (n - j) acc sj) ∧ acc.length ≤ j ∧ Hid (OwnFF w.heap.size wr o acc) ∧ Hid (RdS w0 wr R sj) ∧ Hid (w.grownBy wr (some R))) (fun _ i _ => n - (intOf i).toNat)
  case atStart => exact ⟨0, [], _, by omega, rfl, HM, by simp, Lib.hid (OwnF.nil _ _ _ _), HR1, HG1⟩
  case round =>
    obtain ⟨j, acc, sj, hj, rfl, HL, hacc, HO, HRj, HG⟩ := hrel
    by_cases hlt : j < n
    · have hz := HG.out.size
      go_wp2_with fail
      refine (fritem_any HRj.out).mono ?_
      rintro e w2 ⟨x, hx, a, m, c, rfl, hOx, hwf, hr2, hg2⟩
      have HR2 := Lib.hid hr2
      have HG2 := Lib.hid (grown_trans HG.out hg2)
      have HO2 : Hid (OwnFF w.heap.size w2 u7 acc) := Lib.hid (HO.out.kept hg2 (fun b hb => by injection hb with hb; omega))
      have HOx := Lib.hid hOx
      have HWf : Hid (itWf x) := Lib.hid hwf
      have hz2 := HG2.out.size
      have hz3 := hg2.size
      have hvr : ∀ b, u7.ownBlock = some b → w.heap.size ≤ b ∧ b < wr.heap.size := by
        obtain ⟨ds, _, h2, _⟩ := HO.out
        exact h2.lt
      have HVR := Lib.hid hvr
      have HL2 : Hid (fragS s = loopS itemS (n - (j + 1)) (if (itemS sj).2.isNone then acc else acc ++ [x]) (itemS sj).2) := Lib.hid (by
        rw [HL.out, show n - j = (n - (j + 1)) + 1 by omega, hx]; rfl)
      clear hg2 HO HRj HG HL hOx hwf hvr hx hr2
      obtain ⟨s2, hs2⟩ : ∃ s2, s2 = (itemS sj).2 := ⟨_, rfl⟩
      rw [← hs2] at HL2
      rw [← hs2] at HR2
      clear hs2
      have HE3 := Lib.hid ((Ext.refl w2).alloc (.cells #[.string (str x.name), .int .u8 (x.kind.toNat : Int), .slice a m c, .string (str x.over), .int .i64 x.width, .int .i64 x.quota] 47))
      have HR3 := Lib.hid (HR2.out.then HE3.out)
      have HO3 := Lib.hid (HO2.out.ext HE3.out)
      have HG3 := Lib.hid (grown_trans HG2.out (grown_ext HE3.out _))
      have c1 := HR3.out.mark
      cases s2 with
      | none =>
        have HL3 : Hid (fragS s = loopS itemS (n - (j + 1)) acc none) := HL2
        have c1 : (w2.alloc (.cells #[.string (str x.name), .int .u8 (x.kind.toNat : Int), .slice a m c, .string (str x.over), .int .i64 x.width, .int .i64 x.quota] 47)).cell? ⟨R, 1, none⟩ = some (.bool true) := c1
        have c1' : w2.cell? ⟨R, 1, none⟩ = some (.bool true) := HR2.out.mark
        have hR2 := HR2.out.lt
        go_wp2
        go_roundw
        case rel => exact ⟨j + 1, acc, none, by omega, by go_num, HL3, by omega, HO3, HR3, HG3⟩
        case measure => simp [intOf]; omega
      | some r2 =>
        have HL3 : Hid (fragS s = loopS itemS (n - (j + 1)) (acc ++ [x]) (some r2)) := HL2
        have c1 : (w2.alloc (.cells #[.string (str x.name), .int .u8 (x.kind.toNat : Int), .slice a m c, .string (str x.over), .int .i64 x.width, .int .i64 x.quota] 47)).cell? ⟨R, 1, none⟩ = some (.bool false) := c1
        have c1' : w2.cell? ⟨R, 1, none⟩ = some (.bool false) := HR2.out.mark
        have hR2 := HR2.out.lt
        have HZ4 : Hid ((w2.alloc (.cells #[.string (str x.name), .int .u8 (x.kind.toNat : Int), .slice a m c, .string (str x.over), .int .i64 x.width, .int .i64 x.quota] 47)).heap.size = w2.heap.size + 1) := Lib.hid (by simp)
        have HE4 := Lib.hid ((Ext.refl (w2.alloc (.cells #[.string (str x.name), .int .u8 (x.kind.toNat : Int), .slice a m c, .string (str x.over), .int .i64 x.width, .int .i64 x.quota] 47))).alloc (.cells #[.string (str x.name), .int .u8 (x.kind.toNat : Int), .slice a m c, .string (str x.over), .int .i64 x.width, .int .i64 x.quota] 47))
        have HO4 := Lib.hid (HO3.out.ext HE4.out)
        have HR4 := Lib.hid (HR3.out.then HE4.out)
        have HG4 := Lib.hid (grown_trans HG3.out (grown_ext HE4.out _))
        have HOx4 := Lib.hid ((HOx.out.ext HE3.out).ext HE4.out)
        obtain ⟨xsr, hrow⟩ : ∃ xsr, ((w2.alloc (.cells #[.string (str x.name), .int .u8 (x.kind.toNat : Int), .slice a m c, .string (str x.over), .int .i64 x.width, .int .i64 x.quota] 47)).alloc (.cells #[.string (str x.name), .int .u8 (x.kind.toNat : Int), .slice a m c, .string (str x.over), .int .i64 x.width, .int .i64 x.quota] 47)).ownsRow w.heap.size 47 6 u7 acc.length xsr := by
          obtain ⟨ds, _, h2, _⟩ := HO4.out
          exact ⟨_, h2⟩
        have HRow := Lib.hid hrow
        have HNb : Hid (((w2.alloc (.cells #[.string (str x.name), .int .u8 (x.kind.toNat : Int), .slice a m c, .string (str x.over), .int .i64 x.width, .int .i64 x.quota] 47)).alloc (.cells #[.string (str x.name), .int .u8 (x.kind.toNat : Int), .slice a m c, .string (str x.over), .int .i64 x.width, .int .i64 x.quota] 47)).heap[w2.heap.size + 1]? = some (.cells (itCells x (.slice a m c)).toArray 47 (0, 0))) := Lib.hid (by
          have h := heap_alloc_new (w2.alloc (.cells #[.string (str x.name), .int .u8 (x.kind.toNat : Int), .slice a m c, .string (str x.over), .int .i64 x.width, .int .i64 x.quota] 47)) (.cells #[.string (str x.name), .int .u8 (x.kind.toNat : Int), .slice a m c, .string (str x.over), .int .i64 x.width, .int .i64 x.quota] 47)
          rw [HZ4.out] at h
          exact h)
        have hz5 : w.heap.size ≤ ((w2.alloc (.cells #[.string (str x.name), .int .u8 (x.kind.toNat : Int), .slice a m c, .string (str x.over), .int .i64 x.width, .int .i64 x.quota] 47)).alloc (.cells #[.string (str x.name), .int .u8 (x.kind.toNat : Int), .slice a m c, .string (str x.over), .int .i64 x.width, .int .i64 x.quota] 47)).heap.size := HG4.out.size
        have HZ5 := Lib.hid hz5
        clear hrow hz5 HE3 HE4 HR3 HO3 HG3 HZ4
        go_wp2_with (at_builtin; refine wpList_appOne elem_item rfl _ _ rfl rfl HRow.out rfl HNb.out rfl (by simp [itCells, Value.oneCell']) (by omega) (by omega) HZ5.out ?_)
        intro v4 w4 hown4 hg4 hat4
        have HO5 : Hid (OwnFF w.heap.size w4 v4 (acc ++ [x])) := Lib.hid (OwnF.snoc HO4.out (HOx4.out.mono (by omega)) HWf.out (fun b hb e => by have := (HOx4.out.block b hb).1; have := (HVR.out b e).2; omega) HRow.out hown4 hg4 (by simpa using hat4))
        have HR5 : Hid (RdS w0 w4 R (some r2)) := Lib.hid (HR4.out.kept hg4 (fun b hb => by have := HVR.out b hb; have := HR4.out.old; omega))
        have HG5 : Hid (w.grownBy w4 (some R)) := Lib.hid (grown_row HG4.out hg4 (fun b hb => (HVR.out b hb).1))
        clear hown4 hg4 hat4 HNb HRow HO4 HR4 HG4 HOx4 HZ5
        go_wp2
        go_roundw
        case rel => exact ⟨j + 1, acc ++ [x], some r2, by omega, by go_num, HL3, by simp; omega, HO5, HR5, HG5⟩
        case measure => simp [intOf]; omega
    · have hjn : j = n := by omega
      have hX : fragS s = (acc, sj) := by have := HL.out; rw [hjn, Nat.sub_self] at this; exact this
      have hR2 : ∃ vr, vr = u7 ∧ OwnFF w.heap.size wr vr (fragS s).1 ∧ RdS w0 wr R (fragS s).2 ∧ w.grownBy wr (some R) := ⟨u7, rfl, by rw [hX]; exact HO.out, by rw [hX]; exact HRj.out, HG.out⟩
      obtain ⟨vr, rfl, hq1, hq2, hq3⟩ := hR2
      have Q1 := Lib.hid hq1
      have Q2 := Lib.hid hq2
      have Q3 := Lib.hid hq3
      clear hq1 hq2 hq3 hX HO HRj HG HL hjn
      go_wp2
      go_ret
      exact ⟨_, rfl, Q1.out, Q2.out, Q3.out⟩

/-- What Take comes to. -/
def FTake (w : World) (xs : List UInt8) (e : Ending) (w' : World) : Prop :=
  ∃ (a : Option Addr) (m c : Nat) (ar : Option Addr) (mr cr : Nat) (f : Int) (l : List It), e = .returned (.tuple #[.slice a m c, .slice ar mr cr, .int .i64 f]) ∧ Ext w w' ∧ OwnFF w.heap.size w' (.slice a m c) l ∧
    (takeF xs = none → l = [] ∧ mr = 0 ∧ f = 30) ∧ (∀ l' r, takeF xs = some (l', r) → l = l' ∧ f = 0 ∧ Bytes w (.slice ar mr cr) r)

theorem ownF_slice {base : Nat} {w : World} {v : Value} {l : List It} (h : OwnFF base w v l) : ∃ (a : Option Addr) (c : Nat), v = .slice a l.length c := by
  obtain ⟨a, c, h, _⟩ := h.row.slice
  exact ⟨a, c, h⟩

set_option maxRecDepth 100000 in
set_option maxHeartbeats 4000000 in
theorem ftake_any (v : Value) (xs : List UInt8) (w : World) (h : Bytes w v xs) :
    Calls Tryd.prog 56 #[v] w (FTake w xs) := by
  obtain ⟨a0, c0, rfl, -⟩ := id h
  have HB := Lib.hid h
  have hrd : RdF w (w.alloc (.cells #[.slice a0 xs.length c0, .bool false] 147)) w.heap.size (.slice a0 xs.length c0) xs false :=
    ⟨(Ext.refl w).alloc _, Nat.le_refl _, by simp, (BoxL.new w [.slice a0 xs.length c0, .bool false] 147).cell 0 _ rfl, (BoxL.new w [.slice a0 xs.length c0, .bool false] 147).cell 1 _ rfl, (BoxL.new w [.slice a0 xs.length c0, .bool false] 147).free 0, (BoxL.new w [.slice a0 xs.length c0, .bool false] 147).free 1, h⟩
  have HR0 : Hid (RdS w (w.alloc (.cells #[.slice a0 xs.length c0, .bool false] 147)) w.heap.size (some xs)) := Lib.hid ⟨_, _, hrd, fun ys hy => by injection hy⟩
  have HE0 := Lib.hid ((Ext.refl w).alloc (.cells #[.slice a0 xs.length c0, .bool false] 147))
  have hz0 : (w.alloc (.cells #[.slice a0 xs.length c0, .bool false] 147)).heap.size = w.heap.size + 1 := by simp
  have HZ0 := Lib.hid hz0
  clear h hrd hz0
  go_enter Tryd.func56, Tryd.ntmps56
  go_wp2_with fail
  generalize w.alloc (.cells #[.slice a0 xs.length c0, .bool false] 147) = W1 at *
  refine (frmanyI_any HR0.out).mono ?_
  rintro e w1 ⟨v1, rfl, hO1, hr1, hg1⟩
  have hE1 : Ext w w1 := HE0.out.grown hg1 (fun k hk => by injection hk with hk; omega)
  have hO1' := hO1.mono (show w.heap.size ≤ W1.heap.size by rw [HZ0.out]; omega)
  have c1 := hr1.mark
  have HE1 := Lib.hid hE1
  clear hO1 hg1 hE1 HE0 HR0
  cases hT : takeF xs with
  | none =>
    have hn := fragS_none hT
    rw [hn] at c1
    have c1 : w1.cell? ⟨w.heap.size, 1, none⟩ = some (.bool true) := c1
    have HP : Hid (FTake w xs (.returned (.tuple #[.slice none 0 0, .slice none 0 0, .int .i64 30])) w1) := Lib.hid
      ⟨none, 0, 0, none, 0, 0, 30, [], rfl, HE1.out, OwnF.nil _ _ _ _, fun _ => ⟨rfl, rfl, rfl⟩, fun l r h => by rw [hT] at h; cases h⟩
    clear hT hn hO1' hr1
    go_wp2
    refine bodyPost_ret (v := .tuple #[.slice none 0 0, .slice none 0 0, .int .i64 30]) (by simp [results, Tryd.results56, go_sem]) rfl HP.out
  | some p =>
    obtain ⟨l, r⟩ := p
    have hs := fragS_some hT
    rw [hs] at c1 hO1' hr1
    obtain ⟨vr, ys, hF, hys⟩ := hr1
    obtain rfl := hys r rfl
    have c0r := hF.c0
    have hbr := hF.bytes
    obtain ⟨ar, cr, rfl, -⟩ := id hbr
    obtain ⟨al, cl, rfl⟩ := ownF_slice hO1'
    have c1 : w1.cell? ⟨w.heap.size, 1, none⟩ = some (.bool false) := c1
    have HP : Hid (∀ nq, FTake w xs (.returned (.tuple #[.slice al l.length cl, .slice ar ys.length cr, .int .i64 0])) (w1.drewN nq)) := Lib.hid (fun nq =>
      ⟨_, _, _, _, _, _, 0, l, rfl, HE1.out.drewN nq, hO1'.ext ((Ext.refl _).drewN nq), fun h => (by rw [hT] at h; cases h), fun l' r' h => by rw [hT] at h; cases h; exact ⟨rfl, rfl, hbr⟩⟩)
    clear hT hs hO1' hbr hF hys
    generalize ys.length = ly at *
    generalize l.length = ll at *
    go_wp2_with fail
    go_quiet (fail)
    go_wp2
    refine bodyPost_ret (v := .tuple #[.slice al ll cl, .slice ar ly cr, .int .i64 0]) (by simp [results, Tryd.results56, go_sem]) rfl (HP.out nq)

/-- What Parse comes to. -/
def FParse (w : World) (xs : List UInt8) (e : Ending) (w' : World) : Prop :=
  ∃ (a : Option Addr) (m c : Nat) (f : Int) (l : List It), e = .returned (.tuple #[.slice a m c, .int .i64 f]) ∧ Ext w w' ∧ OwnFF w.heap.size w' (.slice a m c) l ∧
    ((∀ l', takeF xs ≠ some (l', [])) → l = [] ∧ f = 30) ∧ (∀ l', takeF xs = some (l', []) → l = l' ∧ f = 0)

set_option maxRecDepth 100000 in
set_option maxHeartbeats 2000000 in
theorem fparse_any (v : Value) (xs : List UInt8) (w : World) (h : Bytes w v xs) :
    Calls Tryd.prog 58 #[v] w (FParse w xs) := by
  have HB := Lib.hid h
  clear h
  go_enter Tryd.func58, Tryd.ntmps58
  go_wp2_with fail
  refine (ftake_any v xs w HB.out).mono ?_
  rintro e w1 ⟨a, m, c, ar, mr, cr, f, l, rfl, hE, hO, hno, hyes⟩
  cases hT : takeF xs with
  | none =>
    obtain ⟨rfl, rfl, rfl⟩ := hno hT
    have HP : Hid (FParse w xs (.returned (.tuple #[.slice none 0 0, .int .i64 30])) w1) := Lib.hid ⟨none, 0, 0, 30, [], rfl, hE, OwnF.nil _ _ _ _, fun _ => ⟨rfl, rfl⟩, fun l' h => by rw [hT] at h; cases h⟩
    clear hT hno hyes hO hE
    go_wp2
    refine bodyPost_ret (v := .tuple #[.slice none 0 0, .int .i64 30]) (by simp [results, Tryd.results58, go_sem]) rfl HP.out
  | some p =>
    obtain ⟨l', r⟩ := p
    obtain ⟨rfl, rfl, hb⟩ := hyes _ _ hT
    obtain ⟨ar', cr', e1, -⟩ := id hb
    injection e1 with e1 e2 e3
    subst e1 e2 e3
    cases r with
    | nil =>
      have HP : Hid (FParse w xs (.returned (.tuple #[.slice a m c, .int .i64 0])) w1) := Lib.hid ⟨_, _, _, 0, l, rfl, hE, hO, fun h => absurd hT (h l), fun l' h => by rw [hT] at h; cases h; exact ⟨rfl, rfl⟩⟩
      clear hT hno hyes hO hE hb
      go_wp2
      refine bodyPost_ret (v := .tuple #[.slice a m c, .int .i64 0]) (by simp [results, Tryd.results58, go_sem]) rfl HP.out
    | cons y ys =>
      have HP : Hid (FParse w xs (.returned (.tuple #[.slice none 0 0, .int .i64 30])) w1) := Lib.hid ⟨none, 0, 0, 30, [], rfl, hE, OwnF.nil _ _ _ _, fun _ => ⟨rfl, rfl⟩, fun l' h => by rw [hT] at h; cases h⟩
      have hpos : (0 : Int) < ((y :: ys).length : Int) := by rw [List.length_cons]; omega
      generalize (y :: ys).length = ly at *
      clear hT hno hyes hO hE hb
      go_wp2
      refine bodyPost_ret (v := .tuple #[.slice none 0 0, .int .i64 30]) (by simp [results, Tryd.results58, go_sem]) rfl HP.out
end Go.Proofs.YtnbalamacpcanaaDoor
