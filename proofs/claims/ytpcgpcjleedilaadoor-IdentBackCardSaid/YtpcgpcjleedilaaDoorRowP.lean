/- From a row's reading of a path to its parts. -/
import Derived.Test.YtpcgpcjleedilaaDoorIdZ
import Derived.Deep.AppendLies
import Derived.Deep.RegionLaw
import Derived.Deep.RegionHeld3
import Derived.BigQuiet
import Derived.Deep.QuietTactic
import Derived.Test.YtpcgpcjleedilaaDoorFrgA
import Derived.ProofKit
import Derived.OpenShut
import Derived.ShutString
import Derived.ChangeOld
import Derived.Test.YtpcgpcjleedilaaDoorIdP
import Derived.LaidLaws
import Derived.Lib.LaidTab
import Derived.Test.YtpcgpcjleedilaaDoorProg
open Go.RowKit Go.Shelf
namespace Go.Proofs.YtpcgpcjleedilaaDoor
open Go Go.Proofs Fm

theorem stpsCells_append (l m : List Stp) : stpsCells (l ++ m) = stpsCells l ++ stpsCells m := by unfold stpsCells; simp
theorem own_slice {w : World} {base e size n : Nat} {v : Value} {xs : List Value} (h : w.ownsRow base e size v n xs) : ∃ a c, v = .slice a n c := by
  rcases h.2 with ⟨rfl, rfl⟩ | ⟨g, cap, cur, rfl, _⟩
  · exact ⟨_, _, rfl⟩
  · exact ⟨_, _, rfl⟩
/-- The law of an append, in a region that draws its order. -/
theorem step_append_src {P : Program} {w : World} {ops : Array Oper} {o : Oper} {a : Act} {K : Act → World → Prop} {Q : Exit → Act → World → Prop} {E : Prop} (hgd : o.guard = none) (s x : Operand) {t e : TypeId} {z : Value} {size bytes : Nat} (tx : TypeId)
    (ho : o.op = .call { callee := .builtin .append, args := #[s, x], argTypes := #[t, tx] }) (he : ElemOf P t e z size bytes) (base : Nat)
    (v : Value) (n : Nat) (xs : List Value) (hs : a.eval s = v) (hown : w.ownsRow base e size v n xs) (X : Value) (m : Nat) (news : List Value) (hx : a.eval x = X) (hsrc : Src P size tx X m news w)
    (b1 : n + m ≤ maxLen) (b2 : (n + m) * bytes ≤ 140737488355328) (b3 : base ≤ w.heap.size)
    (h : ∀ v' w', w'.ownsRow base e size v' (n + m) (xs ++ news) → w.grownBy w' v.ownBlock → (v'.ownBlock = v.ownBlock ∨ v'.ownBlock = some w.heap.size) → K (a.put o.dst v') w') :
    if Region.wanted o (yielded ops a.tmps) = true then Oper.wp P o a w K Q else E := by
  have hw : Region.wanted o (yielded ops a.tmps) = true := by simp [Region.wanted, hgd]
  rw [if_pos hw]
  obtain ⟨v', w', hrun, r1, r2, r3⟩ := run_append_src_at w he tx o.type base v n xs hown X m news hsrc b1 b2 b3
  unfold Oper.wp
  simp [execOp, ho, resolve, invoke, builtin, hs, hx, hrun, Result.andThen]
  exact h v' w' r1 r2 r3
/-- A row of steps as the source of an append. -/
theorem Src.steps {w wr : World} {l : List Stp} {a : Option Addr} {n c : Nat} (h : stpE.Row w l (.slice a n c)) (hE : Ext w wr) : Src Tryd.prog 2 22 (.slice a n c) l.length (stpsCells l) wr := by
  obtain ⟨a', c', e, h1, h2⟩ := h.slice
  injection e with e1 e2 e3
  subst e1 e2 e3
  cases a with
  | none =>
    have h0 : l = [] := by
      cases l with
      | nil => rfl
      | cons x l =>
        obtain ⟨b, off, e, _⟩ := stp_at h (Ext.refl w) 0 (by simp)
        cases e
    subst h0
    exact Src.ofNil _ Tryd.underlying22 c
  | some ad =>
    obtain ⟨b, off, ae⟩ := ad
    refine Src.ofSlice _ Tryd.underlying22 _ _ _ _ (stpsCells_len l) (fun j u hj => ?_) (stpsCells_one l)
    have hne : l ≠ [] := by rintro rfl; simp [stpsCells] at hj
    obtain ⟨b', off', e, _⟩ := stp_at h (Ext.refl w) 0 (List.length_pos_iff.2 hne)
    cases e
    exact stpRow_cells h hE j u hj
noncomputable def sameP (p q : Pth) : Bool := @decide (p = q) (Classical.propDecidable _)
theorem sameP_true {p q : Pth} : sameP p q = true ↔ p = q := by unfold sameP; exact @decide_eq_true_iff _ (Classical.propDecidable _)
theorem sameP_false {p q : Pth} : sameP p q = false ↔ p ≠ q := by unfold sameP; exact @decide_eq_false_iff_not _ (Classical.propDecidable _)
set_option maxRecDepth 100000 in
set_option maxHeartbeats 4000000 in
theorem paths_any (p q : Pth) (w : World) (v v' : Value) (h : PthV w p v) (h' : PthV w q v') :
    Calls Tryd.prog 12 #[v, v'] w fun e w' => e = .returned (.bool (sameP p q)) ∧ Ext w w' := by
  obtain ⟨a, m, c, rfl, hr, hi⟩ := h
  obtain ⟨a', m', c', rfl, hr', hi'⟩ := h'
  obtain ⟨a0, c0, e, hc1, hc2⟩ := hr.slice
  injection e with e1 e2 e3
  subst e1 e2 e3
  obtain ⟨a0, c0, e, hc1', hc2'⟩ := hr'.slice
  injection e with e1 e2 e3
  subst e1 e2 e3
  have hb2 := BoxL.new (w.alloc (.cells #[.int .i64 p.flow, .slice a p.steps.length c] 24)) [.int .i64 q.flow, .slice a' q.steps.length c'] 24
  have hb1 := (BoxL.new w [.int .i64 p.flow, .slice a p.steps.length c] 24).ext ((Ext.refl _).alloc (.cells #[.int .i64 q.flow, .slice a' q.steps.length c'] 24))
  have hE : Ext w ((w.alloc (.cells #[.int .i64 p.flow, .slice a p.steps.length c] 24)).alloc (.cells #[.int .i64 q.flow, .slice a' q.steps.length c'] 24)) := ((Ext.refl w).alloc _).alloc _
  rw [show (w.alloc (.cells #[.int .i64 p.flow, .slice a p.steps.length c] 24)).heap.size = w.heap.size + 1 by simp] at hb2
  have HR := Lib.hid hr
  have HR' := Lib.hid hr'
  clear hr hr' hi hi'
  go_enter Tryd.func12, Tryd.ntmps12
  go_upto_region 1 with (fail)
  generalize (w.alloc (.cells #[.int .i64 p.flow, .slice a p.steps.length c] 24)).alloc (.cells #[.int .i64 q.flow, .slice a' q.steps.length c'] 24) = W1 at *
  have p0 := hb1.cell 0 _ rfl
  have p1 := hb1.cell 1 _ rfl
  have q0 := hb2.cell 0 _ rfl
  have q1 := hb2.cell 1 _ rfl
  have HE := Lib.hid hE
  have HB1 := Lib.hid hb1
  have HB2 := Lib.hid hb2
  have hz := hb2.lt
  clear hb1 hb2 hE
  by_cases hf : p.flow = q.flow
  case neg =>
    have HX := Lib.hid (show sameP p q = false from sameP_false.2 (fun e => hf (by rw [e])))
    have ht : (p.flow != q.flow) = true := by simp [hf]
    clear hf
    go_wp2
    go_ret
    exact ⟨by rw [HX.out]; rfl, HE.out⟩
  have ht : (p.flow != q.flow) = false := by simp [hf]
  have HF := Lib.hid hf
  clear hf
  by_cases hl : p.steps.length = q.steps.length
  case neg =>
    have HX := Lib.hid (show sameP p q = false from sameP_false.2 (fun e => hl (by rw [e])))
    have hu : ((p.steps.length : Int) != (q.steps.length : Int)) = true := by simp; omega
    have hu2 : (p.steps.length != q.steps.length) = true := by simp [hl]
    clear hl
    go_wp2
    go_ret
    exact ⟨by rw [HX.out]; rfl, HE.out⟩
  have hu : ((p.steps.length : Int) != (q.steps.length : Int)) = false := by simp; omega
  have hu2 : (p.steps.length != q.steps.length) = false := by simp [hl]
  have HL := Lib.hid hl
  clear hl
  go_wp2_with fail
  go_loopw [23] (fun i wr => ∃ k : Nat, k ≤ p.steps.length ∧ i = .int .i64 k ∧ Hid (p.steps.take k = q.steps.take k) ∧ Hid (Ext W1 wr)) (fun i _ => p.steps.length - (intOf i).toNat)
  case atStart => exact ⟨0, by omega, rfl, Lib.hid rfl, Lib.hid (Ext.refl W1)⟩
  case round =>
    obtain ⟨k, hk, rfl, HT, HEr⟩ := hrel
    clear p0 p1 q0 q1 ht hu hu2
    by_cases hlt : k < p.steps.length
    · have hlt' : k < q.steps.length := by have := HL.out; omega
      obtain ⟨b, off, rfl, hb, c0, c1, hs⟩ := stp_at HR.out (HE.out.trans HEr.out) k hlt
      obtain ⟨b', off', rfl, hb', d0, d1, hs'⟩ := stp_at HR'.out (HE.out.trans HEr.out) k hlt'
      have p1 := (HB1.out.ext HEr.out).cell 1 _ rfl
      have q1 := (HB2.out.ext HEr.out).cell 1 _ rfl
      have HTk := Lib.hid (show p.steps[k] = q.steps[k] → p.steps.take (k + 1) = q.steps.take (k + 1) from fun e => by rw [List.take_succ_eq_append_getElem hlt, List.take_succ_eq_append_getElem hlt', HT.out, e])
      have HNE := Lib.hid (show p.steps[k] ≠ q.steps[k] → sameP p q = false from fun e => sameP_false.2 (fun h => by subst h; exact e rfl))
      clear hs hs'
      generalize p.steps[k] = x at *
      generalize q.steps[k] = y at *
      have es : ((str x.name).toList == (str y.name).toList) = decide (x.name = y.name) := str_beq _ _
      by_cases hxy : x = y
      · subst hxy
        have HTT := Lib.hid (HTk.out rfl)
        clear es
        go_wp2_with fail
        go_quiet (fail)
        go_wp2_with fail
        go_roundw
        case rel => exact ⟨k + 1, by omega, by go_num, HTT, Lib.hid (HEr.out.drewN _)⟩
        case measure => simp [intOf]; omega
      · have HX := Lib.hid (HNE.out hxy)
        have HE2 := Lib.hid (HE.out.trans HEr.out)
        by_cases hn : x.name = y.name
        · have hp : x.place ≠ y.place := fun e => hxy (Stp.ext_iff'.2 ⟨hn, e⟩)
          have f0 : ((str x.name).toList == (str y.name).toList) = true := by rw [es]; simpa using hn
          have f1 : (x.place == y.place) = false := by simpa using hp
          clear es hn hp hxy
          go_wp2_with fail
          go_quiet (fail)
          go_wp2_with fail
          go_ret
          exact ⟨by rw [HX.out]; rfl, HE2.out.drewN _⟩
        · have f0 : ((str x.name).toList == (str y.name).toList) = false := by rw [es]; simpa using hn
          clear es hn hxy
          go_wp2_with fail
          go_quiet (fail)
          go_wp2_with fail
          go_ret
          exact ⟨by rw [HX.out]; rfl, HE2.out.drewN _⟩
    · obtain rfl : k = p.steps.length := by omega
      have HX := Lib.hid (show sameP p q = true from sameP_true.2 (by
        rw [Pth.ext_iff']
        refine ⟨HF.out, ?_⟩
        have h := HT.out
        rw [List.take_length] at h
        rw [h, HL.out, List.take_length]))
      have HE2 := Lib.hid (HE.out.trans HEr.out)
      go_wp2
      go_ret
      exact ⟨by rw [HX.out]; rfl, HE2.out⟩
set_option maxRecDepth 100000 in
set_option maxHeartbeats 8000000 in
theorem identBack_way (w : World) (p q : Pth) (v v' : Value) (h : PthV w p v) (h' : PthV w q v') (s : List UInt8) (hs : s.length ≤ 500) (hlp : p.steps.length ≤ 30) (hlq : q.steps.length ≤ 30) (hw : KW w) :
    Calls Tryd.prog 3 #[v, v', .string (str s)] w fun e w' => e = .returned (.bool true) ∧ Ext w w' := by
  have s0 := str_size s
  have HV := Lib.hid h
  have HV' := Lib.hid h'
  obtain ⟨a, m, c, rfl, hr, hi⟩ := h
  obtain ⟨a', m', c', rfl, hr', hi'⟩ := h'
  obtain ⟨a0, c0, e, hc1, hc2⟩ := hr.slice
  injection e with e1 e2 e3
  subst e1 e2 e3
  obtain ⟨a0, c0, e, hc1', hc2'⟩ := hr'.slice
  injection e with e1 e2 e3
  subst e1 e2 e3
  have hb2 := BoxL.new (w.alloc (.cells #[.int .i64 p.flow, .slice a p.steps.length c] 24)) [.int .i64 q.flow, .slice a' q.steps.length c'] 24
  have hb1 := (BoxL.new w [.int .i64 p.flow, .slice a p.steps.length c] 24).ext ((Ext.refl _).alloc (.cells #[.int .i64 q.flow, .slice a' q.steps.length c'] 24))
  have hE : Ext w ((w.alloc (.cells #[.int .i64 p.flow, .slice a p.steps.length c] 24)).alloc (.cells #[.int .i64 q.flow, .slice a' q.steps.length c'] 24)) := ((Ext.refl w).alloc _).alloc _
  rw [show (w.alloc (.cells #[.int .i64 p.flow, .slice a p.steps.length c] 24)).heap.size = w.heap.size + 1 by simp] at hb2
  have HR := Lib.hid hr
  have HR' := Lib.hid hr'
  have HW := Lib.hid hw
  have d1 : decide ((30 : Int) < (p.steps.length : Int)) = false := by simp; omega
  have d2 : decide ((30 : Int) < (q.steps.length : Int)) = false := by simp; omega
  have d3 : decide ((500 : Int) < (s.length : Int)) = false := by simp; omega
  clear hr hr' hi hi' hw
  go_enter Tryd.func3, Tryd.ntmps3
  go_upto_region 1 with (fail)
  generalize (w.alloc (.cells #[.int .i64 p.flow, .slice a p.steps.length c] 24)).alloc (.cells #[.int .i64 q.flow, .slice a' q.steps.length c'] 24) = W1 at *
  have p0 := hb1.cell 0 _ rfl
  have p1 := hb1.cell 1 _ rfl
  have q0 := hb2.cell 0 _ rfl
  have q1 := hb2.cell 1 _ rfl
  have HE := Lib.hid hE
  have HB1 := Lib.hid hb1
  have HB2 := Lib.hid hb2
  have hz := hb2.lt
  clear hb1 hb2 hE
  go_wp2_with fail
  have pa1 := (HB1.out.ext ((Ext.refl W1).alloc (.cells #[] 27))).cell 1 _ rfl
  have qa1 := (HB2.out.ext ((Ext.refl W1).alloc (.cells #[] 27))).cell 1 _ rfl
  have HEA : Hid (Ext W1 (W1.alloc (.cells #[] 27)).drew) := Lib.hid ((Ext.refl W1).alloc _).drew
  have HO := Lib.hid (World.ownsRow_made W1 #[] 0 (base := W1.heap.size) (e := 27) (size := 2) (Nat.le_refl _) (by simp) rfl)
  have HDr := Lib.hid (Ext.refl W1).drew
  go_cut [37, 38, 39] from 31 to 39 (fun l n i w' => ∃ (A : Option Addr) (C : Nat), l = .slice A (p.steps.length + q.steps.length) C ∧ n = .int .i64 ((p.steps.length : Int) + (q.steps.length : Int)) ∧ i = .int .i64 0 ∧ Hid (OwnSt 27 W1.heap.size w' (.slice A (p.steps.length + q.steps.length) C) (p.steps ++ q.steps)) ∧ Hid (Ext W1 w'))
  case first =>
   go_region_law (first
    | (refine step_append_src (by rfl) (.tmp 31) (.tmp 33) 22 (by rfl) elem_step W1.heap.size (.slice (some ⟨W1.heap.size, 0, none⟩) 0 0) 0 [] (by rfl) HO.out (.slice a p.steps.length c) p.steps.length (stpsCells p.steps) (by rfl) (Src.steps HR.out (HE.out.trans HEA.out)) (by unfold maxLen; omega) (by omega) (by simp) ?_
       intro v1 w5 hown5 hgrow5 hat5
       have hE5 := HEA.out.grown hgrow5 (fun k e => by simp [Value.ownBlock] at e; omega)
       have E5 := Lib.hid hE5
       have qb1 := (HB2.out.ext hE5).cell 1 _ rfl
       have HO5 := Lib.hid hown5
       clear hown5 hgrow5 hat5 hE5)
    | (refine step_append_src (by rfl) (.tmp 34) (.tmp 36) 22 (by rfl) elem_step W1.heap.size v1 (0 + p.steps.length) ([] ++ stpsCells p.steps) (by rfl) HO5.out (.slice a' q.steps.length c') q.steps.length (stpsCells q.steps) (by rfl) (Src.steps HR'.out (HE.out.trans E5.out)) (by unfold maxLen; omega) (by omega) E5.out.size ?_
       intro v2 w6 hown6 hgrow6 hat6
       obtain ⟨A2, C2, rfl⟩ := own_slice hown6
       have hE6 := E5.out.grown hgrow6 (fun k e => (HO5.out.lt k e).1)
       have E6 := Lib.hid hE6
       have HO6 := Lib.hid hown6
       clear hown6 hgrow6 hat6 hE6))
   all_goals go_wp2_with fail
   all_goals go_meet
   all_goals (case rel => exact ⟨_, _, by first | rfl | simp, by first | rfl | simp, rfl, Lib.hid ⟨by have := HO6.out; rw [Nat.zero_add, List.nil_append] at this; rw [List.length_append, stpsCells_append]; exact this, fun y hy => by
      rcases List.mem_append.1 hy with hy | hy
      · exact stpRow_wf HR.out y hy
      · exact stpRow_wf HR'.out y hy⟩, E6⟩)
  case rest =>
  obtain ⟨A, C, rfl, rfl, rfl, HL, HEL⟩ := hcut
  have hB1 := HB1.out.ext HEL.out
  have hB2 := HB2.out.ext HEL.out
  have HB1 := Lib.hid hB1
  have HB2 := Lib.hid hB2
  have HE0 := Lib.hid (HE.out.trans HEL.out)
  rename World => W2
  clear hB1 hB2 p0 p1 q0 q1 d1 d2 d3
  have HLR := Lib.hid HL.out.row
  have hln : (p.steps ++ q.steps).length = p.steps.length + q.steps.length := List.length_append ..
  have HLN := Lib.hid hln
  have hll : (p.steps ++ q.steps).length ≤ 60 := by omega
  clear hln
  generalize hg : p.steps ++ q.steps = l at *
  have HG := Lib.hid hg
  clear hg HL
  generalize hn : p.steps.length + q.steps.length = N at *
  have HN : Hid ((p.steps.length : Int) + (q.steps.length : Int) = (N : Int)) := Lib.hid (by omega)
  rw [HN.out]
  have hNl : N = l.length := by have := HLN.out; omega
  subst hNl
  clear HLN HN hn
  apply_assumption
  go_wp2_with fail
  go_loopw [39] (fun i wr => ∃ k : Nat, k ≤ l.length ∧ i = .int .i64 k ∧ Hid (Ext W2 wr)) (fun i _ => l.length - (intOf i).toNat)
  case atStart => exact ⟨0, by omega, rfl, Lib.hid (Ext.refl W2)⟩
  case round =>
    obtain ⟨k, hk, rfl, HEr⟩ := hrel
    by_cases hlt : k < l.length
    · obtain ⟨b, off, rfl, hb, c0, c1, hs⟩ := stp_at HLR.out HEr.out k hlt
      have hs1 := hs.1
      clear hs
      generalize l[k] = x at *
      have hsz := str_size x.name
      have HEx := Lib.hid (HEr.out.alloc (.cells #[.string (str x.name), .int .i64 x.place] 27))
      by_cases hx : x.name.length ≤ 100
      · have hd : decide ((100 : Int) < (x.name.length : Int)) = false := by simp; omega
        go_wp2_with fail
        go_roundw
        case rel => exact ⟨k + 1, by omega, by go_num, HEx⟩
        case measure => simp [intOf]; omega
      · have hd : decide ((100 : Int) < (x.name.length : Int)) = true := by simp; omega
        go_wp2_with fail
        refine (awake12_any _ (HW.out.ext (HE0.out.trans HEx.out))).mono ?_
        rintro e w5 ⟨rfl, hE5⟩
        have HE5 := Lib.hid (HE0.out.trans (HEx.out.trans hE5))
        clear hE5
        go_wp2
        go_ret
        exact ⟨rfl, HE5.out⟩
    · have HE3 := Lib.hid (HE0.out.trans HEr.out)
      have HB1' := Lib.hid (HB1.out.ext HEr.out)
      have HB2' := Lib.hid (HB2.out.ext HEr.out)
      obtain rfl : k = l.length := by omega
      clear HEr HB1 HB2 HLR
      go_wp2_with fail
      refine (idParse_any s (by omega) wr (HW.out.ext HE3.out)).mono ?_
      intro e w4 hpo
      obtain ⟨v, rfl, hE4, a4, m4, c4, rfl, hO4, hf4⟩ := PathPost.path hpo
      have hEx := hE4.alloc (.cells #[.int .i64 (pthOr s).flow, .slice a4 m4 c4] 24)
      have hO5 := hO4.ext ((Ext.refl w4).alloc (.cells #[.int .i64 (pthOr s).flow, .slice a4 m4 c4] 24))
      have HV5 := Lib.hid (show PthV (w4.alloc (.cells #[.int .i64 (pthOr s).flow, .slice a4 m4 c4] 24)) (pthOr s) (.agg #[.int .i64 (pthOr s).flow, .slice a4 m4 c4]) from ⟨a4, m4, c4, rfl, hO5.row, hf4⟩)
      have HBX := Lib.hid (BoxL.new w4 [.int .i64 (pthOr s).flow, .slice a4 m4 c4] 24)
      have HE5 := Lib.hid (HE3.out.trans hEx)
      have HB1 := Lib.hid (HB1'.out.ext hEx)
      have HB2 := Lib.hid (HB2'.out.ext hEx)
      have HLX := Lib.hid (pthOr_len s)
      have HOK : Hid ((parseP s).isSome = true → showP (pthOr s) = s ∧ pthB (pthOr s) = true) := Lib.hid (fun h => by
        obtain ⟨x, hx⟩ := isSome_of h
        rw [pthOr_some hx]
        exact ⟨(parseP_show hx).2.1, (parseP_show hx).1⟩)
      clear hpo hE4 hEx hO4 hO5 hf4 HE3 HB1' HB2'
      generalize (parseP s).isSome = ok at *
      generalize pthOr s = x at *
      go_upto_region 10 with (fail)
      generalize w4.alloc (.cells #[.int .i64 x.flow, .slice a4 m4 c4] 24) = W5 at *
      generalize w4.heap.size = XB at *
      have x0 := HBX.out.cell 0 _ rfl
      have x1 := HBX.out.cell 1 _ rfl
      go_cut [65] from 54 to 65 (fun z w' => z = .bool false ∧ Hid (Ext W5 w'))
      case first =>
        cases ok with
        | false =>
          go_wp2_with fail
          go_meet
          case rel => exact ⟨rfl, Lib.hid (Ext.refl W5)⟩
        | true =>
          obtain ⟨ho1, ho2⟩ := HOK.out rfl
          have HO2 := Lib.hid ho2
          have HO1 := Lib.hid ho1
          clear ho1 ho2
          go_wp2_with fail
          refine (idShow_any x (by have := HLX.out; omega) W5 (HW.out.ext HE5.out) _ HV5.out).mono ?_
          rw [HO1.out]
          rintro e w6 ⟨rfl, hE6⟩
          have HE6 := Lib.hid hE6
          have y0 := (HBX.out.ext hE6).cell 0 _ rfl
          have y1 := (HBX.out.ext hE6).cell 1 _ rfl
          clear hE6 x0 x1
          go_wp2_with fail
          refine (idRight_any x w6 _ (HV5.out.ext HE6.out)).mono ?_
          rw [HO2.out]
          rintro e w7 ⟨rfl, hE7⟩
          have HE7 := Lib.hid (HE6.out.trans hE7)
          clear hE7 HE6
          go_wp2_with fail
          go_meet
          case rel => exact ⟨rfl, HE7⟩
      case rest =>
      obtain ⟨rfl, HEc⟩ := hcut
      rename World => W6
      have HE6 := Lib.hid (HE5.out.trans HEc.out)
      have HB1' := Lib.hid (HB1.out.ext HEc.out)
      have HB2' := Lib.hid (HB2.out.ext HEc.out)
      clear x0 x1 HBX HV5 HEc HB1 HB2 HE5 HOK HLX
      apply_assumption
      go_upto_region 12 with (fail)
      have HSC : Hid (∀ w', Ext W6 w' → (w'.cell? ⟨w.heap.size, 0, none⟩ = some (.int .i64 p.flow) ∧ w'.cell? ⟨w.heap.size, 1, none⟩ = some (.slice a p.steps.length c) ∧ w'.cell? ⟨w.heap.size + 1, 0, none⟩ = some (.int .i64 q.flow) ∧ w'.cell? ⟨w.heap.size + 1, 1, none⟩ = some (.slice a' q.steps.length c'))) := Lib.hid (fun w' h =>
        ⟨(HB1'.out.ext h).cell 0 _ rfl, (HB1'.out.ext h).cell 1 _ rfl, (HB2'.out.ext h).cell 0 _ rfl, (HB2'.out.ext h).cell 1 _ rfl⟩)
      have HDr : Hid (Ext W6 W6.drew) := Lib.hid (Ext.refl W6).drew
      have HL10 : Hid (p.steps.length ≤ 10000 ∧ q.steps.length ≤ 10000) := Lib.hid ⟨by omega, by omega⟩
      go_region_held3 (fun w' => w'.cell? ⟨w.heap.size, 0, none⟩ = some (.int .i64 p.flow) ∧ w'.cell? ⟨w.heap.size, 1, none⟩ = some (.slice a p.steps.length c) ∧ w'.cell? ⟨w.heap.size + 1, 0, none⟩ = some (.int .i64 q.flow) ∧ w'.cell? ⟨w.heap.size + 1, 1, none⟩ = some (.slice a' q.steps.length c'))
        (first | exact HSC.out _ (Ext.refl _) | exact HSC.out _ HDr.out | exact HSC.out _ E7.out | exact HSC.out _ E8.out)
        (first
          | (go_at_call_of 10 (#[.agg #[.int .i64 p.flow, .slice a p.steps.length c]] : Array Value)
             refine (idShow_any p HL10.out.1 _ (HW.out.ext (HE6.out.trans HDr.out)) _ (HV.out.ext (HE6.out.trans HDr.out))).mono ?_
             rintro e w7 ⟨rfl, hE7⟩
             have E7 := Lib.hid (HDr.out.trans hE7)
             clear hE7)
          | (go_at_call_of 10 (#[.agg #[.int .i64 q.flow, .slice a' q.steps.length c']] : Array Value)
             refine (idShow_any q HL10.out.2 _ (HW.out.ext (HE6.out.trans E7.out)) _ (HV'.out.ext (HE6.out.trans E7.out))).mono ?_
             rintro e w8 ⟨rfl, hE8⟩
             have E8 := Lib.hid (E7.out.trans hE8)
             clear hE8))
      have HE8 := Lib.hid (HE6.out.trans E8.out)
      have HB1 := Lib.hid (HB1'.out.ext E8.out)
      have HB2 := Lib.hid (HB2'.out.ext E8.out)
      clear E7 HDr HSC
      go_wp2_with fail
      refine (idRight_any p w8 _ (HV.out.ext HE8.out)).mono ?_
      rintro e w9 ⟨rfl, hE9⟩
      have HE9 := Lib.hid (HE8.out.trans hE9)
      have HB1' := Lib.hid (HB1.out.ext hE9)
      have HB2' := Lib.hid (HB2.out.ext hE9)
      clear hE9 HB1 HB2 HE8 E8
      cases hpb : pthB p with
      | false =>
        have hsp := showP_wrong hpb
        have he : (str (showP p)).toList.isEmpty = true := by rw [str_toList, hsp]; rfl
        clear hpb hsp
        generalize showP p = sp at *
        go_wp2_with fail
        refine (awake12_any _ (HW.out.ext HE9.out)).mono ?_
        rintro e w10 ⟨rfl, hE10⟩
        have HE10 := Lib.hid (HE9.out.trans hE10)
        clear hE10
        go_wp2
        go_ret
        exact ⟨rfl, HE10.out⟩
      | true =>
        have hsp := showP_right hpb
        have he : (str (showP p)).toList.isEmpty = false := by
          rw [str_toList, hsp]
          cases h : pthS p with
          | nil => exact absurd h (pthS_ne p)
          | cons _ _ => rfl
        cases hqb : pthB q with
        | false =>
          have hsq := showP_wrong hqb
          have he' : (str (showP q)).toList.isEmpty = true := by rw [str_toList, hsq]; rfl
          clear hpb hsp hqb hsq
          generalize showP p = sp at *
          generalize showP q = sq at *
          go_wp2_with fail
          refine (awake12_any _ (HW.out.ext HE9.out)).mono ?_
          rintro e w10 ⟨rfl, hE10⟩
          have HE10 := Lib.hid (HE9.out.trans hE10)
          clear hE10
          go_wp2
          go_ret
          exact ⟨rfl, HE10.out⟩
        | true =>
          have hsq := showP_right hqb
          have he' : (str (showP q)).toList.isEmpty = false := by
            rw [str_toList, hsq]
            cases h : pthS q with
            | nil => exact absurd h (pthS_ne q)
            | cons _ _ => rfl
          have hlen : (showP p).length ≤ 1000000 := showP_len (by omega)
          have HP2 := Lib.hid (show parseP (showP p) = if (showP p).length ≤ 400 then some p else none by
            rw [hsp]
            by_cases h : (pthS p).length ≤ 400
            · rw [if_pos h]; exact parseP_of hpb h
            · rw [if_neg h]
              cases e : parseP (pthS p) with
              | none => rfl
              | some x => exact absurd (parseP_show e).2.2.2.1 h)
          have HEQ := Lib.hid (show ((str (showP p)).toList == (str (showP q)).toList) = sameP p q by
            rw [str_beq, hsp, hsq]
            cases e : sameP p q with
            | true => rw [sameP_true.1 e]; simp
            | false => simpa using fun h => sameP_false.1 e (pthS_inj hpb hqb h))
          clear hpb hsp hqb hsq
          have hsz := str_size (showP p)
          generalize showP p = sp at *
          generalize showP q = sq at *
          go_wp2_with fail
          refine (idParse_any sp hlen w9 (HW.out.ext HE9.out)).mono ?_
          intro e w10 hpo
          obtain ⟨v, rfl, hE10, a5, m5, c5, rfl, hO5, hf5⟩ := PathPost.path hpo
          have hEx := hE10.alloc (.cells #[.int .i64 (pthOr sp).flow, .slice a5 m5 c5] 24)
          have hO6 := hO5.ext ((Ext.refl w10).alloc (.cells #[.int .i64 (pthOr sp).flow, .slice a5 m5 c5] 24))
          have HV5 := Lib.hid (show PthV (w10.alloc (.cells #[.int .i64 (pthOr sp).flow, .slice a5 m5 c5] 24)) (pthOr sp) (.agg #[.int .i64 (pthOr sp).flow, .slice a5 m5 c5]) from ⟨a5, m5, c5, rfl, hO6.row, hf5⟩)
          have HBX := Lib.hid (BoxL.new w10 [.int .i64 (pthOr sp).flow, .slice a5 m5 c5] 24)
          have HE11 := Lib.hid (HE9.out.trans hEx)
          have HB1 := Lib.hid (HB1'.out.ext hEx)
          have HB2 := Lib.hid (HB2'.out.ext hEx)
          clear hpo hE10 hEx hO5 hO6 hf5 HE9 HB1' HB2' he he'
          by_cases hl4 : sp.length ≤ 400
          · have hok : (parseP sp).isSome = true := by rw [HP2.out, if_pos hl4]; rfl
            have hpp : pthOr sp = p := pthOr_some (by rw [HP2.out, if_pos hl4])
            have hdl : decide ((sp.length : Int) ≤ 400) = true := by simp; omega
            rw [hok]
            have HV5 := Lib.hid (show PthV (w10.alloc (.cells #[.int .i64 p.flow, .slice a5 m5 c5] 24)) p (.agg #[.int .i64 p.flow, .slice a5 m5 c5]) by have := HV5.out; rw [hpp] at this; exact this)
            rw [hpp] at HBX HE11 HB1 HB2 ⊢
            clear hok hpp
            go_upto_region 18 with (fail)
            generalize w10.alloc (.cells #[.int .i64 p.flow, .slice a5 m5 c5] 24) = W10 at *
            generalize w10.heap.size = XB2 at *
            have p0 := HB1.out.cell 0 _ rfl
            have p1 := HB1.out.cell 1 _ rfl
            have x0 := HBX.out.cell 0 _ rfl
            have x1 := HBX.out.cell 1 _ rfl
            go_wp2_with fail
            refine (paths_any p p W10 _ _ HV5.out (HV.out.ext HE11.out)).mono ?_
            rw [show sameP p p = true from sameP_true.2 rfl]
            rintro e w11 ⟨rfl, hE11⟩
            have HE12 := Lib.hid (HE11.out.trans hE11)
            have p0 := (HB1.out.ext hE11).cell 0 _ rfl
            have p1 := (HB1.out.ext hE11).cell 1 _ rfl
            have q0 := (HB2.out.ext hE11).cell 0 _ rfl
            have q1 := (HB2.out.ext hE11).cell 1 _ rfl
            clear hE11 x0 x1
            go_wp2_with fail
            refine (paths_any p q w11 _ _ (HV.out.ext HE12.out) (HV'.out.ext HE12.out)).mono ?_
            rintro e w12 ⟨rfl, hE12⟩
            have HE13 := Lib.hid (HE12.out.trans hE12)
            clear hE12 p0 p1 q0 q1
            have heq := HEQ.out
            generalize sameP p q = b at *
            go_wp2_with fail
            refine (awake12_any _ (HW.out.ext HE13.out)).mono ?_
            rintro e w13 ⟨rfl, hE13⟩
            have HE14 := Lib.hid (HE13.out.trans hE13)
            clear hE13
            go_wp2
            go_ret
            exact ⟨rfl, HE14.out⟩
          · have hok : (parseP sp).isSome = false := by rw [HP2.out, if_neg hl4]; rfl
            have hdl : decide ((sp.length : Int) ≤ 400) = false := by simp; omega
            rw [hok]
            clear hok
            generalize (pthOr sp).flow = f5 at *
            go_upto_region 18 with (fail)
            generalize w10.alloc (.cells #[.int .i64 f5, .slice a5 m5 c5] 24) = W10 at *
            generalize w10.heap.size = XB2 at *
            have p0 := HB1.out.cell 0 _ rfl
            have p1 := HB1.out.cell 1 _ rfl
            have q0 := HB2.out.cell 0 _ rfl
            have q1 := HB2.out.cell 1 _ rfl
            go_wp2_with fail
            refine (paths_any p q W10 _ _ (HV.out.ext HE11.out) (HV'.out.ext HE11.out)).mono ?_
            rintro e w12 ⟨rfl, hE12⟩
            have HE13 := Lib.hid (HE11.out.trans hE12)
            clear hE12 p0 p1 q0 q1
            have heq := HEQ.out
            generalize sameP p q = b at *
            go_wp2_with fail
            refine (awake12_any _ (HW.out.ext HE13.out)).mono ?_
            rintro e w13 ⟨rfl, hE13⟩
            have HE14 := Lib.hid (HE13.out.trans hE13)
            clear hE13
            go_wp2
            go_ret
            exact ⟨rfl, HE14.out⟩
set_option maxRecDepth 100000 in
set_option maxHeartbeats 2000000 in
theorem identBack_any (w : World) (p : Pth) (v : Value) (h : PthV w p v) (q : Pth) (v' : Value) (h' : PthV w q v') (s : List UInt8) (hs : s.length ≤ 9223372036854775807) (hw : KW w) :
    Calls Tryd.prog 3 #[v, v', .string (str s)] w fun e w' => e = .returned (.bool true) ∧ Ext w w' := by
  by_cases hall : p.steps.length ≤ 30 ∧ q.steps.length ≤ 30 ∧ s.length ≤ 500
  · exact identBack_way w p q v v' h h' s hall.2.2 hall.1 hall.2.1 hw
  have s0 := str_size s
  obtain ⟨a, m, c, rfl, hr, hi⟩ := h
  obtain ⟨a', m', c', rfl, hr', hi'⟩ := h'
  obtain ⟨a0, c0, e, hc1, hc2⟩ := hr.slice
  injection e with e1 e2 e3
  subst e1 e2 e3
  obtain ⟨a0, c0, e, hc1', hc2'⟩ := hr'.slice
  injection e with e1 e2 e3
  subst e1 e2 e3
  have hb2 := BoxL.new (w.alloc (.cells #[.int .i64 p.flow, .slice a p.steps.length c] 24)) [.int .i64 q.flow, .slice a' q.steps.length c'] 24
  have hb1 := (BoxL.new w [.int .i64 p.flow, .slice a p.steps.length c] 24).ext ((Ext.refl _).alloc (.cells #[.int .i64 q.flow, .slice a' q.steps.length c'] 24))
  have HE := Lib.hid (show Ext w ((w.alloc (.cells #[.int .i64 p.flow, .slice a p.steps.length c] 24)).alloc (.cells #[.int .i64 q.flow, .slice a' q.steps.length c'] 24)) from ((Ext.refl w).alloc _).alloc _)
  rw [show (w.alloc (.cells #[.int .i64 p.flow, .slice a p.steps.length c] 24)).heap.size = w.heap.size + 1 by simp] at hb2
  have HAW := Lib.hid (awake12_any _ (hw.ext HE.out))
  clear hr hr' hi hi' hw
  go_enter Tryd.func3, Tryd.ntmps3
  go_upto_region 1 with (fail)
  generalize (w.alloc (.cells #[.int .i64 p.flow, .slice a p.steps.length c] 24)).alloc (.cells #[.int .i64 q.flow, .slice a' q.steps.length c'] 24) = W1 at *
  have p1 := hb1.cell 1 _ rfl
  have q1 := hb2.cell 1 _ rfl
  clear hb1 hb2
  by_cases h1 : p.steps.length ≤ 30
  · have d1 : decide ((30 : Int) < (p.steps.length : Int)) = false := by simp; omega
    by_cases h2 : q.steps.length ≤ 30
    · have d2 : decide ((30 : Int) < (q.steps.length : Int)) = false := by simp; omega
      have d3 : decide ((500 : Int) < (s.length : Int)) = true := by simp; omega
      clear hall
      go_wp2_with fail
      refine HAW.out.mono ?_
      rintro e w2 ⟨rfl, hE2⟩
      have HE2 := Lib.hid (HE.out.trans hE2)
      clear hE2
      go_wp2
      go_ret
      exact ⟨rfl, HE2.out⟩
    · have d2 : decide ((30 : Int) < (q.steps.length : Int)) = true := by simp; omega
      clear hall
      go_wp2_with fail
      refine HAW.out.mono ?_
      rintro e w2 ⟨rfl, hE2⟩
      have HE2 := Lib.hid (HE.out.trans hE2)
      clear hE2
      go_wp2
      go_ret
      exact ⟨rfl, HE2.out⟩
  · have d1 : decide ((30 : Int) < (p.steps.length : Int)) = true := by simp; omega
    clear hall
    go_wp2_with fail
    refine HAW.out.mono ?_
    rintro e w2 ⟨rfl, hE2⟩
    have HE2 := Lib.hid (HE.out.trans hE2)
    clear hE2
    go_wp2
    go_ret
    exact ⟨rfl, HE2.out⟩
end Go.Proofs.YtpcgpcjleedilaaDoor

namespace Fm
open Go Go.RowKit Go.ChangeShapes Go.WideShapes Go.ChangeAt

/-- What the reading of a slice of integers says: as the guide's skeleton has it. -/
def IsRow (k : IntKind) (w : World) (a : Option Addr) (len cap : Nat) (zs : List Int) : Prop :=
  (a = none ∧ len = 0 ∧ cap = 0 ∧ zs = []) ∨
  ∃ x, a = some x ∧ len ≤ cap ∧ cap ≤ maxLen ∧ zs.length = cap ∧ (∀ i, i < zs.length → w.cell? (x.add i) = some (.int k (zs.getD i 0))) ∧ ∀ n ∈ zs, (Lit.int k n).wf = true

theorem u8_of_wf {n : Int} (h : (Lit.int .u8 n).wf = true) : ((UInt8.ofNat n.toNat).toNat : Int) = n := by
  have : 0 ≤ n ∧ n ≤ 255 := by
    simp [Lit.wf, IntKind.min, IntKind.max, IntKind.signed, IntKind.bits] at h
    omega
  rw [toNat_ofNat_lt (by omega)]; omega

theorem i64_of_wf {n : Int} (h : (Lit.int .i64 n).wf = true) : isI64 n := by
  simp [Lit.wf, IntKind.min, IntKind.max, IntKind.signed, IntKind.bits] at h
  unfold isI64; omega

theorem IsRow.bytes {w : World} {a : Option Addr} {len cap : Nat} {zs : List Int} (h : IsRow .u8 w a len cap zs) :
    ∃ xs : List UInt8, xs.length = len ∧ Bytes w (.slice a len cap) xs := by
  rcases h with ⟨rfl, rfl, rfl, rfl⟩ | ⟨x, rfl, hl, hm, hz, hc, hw⟩
  · exact ⟨[], rfl, Bytes.nil w⟩
  · refine ⟨(zs.take len).map fun n => UInt8.ofNat n.toNat, by simp; omega, ?_⟩
    have hlen : ((zs.take len).map fun n => UInt8.ofNat n.toNat).length = len := by simp; omega
    refine ⟨some x, cap, by rw [hlen], by omega, hm, (fun h => by cases h), fun ad had h0 => ?_⟩
    cases had
    have h00 := hc 0 (by omega)
    have e0 : x.add 0 = x := by unfold Addr.add; rw [if_pos rfl]
    rw [e0] at h00
    have hs : x.spot = none := by
      cases hsp : x.spot with
      | none => rfl
      | some s =>
        unfold World.cell? at h00
        cases hb : w.heap[x.block]? with
        | none => rw [hb] at h00; cases h00
        | some o => rw [hb] at h00; cases o <;> simp [hsp] at h00
    refine ⟨hs, World.block_lt_of_cell? w x h00, fun j hj => ?_⟩
    have hj' : j < zs.length := by omega
    have hjl : j < len := by omega
    have hcj := hc j hj'
    have ea : x.add j = ⟨x.block, x.off + j, none⟩ := by
      unfold Addr.add; split
      · obtain ⟨b, o, s⟩ := x; simp at hs ⊢; exact ⟨by omega, hs⟩
      · rw [← hs]
    rw [ea] at hcj
    rw [hcj]
    have hg : zs.getD j 0 = zs[j] := by simp [List.getD, hj']
    have hwf := hw zs[j] (List.getElem_mem hj')
    rw [hg]
    simp [bv, hjl, hj']
    have := u8_of_wf hwf
    simp at this
    exact this.symm
end Fm

open Go.RowKit Go.Shelf
namespace Go.Proofs.YtpcgpcjleedilaaDoor
open Go Go.Proofs Fm

theorem errAt_of {W : World} {n : String} {g g' : Nat} {t : TypeId} {cs : Array Value} {f : Nat} {nm : String} {d : DataW Unit} {p : List MemPlace} (hn : Tryd.prog.globalNamed n = some g') (hty : (Tryd.prog.globals[g']?).map (·.type) = some 70)
    (hg : Tryd.prog.globalNamed n = some g) (ht : (Tryd.prog.globals[g]?).map (·.type) = some t) (hv : W.var? Tryd.prog n = some cs) (hd : DataW.trod (fun _ => ()) Tryd.prog W 0 (fun _ => true) false f t cs.toList = some (.iface nm d, p)) : ErrAt W g' := by
  obtain rfl := Option.some.inj (hn.symm.trans hg)
  obtain rfl := Option.some.inj (hty.symm.trans ht)
  obtain ⟨l⟩ := cs
  obtain ⟨f1, u, v, e, _, _⟩ := iface_of_trod Tryd.underlying70 hd
  subst e
  exact ⟨_, by simpa using World.var?_cell hg hv 0, .inr ⟨u, v, rfl⟩⟩
theorem kw_of {W : World} {g1 g2 g3 : Nat} {t1 t2 t3 : TypeId} {c1 c2 c3 : Array Value} {f1 f2 f3 : Nat} {nm2 nm3 : String} {d2 d3 : DataW Unit} {p1 p2 p3 : List MemPlace}
    (hg1 : Tryd.prog.globalNamed "internal/strconv.uint64pow10" = some g1) (ht1 : (Tryd.prog.globals[g1]?).map (·.type) = some t1) (hv1 : W.var? Tryd.prog "internal/strconv.uint64pow10" = some c1) (hd1 : DataW.trod (fun _ => ()) Tryd.prog W 0 (fun _ => true) false f1 t1 c1.toList = some (Lib.tabData .u64 Lib.pow10Tab, p1))
    (hg2 : Tryd.prog.globalNamed "strconv.ErrSyntax" = some g2) (ht2 : (Tryd.prog.globals[g2]?).map (·.type) = some t2) (hv2 : W.var? Tryd.prog "strconv.ErrSyntax" = some c2) (hd2 : DataW.trod (fun _ => ()) Tryd.prog W 0 (fun _ => true) false f2 t2 c2.toList = some (.iface nm2 d2, p2))
    (hg3 : Tryd.prog.globalNamed "strconv.ErrRange" = some g3) (ht3 : (Tryd.prog.globals[g3]?).map (·.type) = some t3) (hv3 : W.var? Tryd.prog "strconv.ErrRange" = some c3) (hd3 : DataW.trod (fun _ => ()) Tryd.prog W 0 (fun _ => true) false f3 t3 c3.toList = some (.iface nm3 d3, p3)) : KW W := by
  refine ⟨?_, errAt_of (by kernel_rfl) (by kernel_rfl) hg2 ht2 hv2 hd2, errAt_of (by kernel_rfl) (by kernel_rfl) hg3 ht3 hv3 hd3⟩
  have hg : Tryd.prog.globalNamed "internal/strconv.uint64pow10" = some 5 := by kernel_rfl
  have hty : (Tryd.prog.globals[5]?).map (·.type) = some 155 := by kernel_rfl
  obtain rfl := Option.some.inj (hg.symm.trans hg1)
  obtain rfl := Option.some.inj (hty.symm.trans ht1)
  unfold Tab Lib.TabIs
  rw [hv1]
  congr 1
  have h := Lib.cells_of_tab Tryd.underlying155 Tryd.underlying134 (by kernel_rfl) (by kernel_rfl) hd1
  rw [← h]
end Go.Proofs.YtpcgpcjleedilaaDoor

namespace Fm
open Go Go.RowKit Go.ChangeShapes Go.WideShapes Go.ChangeAt

/-- What reads as data of that type lies so. -/
def Elem.Reads {α : Type} (E : Elem α) (P : Program) (T : TypeId) : Prop :=
  ∀ {H : Type} (enc : TypeId × Value → H) (W : World) (base : Nat) (spare : Nat → Bool) (held : Bool) (fuel : Nat) (cs : List Value) (x : DataW H × List MemPlace),
    DataW.trod enc P W base spare held fuel T cs = some x → ∃ a : α, E.R W a (fun j => cs.getD j .nilFunc)
theorem reads_str {P : Program} {T : TypeId} (hT : P.underlying T = some .string) : strE.Reads P T := by
  intro H enc W base spare held fuel cs x h
  obtain ⟨s, rfl, -, hw⟩ := DataW.trod_string hT h
  refine ⟨s.data.toList, ?_, ?_⟩
  · show Value.string s = _
    rw [str_eta]
  · have e : s.data.toList.length = s.size := by rw [Array.length_toList]; rfl
    unfold maxLen at hw; omega
theorem reads_int {P : Program} {T : TypeId} (hT : P.underlying T = some (.int .i64)) : intE.Reads P T := by
  intro H enc W base spare held fuel cs x h
  obtain ⟨n, rfl, -, hw⟩ := DataW.trod_int hT h
  exact ⟨n, rfl, i64_of_wf hw⟩
theorem reads_slice {α : Type} {E : Elem α} {P : Program} {T e : TypeId} (hT : P.underlying T = some (.slice e)) (hsz : P.cellsOf e = E.sz) (hE : E.Reads P e) (hp : 0 < E.sz) : (rowE E).Reads P T := by
  intro H enc W base spare held fuel cs x h
  rcases DataW.trod_slice hT h with ⟨rfl, -⟩ | ⟨a, len, cap, elems, rest, m, hm, rfl, -, hba, hlc, hcm, hel, hat, -, -⟩
  · exact ⟨[], Elem.Row.void E W none⟩
  · have key : ∀ k, k ≤ len → ∃ l : List α, l.length = k ∧ ∀ i (hi : i < l.length), ∃ c : Nat → Value, E.R W l[i] c ∧ ∀ j, j < E.sz → W.cell? ((a.add (i * E.sz)).add j) = some (c j) := by
      intro k
      induction k with
      | zero => exact fun _ => ⟨[], rfl, fun i hi => by simp at hi⟩
      | succ k ih =>
        intro hk
        obtain ⟨l, hl, hr⟩ := ih (by omega)
        have h1 := hat k (by omega)
        rw [hsz, List.getElem?_eq_getElem (by omega)] at h1
        obtain ⟨cs', hc', ht'⟩ := Option.bind_eq_some_iff.1 h1
        obtain ⟨t, ht⟩ := hE enc W base spare held m cs' _ ht'
        obtain ⟨_, hl4, hcell⟩ := World.cells?_some hc'
        refine ⟨l ++ [t], by simp [hl], fun i hi => ?_⟩
        by_cases hik : i < l.length
        · rw [List.getElem_append_left hik]; exact hr i hik
        · have e : i = l.length := by simp at hi; omega
          subst e
          rw [List.getElem_append_right (by omega)]
          simp only [Nat.sub_self, List.getElem_cons_zero]
          refine ⟨_, ht, fun j hj => ?_⟩
          rw [hl, hcell j hj, List.getD_eq_getElem?_getD, List.getElem?_eq_getElem (by omega)]
          rfl
    obtain ⟨l, hl, hr⟩ := key len (Nat.le_refl _)
    refine ⟨l, ?_⟩
    show E.Row W l (.slice (some a) len cap)
    by_cases h0 : len = 0
    · have : l = [] := List.eq_nil_of_length_eq_zero (by omega)
      subst this h0
      exact ⟨some a, cap, rfl, by simp, hcm, (fun h => by cases h), fun _ _ => .nilFunc, fun h => by simp at h, fun i hi => by simp at hi⟩
    · obtain ⟨c, _, h00⟩ := hr 0 (by omega)
      have h00 := h00 0 hp
      rw [Nat.zero_mul] at h00
      have ea : (a.add 0).add 0 = a := by unfold Addr.add; rw [if_pos rfl, if_pos rfl]
      rw [ea] at h00
      have hs0 : a.spot = none := by
        cases hsp : a.spot with
        | none => rfl
        | some s =>
          unfold World.cell? at h00
          cases hb : W.heap[a.block]? with
          | none => rw [hb] at h00; cases h00
          | some o => rw [hb] at h00; cases o <;> simp [hsp] at h00
      obtain ⟨b, off, spot⟩ := a
      simp only at hs0
      subst hs0
      refine Elem.Row.mk hl.symm (by omega) hcm (World.block_lt_of_cell? W _ h00) (fun i hi => ?_)
      obtain ⟨c, h1, h2⟩ := hr i hi
      refine ⟨c, h1, fun j hj => ?_⟩
      have := h2 j hj
      rw [Addr.add_lit, Addr.add_lit, Nat.add_assoc] at this
      exact this
end Fm

namespace Go.Proofs.YtpcgpcjleedilaaDoor
open Go Go.Proofs Fm Go.RowKit Go.ChangeShapes Go.WideShapes Go.ChangeAt

set_option maxRecDepth 100000 in
theorem fieldsStp : Tryd.prog.underlying 27 = some (.struct #[⟨"Name", 9, 0, false, "", "", 0⟩, ⟨"At", 3, 1, false, "", "", 16⟩]) := by kernel_rfl
set_option maxRecDepth 100000 in
theorem fieldsPth : Tryd.prog.underlying 24 = some (.struct #[⟨"Flow", 3, 0, false, "", "", 0⟩, ⟨"Steps", 22, 1, false, "", "", 8⟩]) := by kernel_rfl
theorem cellsP_stp : Tryd.prog.cellsOf 27 = 2 := by kernel_rfl
theorem cellsP_pth : Tryd.prog.cellsOf 24 = 2 := by kernel_rfl
theorem cellsP_str : Tryd.prog.cellsOf 9 = 1 := by kernel_rfl
theorem cellsP_int : Tryd.prog.cellsOf 3 = 1 := by kernel_rfl
theorem cellsP_stps : Tryd.prog.cellsOf 22 = 1 := by kernel_rfl
set_option maxRecDepth 100000 in
theorem reads_stp : stpE.Reads Tryd.prog 27 := by
  intro H enc W base spare held fuel cs x h
  obtain ⟨xs, n, hfuel, hx, hlen, hxs, hf⟩ := DataW.trod_struct fieldsStp h
  rw [cellsP_stp] at hlen
  match cs, hlen with
  | [v0, v1], _ =>
  have g0 : DataW.trod enc Tryd.prog W base spare held n 9 (([v0, v1].drop 0).take (Tryd.prog.cellsOf 9)) = xs[0]? := hf 0 _ rfl
  have g1 : DataW.trod enc Tryd.prog W base spare held n 3 (([v0, v1].drop 1).take (Tryd.prog.cellsOf 3)) = xs[1]? := hf 1 _ rfl
  rw [cellsP_str] at g0
  rw [cellsP_int] at g1
  match xs, hxs with
  | [y0, y1], _ =>
  obtain ⟨a0, r0, l0⟩ := reads_str Tryd.underlying9 enc W base spare held n [v0] y0 g0
  obtain ⟨a1, r1, l1⟩ := reads_int Tryd.underlying3 enc W base spare held n [v1] y1 g1
  exact ⟨⟨a0, a1⟩, r0, r1, l0, l1⟩
theorem reads_stps : (rowE stpE).Reads Tryd.prog 22 := reads_slice Tryd.underlying22 cellsP_stp reads_stp (by decide)
set_option maxRecDepth 100000 in
/-- A path that is handed in by value. -/
theorem pthv_of_val {H : Type} {enc : TypeId × Value → H} {W : World} {r : Reach} {b0 base : Nat} {spare : Nat → Bool} {held : Bool} {v : Value} {d : DataW H} {p : List MemPlace} (hv : Value.okWide Tryd.prog W r b0 24 v)
    (h : DataW.Trod enc Tryd.prog W base spare held 24 v d p) : ∃ x, PthV W x v := by
  obtain ⟨cs, rfl, hsz⟩ := okWide_struct fieldsPth hv
  obtain ⟨fuel, hf⟩ := h
  obtain ⟨xs, n, hfuel, hx, hlen, hxs, hf'⟩ := DataW.trod_struct fieldsPth (show DataW.trod enc Tryd.prog W base spare held fuel 24 cs.toList = some (d, p) by simpa [Value.cells] using hf)
  rw [cellsP_pth] at hlen
  match hcs : cs.toList, hlen with
  | [v0, v1], _ =>
  rw [hcs] at hf'
  have g0 : DataW.trod enc Tryd.prog W base spare held n 3 (([v0, v1].drop 0).take (Tryd.prog.cellsOf 3)) = xs[0]? := hf' 0 _ rfl
  have g1 : DataW.trod enc Tryd.prog W base spare held n 22 (([v0, v1].drop 1).take (Tryd.prog.cellsOf 22)) = xs[1]? := hf' 1 _ rfl
  rw [cellsP_int] at g0
  rw [cellsP_stps] at g1
  match xs, hxs with
  | [y0, y1], _ =>
  obtain ⟨a0, r0, l0⟩ := reads_int Tryd.underlying3 enc W base spare held n [v0] y0 g0
  obtain ⟨a1, r1⟩ := reads_stps enc W base spare held n [v1] y1 g1
  obtain ⟨a, c, e, _⟩ := Elem.Row.slice r1
  have ecs : cs = #[v0, v1] := by rw [← hcs]
  have e0 : v0 = .int .i64 a0 := r0
  have e1 : v1 = .slice a a1.length c := e
  have r1' : stpE.Row W a1 v1 := r1
  refine ⟨⟨a0, a1⟩, a, a1.length, c, ?_, by rw [← e1]; exact r1', l0⟩
  rw [ecs, e0, e1]
end Go.Proofs.YtpcgpcjleedilaaDoor
