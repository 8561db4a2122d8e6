/- Walks: Copy. -/
import Derived.Test.YtdienbcjfljjnaaDoorVaM
open Go.RowKit Go.Shelf
namespace Go.Proofs.YtdienbcjfljjnaaDoor
open Go Go.Proofs Fm

/-- What Copy comes to. -/
def CopyPost (w : World) (t : Tr) (e : Ending) (w' : World) : Prop := ∃ v, e = .returned v ∧ Ext w w' ∧ OwnT 45 w' w.heap.size t v
theorem CopyPost.two {w : World} {k : UInt8} {n : Int} {s : List UInt8} {l : List Tr} {e : Ending} {w' : World} (h : CopyPost w (.node k n s l) e w') :
    ∃ (a4 : Option Addr) (n4 c4 : Nat), e = .returned (.agg #[.int .u8 (k.toNat : Int), .int .i64 n, .string (str s), .slice a4 n4 c4]) ∧ Ext w w' ∧
      OwnT 45 w' w.heap.size (.node k n s l) (.agg #[.int .u8 (k.toNat : Int), .int .i64 n, .string (str s), .slice a4 n4 c4]) := by
  obtain ⟨v, he, h1, F, h3⟩ := h
  obtain ⟨d, rfl, _, _, h4⟩ := h3.parts
  obtain ⟨a, c, rfl⟩ := h4.slice
  exact ⟨a, _, c, he, h1, F, h3⟩

set_option maxRecDepth 100000 in
set_option maxHeartbeats 4000000 in
theorem copy_any (t : Tr) : ∀ (w : World) (v : Value), Lies w t v → partsT t ≤ 1000000 → Calls Tryd.prog 47 #[v] w (CopyPost w t) := by
  induction t using Tr.ind with
  | h k n s l ih =>
  intro w v hv hp
  have IH := Lib.hid ih
  obtain ⟨d, rfl, hn, hs, hl⟩ := hv.parts
  have ⟨a, cap, hd, h1, h2, h3, C, h4, h5⟩ := hl
  subst hd
  rw [partsT_node] at hp
  have hll : l.length ≤ 1000000 := by have := partsL_len l; omega
  have H4 := Lib.hid h4; have H5 := Lib.hid h5
  have HN := Lib.hid hn; have HS := Lib.hid hs
  clear h1 h2 h3 h4 h5 hl hn hv hs ih
  generalize hK : (k.toNat : Int) = K at *
  have HK := Lib.hid hK
  clear hK
  go_enter Tryd.func47, Tryd.ntmps47
  go_wp2_with fail
  have hE0 : Ext w ((w.alloc (.cells #[.int .u8 K, .int .i64 n, .string (str s), .slice none 0 0] 45)).alloc (.cells #[.int .u8 0, .int .i64 0, .string { data := #[] }, .slice none 0 0] 45)) := ((Ext.refl w).alloc _).alloc _
  have hz0 : ((w.alloc (.cells #[.int .u8 K, .int .i64 n, .string (str s), .slice none 0 0] 45)).alloc (.cells #[.int .u8 0, .int .i64 0, .string { data := #[] }, .slice none 0 0] 45)).heap.size = w.heap.size + 2 := by simp
  have hb0 : Box4 ((w.alloc (.cells #[.int .u8 K, .int .i64 n, .string (str s), .slice none 0 0] 45)).alloc (.cells #[.int .u8 0, .int .i64 0, .string { data := #[] }, .slice none 0 0] 45)) w.heap.size (.int .u8 K) (.int .i64 n) (.string (str s)) (.slice none 0 0) := (Box4.new w _ _ _ _).ext ((Ext.refl _).alloc _)
  have hB0 : Box4 ((w.alloc (.cells #[.int .u8 K, .int .i64 n, .string (str s), .slice none 0 0] 45)).alloc (.cells #[.int .u8 0, .int .i64 0, .string { data := #[] }, .slice none 0 0] 45)) (w.heap.size + 1) (.int .u8 0) (.int .i64 0) (.string { data := #[] }) (.slice none 0 0) := by
    have := Box4.new (w.alloc (.cells #[.int .u8 K, .int .i64 n, .string (str s), .slice none 0 0] 45)) (.int .u8 0) (.int .i64 0) (.string { data := #[] }) (.slice none 0 0)
    rw [show (w.alloc (.cells #[.int .u8 K, .int .i64 n, .string (str s), .slice none 0 0] 45)).heap.size = w.heap.size + 1 by simp] at this
    exact this
  generalize (w.alloc (.cells #[.int .u8 K, .int .i64 n, .string (str s), .slice none 0 0] 45)).alloc (.cells #[.int .u8 0, .int .i64 0, .string { data := #[] }, .slice none 0 0] 45) = W at *
  go_loopw [11] (fun i wr => ∃ (j : Nat) (d : Value), j ≤ l.length ∧ i = .int .i64 j ∧ Ext w wr ∧ Box4 wr w.heap.size (.int .u8 K) (.int .i64 n) (.string (str s)) d ∧ Box4 wr (w.heap.size + 1) (.int .u8 0) (.int .i64 0) (.string { data := #[] }) (.slice none 0 0) ∧
    Hid (OwnL 45 wr (w.heap.size + 2) (l.take j) d) ∧ w.heap.size + 2 ≤ wr.heap.size) (fun i _ => l.length - (intOf i).toNat)
  case atStart => exact ⟨0, _, by omega, rfl, hE0, hb0, hB0, Lib.hid (by rw [List.take_zero]; exact OwnL.nil _ _ _), by omega⟩
  case round =>
    obtain ⟨j, d, hj, rfl, hE, hb, hB, HO, hbr⟩ := hrel
    clear hE0 hb0 hB0 hz0
    have hlt0 := hb.lt
    obtain ⟨ad, cd, rfl⟩ : ∃ a cap, d = .slice a j cap := by
      obtain ⟨F, h⟩ := HO.out
      obtain ⟨a, c, h⟩ := h.slice
      rw [List.length_take, Nat.min_eq_left hj] at h
      exact ⟨a, c, h⟩
    by_cases hlt : j < l.length
    · obtain ⟨b, off, rfl, hbb, hc⟩ := H4.out (by omega)
      obtain ⟨k0, n0, s0, a0, m0, c0, e0, e1, e2, e3, hx⟩ := elem4 hE hbb hc H5.out j hlt
      obtain ⟨b0, b1, b2, b3⟩ := hb.cells
      obtain ⟨z0, z1, z2, z3⟩ := hb.frozen
      have hpj : partsT l[j] ≤ 1000000 := by
        have h1 := partsL_at l j hlt
        have h2 := partsL_take_le l (j + 1)
        omega
      obtain ⟨xsr, hrow⟩ := HO.out.row
      have hrow0 : wr.ownsRow (w.heap.size + 2) 45 4 (.slice ad j cd) j xsr := by
        rw [List.length_take, Nat.min_eq_left hj] at hrow; exact hrow
      have hRo : ∀ k, (Value.slice ad j cd).ownBlock = some k → w.heap.size + 2 ≤ k := fun k hk => (hrow0.lt k hk).1
      have HRow := Lib.hid hrow0
      have HRo := Lib.hid hRo
      obtain ⟨i0, hi0, hz0, hz1, hz2⟩ := info_parts info_val
      have HL1 : Hid (j + 1 ≤ maxLen) := Lib.hid (by unfold maxLen; omega)
      obtain ⟨tt, htt⟩ : ∃ tt, tt = l[j] := ⟨_, rfl⟩
      have HTK : Hid (l.take j ++ [tt] = l.take (j + 1)) := Lib.hid (by rw [htt, List.take_add_one, List.getElem?_eq_getElem hlt]; rfl)
      have hm : tt ∈ l := by rw [htt]; exact List.getElem_mem hlt
      rw [← htt] at hx hpj
      clear htt
      have IHj := Lib.hid (IH.out tt hm)
      clear hm
      obtain ⟨kt, nt, st, lt⟩ := tt
      have IH2 : Hid (∀ wx, Ext wr wx → Calls Tryd.prog 47 #[.agg #[.int .u8 k0, .int .i64 n0, .string s0, .slice a0 m0 c0]] wx (fun e w' =>
          ∃ (a4 : Option Addr) (n4 c4 : Nat), e = .returned (.agg #[.int .u8 (kt.toNat : Int), .int .i64 nt, .string (str st), .slice a4 n4 c4]) ∧ Ext wx w' ∧
            OwnT 45 w' wx.heap.size (.node kt nt st lt) (.agg #[.int .u8 (kt.toNat : Int), .int .i64 nt, .string (str st), .slice a4 n4 c4]))) :=
        Lib.hid (fun wx hE => (IHj.out wx _ (hx.ext hE) hpj).mono (fun e w' h => CopyPost.two h))
      have hXE : Hid (∀ o : Obj, Ext wr (wr.alloc o)) := Lib.hid (fun o => (Ext.refl wr).alloc o)
      have hzW : ∀ o : Obj, (wr.alloc o).heap.size = wr.heap.size + 1 := fun o => by simp
      have HZW := Lib.hid hzW
      clear hrow hrow0 hRo hx hc hzW
      go_wp2_with fail
      go_region_law (first
        | (refine step_append_lies _ (by rfl) _ _ _ (by rfl) (w.heap.size + 2) 45 i0 _ 4 56 Tryd.underlying43 hi0 hz0 hz1 hz2 rfl (by omega) (.slice ad j cd) j xsr (by rfl) HR6.out ⟨w4.heap.size, 0, none⟩ 1 1 [.int .u8 (kt.toNat : Int), .int .i64 nt, .string (str st), .slice a4 n4 c4] (by rfl) (by rfl) (World.news_of_block (cs := #[.int .u8 (kt.toNat : Int), .int .i64 nt, .string (str st), .slice a4 n4 c4]) (t := 45) (fr := (0, 0)) (heap_alloc_new w4 _)) (by simp [Value.oneCell']) (by omega) HL1.out (by omega) (by simp; omega) (w4.heap.size + 1) (by simp) ?_
           intro gg cap6 w6 hown6 hgrow6 hat6 hlt6
           have S6 := (hgrow6.cell_far ⟨w.heap.size, 3, none⟩ (by simp; omega) (fun e => by have := HRo.out _ e.symm; simp at this; omega)).trans ((((Ext.refl w4).alloc _).cell (p := ⟨w.heap.size, 3, none⟩) hV4).trans S4)
           have S6' := (hgrow6.frozen_far ⟨w.heap.size, 3, none⟩ (by simp; omega) (fun e => by have := HRo.out _ e.symm; simp at this; omega)).trans ((((Ext.refl w4).alloc _).frozen (p := ⟨w.heap.size, 3, none⟩) hV4).trans S4'))
        | (go_simp
           go_at_call 47
           refine (IH2.out _ ?_).mono ?_
           · exact (hXE.out _).drew
           rintro e w4 ⟨a4, n4, c4, rfl, hE4', ho4⟩
           have hE4 := ((hXE.out (.cells #[.int .u8 k0, .int .i64 n0, .string s0, .slice a0 m0 c0] 45)).drew).trans hE4'
           have hV4 : w.heap.size < w4.heap.size := Nat.lt_of_lt_of_le hlt0 hE4.size
           have S4 := (hE4.cell (p := ⟨w.heap.size, 3, none⟩) hlt0).trans b3
           have S4' := (hE4.frozen (p := ⟨w.heap.size, 3, none⟩) hlt0).trans z3
           have hbr4 := hE4.size
           have HR6 : Hid ((w4.alloc (.cells #[.int .u8 (kt.toNat : Int), .int .i64 nt, .string (str st), .slice a4 n4 c4] 45)).ownsRow (w.heap.size + 2) 45 4 (.slice ad j cd) j xsr) := Lib.hid ((hE4.own HRow.out).alloc _)
           have HO4 := Lib.hid ho4
           clear ho4 hE4'))
      all_goals
        obtain ⟨y1, y2, y3, y4, y5⟩ := list_step2 (V := w.heap.size) (Pb := w.heap.size + 1) (base := w.heap.size + 2) (by omega) (by omega) (by omega) (Nat.le_refl _) hE hb hB (by rw [List.length_take]; omega) HO.out hbr hE4
          (by have := HZW.out (.cells #[.int .u8 k0, .int .i64 n0, .string s0, .slice a0 m0 c0] 45); show wr.heap.size ≤ (wr.alloc (.cells #[.int .u8 k0, .int .i64 n0, .string s0, .slice a0 m0 c0] 45)).heap.size; omega) HO4.out HR6.out hown6 hgrow6 hat6
        have Y4 : Hid (OwnL 45 (w6.setCell ⟨w.heap.size, 3, none⟩ (.slice (some ⟨gg, 0, none⟩) (j + 1) cap6)) (w.heap.size + 2) (l.take (j + 1)) (.slice (some ⟨gg, 0, none⟩) (j + 1) cap6)) := Lib.hid (by rw [← HTK.out]; exact y4)
        have Y5 : w.heap.size + 2 ≤ (w6.setCell ⟨w.heap.size, 3, none⟩ (.slice (some ⟨gg, 0, none⟩) (j + 1) cap6)).heap.size := by omega
        clear y4 y5 S6 S6' S4 S4' HR6 HO4 hown6 hgrow6 hat6 hlt6 hV4 hE4 hbr4 HRow HRo HO IH2 IHj b0 b1 b2 b3 z0 z1 z2 z3 hb hB hE e0 e1 e2 e3 hXE HZW HTK
        go_wp2
        go_roundw
        case rel => exact ⟨j + 1, _, by omega, by go_num, y1, y2, y3, Y4, Y5⟩
        case measure => simp [intOf]; omega
    · obtain rfl : j = l.length := by omega
      obtain ⟨d0, d1, d2, d3⟩ := hb.cells
      obtain ⟨e0, e1, e2, e3⟩ := hb.frozen
      obtain ⟨p0, p1, p2, p3⟩ := hB.cells
      obtain ⟨q0, q1, q2, q3⟩ := hB.frozen
      have HE := Lib.hid hE
      have HBB := Lib.hid hB
      clear hb hB hE H4
      go_wp2
      change bodyPost _ _ _ _ _ (set4W wr (w.heap.size + 1) (.int .u8 K) (.int .i64 n) (.string (str s)) (.slice ad l.length cd))
      obtain ⟨hE2, hb2, hg2⟩ := set4_facts (k := .int .u8 K) (n := .int .i64 n) (s := .string (str s)) (d := .slice ad l.length cd) HE.out HBB.out (by omega)
      have hO2 := HO.out.grown hg2 (fun b hb => by injection hb with hb; omega)
      generalize set4W wr (w.heap.size + 1) (.int .u8 K) (.int .i64 n) (.string (str s)) (.slice ad l.length cd) = W3 at *
      obtain ⟨y0, y1, y2, y3⟩ := hb2.cells
      refine bodyPost_ret (v := .agg #[.int .u8 K, .int .i64 n, .string (str s), .slice ad l.length cd]) (by simp [results, Tryd.results47, go_sem, y0, y1, y2, y3]) rfl ?_
      rw [List.take_length] at hO2
      have hO3 := (OwnT.mk (k := k) HN.out HS.out hO2).mono (show w.heap.size ≤ w.heap.size + 2 by omega)
      rw [HK.out] at hO3
      exact ⟨_, rfl, hE2, hO3⟩
end Go.Proofs.YtdienbcjfljjnaaDoor
