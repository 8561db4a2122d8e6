/- Walks: the reference's Same. -/
import Derived.Test.YtdienbcjfljjnaaGreatDoorFragE
import Derived.Deep.RegionHeld3
import Derived.Deep.CutRange
open Go.RowKit Go.Shelf
namespace Go.Proofs.YtdienbcjfljjnaaGreatDoor
open Go Go.Proofs Fm

set_option maxRecDepth 100000 in
set_option maxHeartbeats 8000000 in
theorem rfSame_any (l l' : List It) (w : World) (v x : Value) (hv : itE.Row w l v) (hx : itE.Row w l' x) :
    Calls Tryz.prog 68 #[v, x] w fun e w' => e = .returned (.bool (eqF l l')) ∧ Ext w w' := by
  obtain ⟨a, cap, rfl, h1, h2⟩ := hv.slice
  obtain ⟨a', cap', rfl, h1', h2'⟩ := hx.slice
  have HR := Lib.hid hv
  have HR' := Lib.hid hx
  have hll : l.length ≤ 9223372036854775807 := by omega
  have hll' : l'.length ≤ 9223372036854775807 := by omega
  clear hv hx h1 h2 h1' h2'
  by_cases hl : l.length = l'.length
  case neg =>
    have f3 : ((l.length : Int) != (l'.length : Int)) = true := by rw [bne, Bool.not_eq_true']; simp; omega
    have HX := Lib.hid (eqF_ne (l := l) (m := l') (fun e => hl (by rw [e])))
    clear hl
    go_enter Tryz.func68, Tryz.ntmps68
    go_wp2
    go_ret
    exact ⟨by rw [HX.out]; rfl, Ext.refl w⟩
  have f3 : ((l.length : Int) != (l'.length : Int)) = false := by rw [hl]; simp
  have HL := Lib.hid hl
  clear hl
  go_enter Tryz.func68, Tryz.ntmps68
  go_wp2_with fail
  clear f3
  go_loopw [5] (fun i wr => ∃ j : Nat, j ≤ l.length ∧ i = .int .i64 j ∧ Hid (l.take j = l'.take j) ∧ Ext w wr) (fun i _ => l.length - (intOf i).toNat)
  case atStart => exact ⟨0, by omega, rfl, by simp [Hid], Ext.refl _⟩
  case round =>
    obtain ⟨j, hj, rfl, HA, hE⟩ := hrel
    by_cases hlt : j < l.length
    case neg =>
      have hj' : j = l.length := by omega
      have HA2 : Hid (eqF l l' = true) := Lib.hid (eqF_iff.2 (by have := HA.out; rw [hj', List.take_length, HL.out, List.take_length] at this; exact this))
      clear hj'
      go_wp2
      go_ret
      exact ⟨by rw [HA2.out]; rfl, hE⟩
    have hlt' : j < l'.length := by have := HL.out; omega
    have hj0 : (0 : Int) ≤ (j : Int) := by omega
    have hj1 : (j : Int) < (l.length : Int) := by omega
    have hj1' : (j : Int) < (l'.length : Int) := by omega
    obtain ⟨b, off, rfl, hb, aa, m, cc, c0, c1, c2, c3, c4, c5, hs⟩ := it_at HR.out hE j hlt
    obtain ⟨b', off', rfl, hb', aa', m', cc', d0, d1, d2, d3, d4, d5, hs'⟩ := it_at HR'.out hE j hlt'
    have hz := Nat.lt_of_lt_of_le hb hE.size
    have hz' := Nat.lt_of_lt_of_le hb' hE.size
    have HS := Lib.hid (hs.ext hE)
    have HS' := Lib.hid (hs'.ext hE)
    obtain ⟨x, hx⟩ : ∃ x, x = l[j] := ⟨_, rfl⟩
    obtain ⟨y, hy⟩ : ∃ y, y = l'[j] := ⟨_, rfl⟩
    rw [← hx] at c0 c1 c3 c4 c5 HS
    rw [← hy] at d0 d1 d3 d4 d5 HS'
    have HXj := Lib.hid hx
    have HYj := Lib.hid hy
    have ek : ((x.kind.toNat : Int) == (y.kind.toNat : Int)) = decide (x.kind = y.kind) := by rw [u8_eq]
    have HKx : Hid ((x.kind.toNat : Int) = x.kind.toNat) := Lib.hid rfl
    clear hs hs' hb hb' hx hy
    generalize (x.kind.toNat : Int) = K at *
    generalize (y.kind.toNat : Int) = K' at *
    have HC : Hid (∀ w', Ext wr w' → (w'.cell? ⟨b, off + j * 6, none⟩ = some (.string (str x.name)) ∧ w'.cell? ⟨b, off + j * 6 + 1, none⟩ = some (.int .u8 K) ∧ w'.cell? ⟨b, off + j * 6 + 2, none⟩ = some (.slice aa m cc) ∧ w'.cell? ⟨b, off + j * 6 + 3, none⟩ = some (.string (str x.over)) ∧ w'.cell? ⟨b, off + j * 6 + 4, none⟩ = some (.int .i64 x.width) ∧ w'.cell? ⟨b, off + j * 6 + 5, none⟩ = some (.int .i64 x.quota) ∧ w'.cell? ⟨b', off' + j * 6, none⟩ = some (.string (str y.name)) ∧ w'.cell? ⟨b', off' + j * 6 + 1, none⟩ = some (.int .u8 K') ∧ w'.cell? ⟨b', off' + j * 6 + 2, none⟩ = some (.slice aa' m' cc') ∧ w'.cell? ⟨b', off' + j * 6 + 3, none⟩ = some (.string (str y.over)) ∧ w'.cell? ⟨b', off' + j * 6 + 4, none⟩ = some (.int .i64 y.width) ∧ w'.cell? ⟨b', off' + j * 6 + 5, none⟩ = some (.int .i64 y.quota))) := Lib.hid (fun w' h =>
      ⟨(h.cell (p := ⟨b, _, none⟩) hz).trans c0, (h.cell (p := ⟨b, _, none⟩) hz).trans c1, (h.cell (p := ⟨b, _, none⟩) hz).trans c2, (h.cell (p := ⟨b, _, none⟩) hz).trans c3, (h.cell (p := ⟨b, _, none⟩) hz).trans c4, (h.cell (p := ⟨b, _, none⟩) hz).trans c5,
       (h.cell (p := ⟨b', _, none⟩) hz').trans d0, (h.cell (p := ⟨b', _, none⟩) hz').trans d1, (h.cell (p := ⟨b', _, none⟩) hz').trans d2, (h.cell (p := ⟨b', _, none⟩) hz').trans d3, (h.cell (p := ⟨b', _, none⟩) hz').trans d4, (h.cell (p := ⟨b', _, none⟩) hz').trans d5⟩)
    clear c0 c1 c2 c3 c4 c5 d0 d1 d2 d3 d4 d5
    go_wp2_with fail
    go_cut [6, 7] from 14 to 87 (fun p q w' => ∃ B1 B2 : Nat, p = .pointer (some ⟨B1, 0, none⟩) ∧ q = .pointer (some ⟨B2, 0, none⟩) ∧ Hid (Ext wr w' ∧ BoxL w' B1 [.string (str x.name), .int .u8 K, .slice aa m cc, .string (str x.over), .int .i64 x.width, .int .i64 x.quota] ∧ BoxL w' B2 [.string (str y.name), .int .u8 K', .slice aa' m' cc', .string (str y.over), .int .i64 y.width, .int .i64 y.quota]))
    case first =>
      go_region_held3 (fun w' => w'.cell? ⟨b, off + j * 6, none⟩ = some (.string (str x.name)) ∧ w'.cell? ⟨b, off + j * 6 + 1, none⟩ = some (.int .u8 K) ∧ w'.cell? ⟨b, off + j * 6 + 2, none⟩ = some (.slice aa m cc) ∧ w'.cell? ⟨b, off + j * 6 + 3, none⟩ = some (.string (str x.over)) ∧ w'.cell? ⟨b, off + j * 6 + 4, none⟩ = some (.int .i64 x.width) ∧ w'.cell? ⟨b, off + j * 6 + 5, none⟩ = some (.int .i64 x.quota) ∧ w'.cell? ⟨b', off' + j * 6, none⟩ = some (.string (str y.name)) ∧ w'.cell? ⟨b', off' + j * 6 + 1, none⟩ = some (.int .u8 K') ∧ w'.cell? ⟨b', off' + j * 6 + 2, none⟩ = some (.slice aa' m' cc') ∧ w'.cell? ⟨b', off' + j * 6 + 3, none⟩ = some (.string (str y.over)) ∧ w'.cell? ⟨b', off' + j * 6 + 4, none⟩ = some (.int .i64 y.width) ∧ w'.cell? ⟨b', off' + j * 6 + 5, none⟩ = some (.int .i64 y.quota))
        ((refine HC.out _ ?_; repeat (first | exact Ext.refl _ | refine Ext.drew ?_ | refine Ext.alloc ?_ _ | refine Ext.setCell ?_ (by simp) _)))
        (fail)
      all_goals go_wp2_with fail
      all_goals go_meet
      all_goals (case rel =>
        first
          | exact ⟨_, _, rfl, rfl, Lib.hid ⟨(((Ext.refl wr).alloc _).alloc _).drew, BoxL.ext (BoxL.new wr _ 138) ((Ext.refl _).alloc _).drew, by
              have := BoxL.new (wr.alloc (.cells #[.string (str x.name), .int .u8 K, .slice aa m cc, .string (str x.over), .int .i64 x.width, .int .i64 x.quota] 138)) [.string (str y.name), .int .u8 K', .slice aa' m' cc', .string (str y.over), .int .i64 y.width, .int .i64 y.quota] 138
              rw [show (wr.alloc (.cells #[.string (str x.name), .int .u8 K, .slice aa m cc, .string (str x.over), .int .i64 x.width, .int .i64 x.quota] 138)).heap.size = wr.heap.size + 1 by simp] at this
              exact this.ext (Ext.refl _).drew⟩⟩
          | exact ⟨_, _, rfl, rfl, Lib.hid ⟨(((Ext.refl wr).alloc _).alloc _).drew, by
              have := BoxL.new (wr.alloc (.cells #[.string (str y.name), .int .u8 K', .slice aa' m' cc', .string (str y.over), .int .i64 y.width, .int .i64 y.quota] 138)) [.string (str x.name), .int .u8 K, .slice aa m cc, .string (str x.over), .int .i64 x.width, .int .i64 x.quota] 138
              rw [show (wr.alloc (.cells #[.string (str y.name), .int .u8 K', .slice aa' m' cc', .string (str y.over), .int .i64 y.width, .int .i64 y.quota] 138)).heap.size = wr.heap.size + 1 by simp] at this
              exact this.ext (Ext.refl _).drew, BoxL.ext (BoxL.new wr _ 138) ((Ext.refl _).alloc _).drew⟩⟩)
    case rest =>
    obtain ⟨B1, B2, rfl, rfl, HCut⟩ := hcut
    obtain ⟨p0, p1, p2, p3, p4, p5⟩ := HCut.out.2.1.six
    obtain ⟨q0, q1, q2, q3, q4, q5⟩ := HCut.out.2.2.six
    have HEc := Lib.hid (hE.trans HCut.out.1)
    have HNE : Hid (x ≠ y → eqF l l' = false) := Lib.hid (fun hne => eqF_ne (fun e => hne (by rw [HXj.out, HYj.out]; congr 1)))
    clear HC
    have es : ((str x.name).toList == (str y.name).toList) = decide (x.name = y.name) := str_beq _ _
    have eo : ((str x.over).toList == (str y.over).toList) = decide (x.over = y.over) := str_beq _ _
    have hm : m = x.after.length := HS.out.len
    have hm' : m' = y.after.length := HS'.out.len
    have hml : m ≤ 9223372036854775807 := by obtain ⟨_, _, _, e, hr, _⟩ := HS.out; have := hr.length_le; omega
    have hml' : m' ≤ 9223372036854775807 := by obtain ⟨_, _, _, e, hr, _⟩ := HS'.out; have := hr.length_le; omega
    by_cases hs : x.name = y.name
    case neg =>
      have HX := Lib.hid (HNE.out (fun e => hs (by rw [e])))
      have f0 : ((str x.name).toList == (str y.name).toList) = false := by rw [es]; simpa using hs
      clear es eo hs hm hm'
      clear ek
      go_wp2
      go_ret
      exact ⟨by rw [HX.out]; rfl, HEc.out⟩
    by_cases hk : x.kind = y.kind
    case neg =>
      have HX := Lib.hid (HNE.out (fun e => hk (by rw [e])))
      have f0 : ((str x.name).toList == (str y.name).toList) = true := by rw [es]; simpa using hs
      have f1 : (K != K') = true := by rw [bne, ek]; simpa using hk
      clear es eo hs hm hm' hk
      clear ek
      go_wp2
      go_ret
      exact ⟨by rw [HX.out]; rfl, HEc.out⟩
    have f0 : ((str x.name).toList == (str y.name).toList) = true := by rw [es]; simpa using hs
    have f1 : (K != K') = false := by rw [bne, ek]; simpa using hk
    by_cases ha : m = m'
    case neg =>
      have HX := Lib.hid (HNE.out (fun e => ha (by rw [hm, hm', e])))
      have f2 : ((m : Int) != (m' : Int)) = true := by rw [bne, Bool.not_eq_true']; simp; omega
      clear es eo hs hm hm' hk ha
      clear ek
      go_wp2
      go_ret
      exact ⟨by rw [HX.out]; rfl, HEc.out⟩
    have f2 : ((m : Int) != (m' : Int)) = false := by rw [bne, Bool.not_eq_false']; simp; omega
    by_cases ho : x.over = y.over
    case neg =>
      have HX := Lib.hid (HNE.out (fun e => ho (by rw [e])))
      have f3 : ((str x.over).toList == (str y.over).toList) = false := by rw [eo]; simpa using ho
      clear es eo hs hm hm' hk ha ho
      clear ek
      go_wp2
      go_ret
      exact ⟨by rw [HX.out]; rfl, HEc.out⟩
    have f3 : ((str x.over).toList == (str y.over).toList) = true := by rw [eo]; simpa using ho
    by_cases hw : x.width = y.width
    case neg =>
      have HX := Lib.hid (HNE.out (fun e => hw (by rw [e])))
      have f4 : (x.width != y.width) = true := by simpa using hw
      clear es eo hs hm hm' hk ha ho hw
      clear ek
      go_wp2
      go_ret
      exact ⟨by rw [HX.out]; rfl, HEc.out⟩
    have f4 : (x.width != y.width) = false := by simpa using hw
    by_cases hq : x.quota = y.quota
    case neg =>
      have HX := Lib.hid (HNE.out (fun e => hq (by rw [e])))
      have f5 : (x.quota != y.quota) = true := by simpa using hq
      clear es eo hs hm hm' hk ha ho hw hq
      clear ek
      go_wp2
      go_ret
      exact ⟨by rw [HX.out]; rfl, HEc.out⟩
    have f5 : (x.quota != y.quota) = false := by simpa using hq
    have HEQ : Hid (x.after = y.after → x = y) := Lib.hid (fun e => by
      obtain ⟨n1, k1, a1, o1, w1, q1⟩ := x
      obtain ⟨n2, k2, a2, o2, w2, q2⟩ := y
      simp only at hs hk e ho hw hq
      rw [hs, hk, e, ho, hw, hq])
    have HM := Lib.hid hm
    have HM' := Lib.hid hm'
    have HRx := Lib.hid HS.out.row
    have HRy := Lib.hid HS'.out.row
    subst ha
    clear es eo hs hk ho hw hq hm hm' ek
    go_wp2_with fail
    clear f0 f1 f2 f3 f4 f5 p0 p1 p3 p4 p5 q0 q1 q3 q4 q5
    have hzx := HCut.out.2.1.lt
    have hzy := HCut.out.2.2.lt
    have HWc := Lib.hid HCut.out.1
    clear HCut
    go_loopw [8] (fun i wr2 => ∃ k : Nat, k ≤ m ∧ i = .int .i64 k ∧ Hid (x.after.take k = y.after.take k) ∧ Ext wc wr2) (fun i _ => m - (intOf i).toNat)
    case atStart => exact ⟨0, by omega, rfl, by simp [Hid], Ext.refl _⟩
    case round =>
      obtain ⟨k, hk, rfl, HA2, hE2⟩ := hrel
      have r2 := (hE2.cell (p := ⟨B1, 2, none⟩) hzx).trans p2
      have s2 := (hE2.cell (p := ⟨B2, 2, none⟩) hzy).trans q2
      by_cases hkm : k < m
      · have hkx : k < x.after.length := by have := HM.out; omega
        have hky : k < y.after.length := by have := HM'.out; omega
        have hk0 : (0 : Int) ≤ (k : Int) := by omega
        have hk1 : (k : Int) < (m : Int) := by omega
        obtain ⟨sb, so, rfl, hsb, hsc, -⟩ := str_at HRx.out (HWc.out.trans hE2) k hkx
        obtain ⟨tb, tof, rfl, htb, htc, -⟩ := str_at HRy.out (HWc.out.trans hE2) k hky
        have ea : ((str x.after[k]).toList == (str y.after[k]).toList) = decide (x.after[k] = y.after[k]) := str_beq _ _
        by_cases hxy : x.after[k] = y.after[k]
        case pos =>
          have g0 : ((str x.after[k]).toList == (str y.after[k]).toList) = true := by rw [ea]; simpa using hxy
          have HA3 : Hid (x.after.take (k + 1) = y.after.take (k + 1)) := Lib.hid (by
            rw [List.take_add_one, List.take_add_one, HA2.out, List.getElem?_eq_getElem hkx, List.getElem?_eq_getElem hky, hxy])
          clear ea hxy
          generalize str x.after[k] = sx at *
          generalize str y.after[k] = sy at *
          go_wp2_with fail
          go_quiet (fail)
          go_wp2
          go_roundw
          case rel => exact ⟨k + 1, by omega, by go_num, HA3, hE2.drewN nq⟩
          case measure => simp [intOf]; omega
        case neg =>
          have g0 : ((str x.after[k]).toList == (str y.after[k]).toList) = false := by rw [ea]; simpa using hxy
          have HX := Lib.hid (HNE.out (fun e => hxy (by simp only [e])))
          clear ea hxy
          generalize str x.after[k] = sx at *
          generalize str y.after[k] = sy at *
          go_wp2_with fail
          go_quiet (fail)
          go_wp2
          go_ret
          exact ⟨by rw [HX.out]; rfl, (HEc.out.trans hE2).drewN nq⟩
      · have hkk : k = m := by omega
        have HXY : Hid (l.take (j + 1) = l'.take (j + 1)) := Lib.hid (takeI_same hlt hlt' HA.out (by
          rw [← HXj.out, ← HYj.out]
          refine HEQ.out ?_
          have := HA2.out
          rwa [hkk, show m = x.after.length from HM.out, List.take_length, show x.after.length = y.after.length by rw [← HM.out, HM'.out], List.take_length] at this))
        have HEr := Lib.hid (HEc.out.trans hE2)
        clear hkk
        go_wp2
        go_roundw
        case rel => exact ⟨j + 1, by omega, by go_num, HXY, HEr.out⟩
        case measure => simp [intOf]; omega
end Go.Proofs.YtdienbcjfljjnaaGreatDoor
