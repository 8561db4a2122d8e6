/- Walks over a value's tree that only read: few, Few, Parts, Deep, kinds. -/
import Derived.Test.YtnbalamacpcanaaDoorTree
import Derived.Test.YtnbalamacpcanaaDoorWireC
import Derived.IntWalk
import Derived.Deep.RegionHeld3
open Go.RowKit Go.Shelf
namespace Go.Proofs.YtnbalamacpcanaaDoor
open Go Go.Proofs Fm

theorem wrapN (a b : Nat) (h : a + b ≤ 9000000000000000000) : IntKind.i64.wrap ((a : Int) + (b : Int)) = ((a + b : Nat) : Int) := by
  rw [IntWalk.i64_in _ (by omega)]; omega

set_option maxRecDepth 100000 in
set_option maxHeartbeats 2000000 in
theorem vparts_any (t : Tr) : ∀ (w : World) (v : Value), Lies w t v → partsT t ≤ 1000000 →
    Calls Tryd.prog 20 #[v] w fun e w' => e = .returned (.int .i64 (partsT t)) ∧ Ext w w' := by
  induction t using Tr.ind with
  | h k n s l ih =>
    intro w v hl hp
    cases hl with
    | node _ _ _ _ a cap C hn hs h1 h2 h3 h4 h5 =>
    rw [partsT_node] at hp ⊢
    have hll : l.length ≤ 1000000 := by have := partsL_len l; omega
    go_enter Tryd.func20, Tryd.ntmps20
    go_wp2_with fail
    have H4 := Lib.hid h4; have H5 := Lib.hid h5
    clear h3 h4 h5 hs hn
    go_loopw [3, 9] (fun x i wr => ∃ k N : Nat, k ≤ l.length ∧ x = .int .i64 (N : Int) ∧ i = .int .i64 k ∧ Hid (N = 1 + partsL (l.take k)) ∧ Ext w wr) (fun _ i _ => l.length - (intOf i).toNat)
    case atStart => exact ⟨0, 1, by omega, rfl, rfl, by simp [Hid, partsL_nil], (Ext.refl w).alloc _⟩
    case round =>
      obtain ⟨k, N, hk, rfl, rfl, HN, hE⟩ := hrel
      by_cases hlt : k < l.length
      · obtain ⟨b, off, rfl, hb, hc⟩ := H4.out (by omega)
        obtain ⟨k0, n0, s0, a0, m0, c0, e0, e1, e2, e3, hx⟩ := elem4 hE hb hc H5.out k hlt
        have hpk := partsL_at l k hlt
        have hpl := partsL_take_le l (k + 1)
        go_wp2_with fail
        refine (ih _ (List.getElem_mem hlt) _ _ (hx.ext ((Ext.refl wr).alloc _)) (by omega)).mono ?_
        rintro e w1 ⟨rfl, hE1⟩
        have hE2 := (hE.alloc _).trans hE1
        obtain ⟨P, hP⟩ : ∃ P, P = partsT l[k] := ⟨_, rfl⟩
        rw [← hP] at hpk ⊢
        have hb2 : N + P ≤ 1000000 := by have := HN.out; omega
        have HN2 : Hid (N + P = 1 + partsL (l.take (k + 1))) := by have := HN.out; refine Lib.hid ?_; omega
        clear hE1 e0 e1 e2 e3 hx hpk hpl hb hc HN hP
        go_wp2
        go_roundw
        case rel => exact ⟨k + 1, N + P, by omega, by go_num, by go_num, HN2, hE2⟩
        case measure => simp [intOf]; omega
      · have hk' : k = l.length := by omega
        have hx : 1 + partsL l = N := by have := HN.out; rw [hk', List.take_length] at this; exact this.symm
        have HX := Lib.hid hx
        clear hx hk'
        go_wp2
        go_ret
        exact ⟨by rw [HX.out]; rfl, hE⟩

set_option maxRecDepth 100000 in
set_option maxHeartbeats 2000000 in
theorem few_any (d : Nat) : ∀ (D : Int) (t : Tr) (w : World) (v : Value), Hid (D = d) → Lies w t v → d ≤ 20 →
    Calls Tryd.prog 60 #[v, .int .i64 D] w fun e w' => e = .returned (.int .i64 (fewT d t)) ∧ Ext w w' := by
  induction d with
  | zero =>
    intro D t w v hD hl _
    have HF := Lib.hid (fewT_zero t)
    obtain rfl : D = 0 := hD.out
    cases hl with
    | node k n s l a cap C hn hs h1 h2 h3 h4 h5 =>
    clear hn hs h3 h4 h5
    go_enter Tryd.func60, Tryd.ntmps60
    go_wp2
    go_ret
    exact ⟨by rw [HF.out]; rfl, (Ext.refl w).alloc _⟩
  | succ d ih =>
    intro D t w v HD hl hd
    cases hl with
    | node kd n s l a cap C hn hs h1 h2 h3 h4 h5 =>
    have HF := Lib.hid (fewT_succ d kd n s l)
    have H4 := Lib.hid h4; have H5 := Lib.hid h5; have IH := Lib.hid ih
    clear h3 h4 h5 hs hn ih
    have hD := HD.out
    have hD1 : 1 ≤ D := by omega
    have hD2 : D ≤ 20 := by omega
    have h0 : (D == 0) = false := by simp; omega
    clear hD
    have HB : Hid (∀ t, fewT d t ≤ 1000000 * (d + 1)) := fewT_le d
    have hll : l.length ≤ 9223372036854775807 := by unfold maxLen at h2; omega
    go_enter Tryd.func60, Tryd.ntmps60
    go_wp2_with fail
    go_loopw [5, 13] (fun x i wr => ∃ k N : Nat, k ≤ l.length ∧ x = .int .i64 (N : Int) ∧ i = .int .i64 k ∧ N ≤ 1000000 ∧ Hid (fewL (fewT d) 1 l = fewL (fewT d) N (l.drop k)) ∧ Ext w wr) (fun _ i _ => l.length - (intOf i).toNat)
    case atStart => exact ⟨0, 1, by omega, rfl, rfl, by omega, Lib.hid (by rw [List.drop_zero]), (Ext.refl w).alloc _⟩
    case round =>
      obtain ⟨k, N, hk, rfl, rfl, hN, HN, hE⟩ := hrel
      by_cases hlt : k < l.length
      · obtain ⟨b, off, rfl, hb, hc⟩ := H4.out (by omega)
        obtain ⟨k0, n0, s0, a0, m0, c0, e0, e1, e2, e3, hx⟩ := elem4 hE hb hc H5.out k hlt
        have hst := fewL_drop (fewT d) N l k hlt
        have hPB := HB.out l[k]
        go_wp2_with fail
        refine (IH.out (D - 1) _ _ _ (Lib.hid (by have := HD.out; omega)) (hx.ext ((Ext.refl wr).alloc _)) (by omega)).mono ?_
        rintro e w1 ⟨rfl, hE1⟩
        have hE2 := (hE.alloc _).trans hE1
        obtain ⟨P, hP⟩ : ∃ P, P = fewT d l[k] := ⟨_, rfl⟩
        rw [← hP] at hst hPB ⊢
        have hPB' : P ≤ 20000000 := by omega
        by_cases hbig : 1000000 < N + P
        · rw [if_pos hbig] at hst
          have HR : Hid (fewT (d + 1) (.node kd n s l) = N + P) := Lib.hid (by rw [HF.out, HN.out, hst])
          clear hE1 e0 e1 e2 e3 hx hb hc HN hP hst
          go_wp2
          go_ret
          exact ⟨by rw [HR.out]; rfl, hE2⟩
        · rw [if_neg hbig] at hst
          have HR : Hid (fewL (fewT d) 1 l = fewL (fewT d) (N + P) (l.drop (k + 1))) := Lib.hid (by rw [HN.out, hst])
          clear hE1 e0 e1 e2 e3 hx hb hc HN hP hst
          go_wp2
          go_roundw
          case rel => exact ⟨k + 1, N + P, by omega, by go_num, by go_num, by omega, HR, hE2⟩
          case measure => simp [intOf]; omega
      · have hk' : k = l.length := by omega
        have HX := Lib.hid (show fewT (d + 1) (.node kd n s l) = N by rw [HF.out, HN.out, hk', List.drop_length, fewL_nil])
        clear hk'
        go_wp2
        go_ret
        exact ⟨by rw [HX.out]; rfl, hE⟩
end Go.Proofs.YtnbalamacpcanaaDoor
