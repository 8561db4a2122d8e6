/- Walks over a value's tree that only read: the reference's Parts, Deep; Same. -/
import Derived.Test.YtnbalamacpcanaaDoorValA
open Go.RowKit Go.Shelf
namespace Go.Proofs.YtnbalamacpcanaaDoor
open Go Go.Proofs Fm

set_option maxRecDepth 100000 in
set_option maxHeartbeats 2000000 in
theorem Few_any (t : Tr) (w : World) (v : Value) (h : Lies w t v) :
    Calls Tryd.prog 15 #[v] w fun e w' => e = .returned (.bool (decide (fewT 20 t ≤ 600))) ∧ Ext w w' := by
  cases h with
  | node k n s l a cap C hn hs h1 h2 h3 h4 h5 =>
  have HL := Lib.hid (Lies.node k n s l a cap C hn hs h1 h2 h3 h4 h5)
  clear hn hs h1 h2 h3 h4 h5
  have hle := fewT_le 20 (.node k n s l)
  go_enter Tryd.func15, Tryd.ntmps15
  go_wp2_with fail
  refine (few_any 20 20 (.node k n s l) _ _ (Lib.hid rfl) (HL.out.ext ((Ext.refl w).alloc _)) (by omega)).mono ?_
  rintro e w1 ⟨rfl, hE1⟩
  have hE2 := ((Ext.refl w).alloc _).trans hE1
  obtain ⟨N, hN⟩ : ∃ N, N = fewT 20 (.node k n s l) := ⟨_, rfl⟩
  rw [← hN] at hle ⊢
  have HX := Lib.hid (show decide (fewT 20 (.node k n s l) ≤ 600) = decide ((N : Int) ≤ 600) by rw [← hN]; simp only [decide_eq_decide]; omega)
  clear hE1 hN
  go_wp2
  go_ret
  exact ⟨by rw [HX.out]; rfl, hE2⟩

set_option maxRecDepth 100000 in
set_option maxHeartbeats 2000000 in
theorem rparts_any (t : Tr) : ∀ (w : World) (v : Value), Lies w t v → partsT t ≤ 1000000 →
    Calls Tryd.prog 21 #[v] w fun e w' => e = .returned (.int .i64 (partsT t)) ∧ Ext w w' := by
  induction t using Tr.ind with
  | h k n s l ih =>
    intro w v hl hp
    cases hl with
    | node _ _ _ _ a cap C hn hs h1 h2 h3 h4 h5 =>
    rw [partsT_node] at hp ⊢
    have hll : l.length ≤ 1000000 := by have := partsL_len l; omega
    go_enter Tryd.func21, Tryd.ntmps21
    go_wp2_with fail
    obtain ⟨-, -, -, m3, hsz⟩ := alloc4 w (.int .u8 (k.toNat : Int)) (.int .i64 n) (.string (str s)) (.slice a l.length cap) 24
    have hE0 := (Ext.refl w).alloc (.cells #[.int .u8 (k.toNat : Int), .int .i64 n, .string (str s), .slice a l.length cap] 24)
    generalize w.alloc (.cells #[.int .u8 (k.toNat : Int), .int .i64 n, .string (str s), .slice a l.length cap] 24) = W1 at *
    have H4 := Lib.hid h4; have H5 := Lib.hid h5
    clear h3 h4 h5 hs hn
    go_loopw [3, 4] (fun x i wr => ∃ k N : Nat, k ≤ l.length ∧ x = .int .i64 (N : Int) ∧ i = .int .i64 k ∧ Hid (N = 1 + partsL (l.take k)) ∧ Ext W1 wr) (fun _ i _ => l.length - (intOf i).toNat)
    case atStart => exact ⟨0, 1, by omega, rfl, rfl, by simp [Hid, partsL_nil], Ext.refl _⟩
    case round =>
      obtain ⟨k, N, hk, rfl, rfl, HN, hE'⟩ := hrel
      have hE := hE0.trans hE'
      have m3' := (hE'.cell (p := ⟨w.heap.size, 3, none⟩) hsz).trans m3
      by_cases hlt : k < l.length
      · obtain ⟨b, off, rfl, hb, hc⟩ := H4.out (by omega)
        obtain ⟨k0, n0, s0, a0, m0, c0, e0, e1, e2, e3, hx⟩ := elem4 hE hb hc H5.out k hlt
        have hpk := partsL_at l k hlt
        have hpl := partsL_take_le l (k + 1)
        go_wp2_with fail
        refine (ih _ (List.getElem_mem hlt) _ _ hx (by omega)).mono ?_
        rintro e w1 ⟨rfl, hE1⟩
        have hE2 := hE'.trans hE1
        obtain ⟨P, hP⟩ : ∃ P, P = partsT l[k] := ⟨_, rfl⟩
        rw [← hP] at hpk ⊢
        have hb2 : N + P ≤ 1000000 := by have := HN.out; omega
        have HN2 : Hid (N + P = 1 + partsL (l.take (k + 1))) := by have := HN.out; refine Lib.hid ?_; omega
        clear hE1 e0 e1 e2 e3 hx hpk hpl hb hc HN hP
        go_wp2
        go_roundw
        case rel => exact ⟨k + 1, N + P, by omega, by go_num, by go_num, HN2, hE2⟩
        case measure => simp [intOf]; omega
      · have hk' : k = l.length := by omega
        have hx : 1 + partsL l = N := by have := HN.out; rw [hk', List.take_length] at this; exact this.symm
        have HX := Lib.hid hx
        clear hx hk'
        go_wp2
        go_ret
        exact ⟨by rw [HX.out]; rfl, hE⟩

set_option maxRecDepth 100000 in
set_option maxHeartbeats 2000000 in
theorem rdeep_any (t : Tr) : ∀ (w : World) (v : Value), Lies w t v → deepT t ≤ 1000000 →
    Calls Tryd.prog 66 #[v] w fun e w' => e = .returned (.int .i64 (deepT t)) ∧ Ext w w' := by
  induction t using Tr.ind with
  | h k n s l ih =>
    intro w v hl hp
    cases hl with
    | node _ _ _ _ a cap C hn hs h1 h2 h3 h4 h5 =>
    rw [deepT_node] at hp ⊢
    go_enter Tryd.func66, Tryd.ntmps66
    go_wp2_with fail
    obtain ⟨-, -, -, m3, hsz⟩ := alloc4 w (.int .u8 (k.toNat : Int)) (.int .i64 n) (.string (str s)) (.slice a l.length cap) 24
    have hE0 := (Ext.refl w).alloc (.cells #[.int .u8 (k.toNat : Int), .int .i64 n, .string (str s), .slice a l.length cap] 24)
    generalize w.alloc (.cells #[.int .u8 (k.toNat : Int), .int .i64 n, .string (str s), .slice a l.length cap] 24) = W1 at *
    have H4 := Lib.hid h4; have H5 := Lib.hid h5
    have hll : l.length ≤ 9223372036854775807 := by unfold maxLen at h2; omega
    clear h3 h4 h5 hs hn
    go_loopw [3, 4] (fun x i wr => ∃ k N : Nat, k ≤ l.length ∧ x = .int .i64 (N : Int) ∧ i = .int .i64 k ∧ Hid (N = deepL (l.take k)) ∧ Ext W1 wr) (fun _ i _ => l.length - (intOf i).toNat)
    case atStart => exact ⟨0, 0, by omega, rfl, rfl, by simp [Hid, deepL_nil], Ext.refl _⟩
    case round =>
      obtain ⟨k, N, hk, rfl, rfl, HN, hE'⟩ := hrel
      have hE := hE0.trans hE'
      have m3' := (hE'.cell (p := ⟨w.heap.size, 3, none⟩) hsz).trans m3
      by_cases hlt : k < l.length
      · obtain ⟨b, off, rfl, hb, hc⟩ := H4.out (by omega)
        obtain ⟨k0, n0, s0, a0, m0, c0, e0, e1, e2, e3, hx⟩ := elem4 hE hb hc H5.out k hlt
        have hpk := deepL_at l k hlt
        have hpl := deepL_take_le l (k + 1)
        go_wp2_with fail
        refine (ih _ (List.getElem_mem hlt) _ _ hx (by omega)).mono ?_
        rintro e w1 ⟨rfl, hE1⟩
        have hE2 := hE'.trans hE1
        obtain ⟨P, hP⟩ : ∃ P, P = deepT l[k] := ⟨_, rfl⟩
        rw [← hP] at hpk ⊢
        by_cases hb2 : N < P
        · have HN2 : Hid (P = deepL (l.take (k + 1))) := by have := HN.out; refine Lib.hid ?_; omega
          clear hE1 e0 e1 e2 e3 hx hpk hpl hb hc HN hP
          go_wp2
          go_roundw
          case rel => exact ⟨k + 1, P, by omega, by go_num, by go_num, HN2, hE2⟩
          case measure => simp [intOf]; omega
        · have HN2 : Hid (N = deepL (l.take (k + 1))) := by have := HN.out; refine Lib.hid ?_; omega
          clear hE1 e0 e1 e2 e3 hx hpk hpl hb hc HN hP
          go_wp2
          go_roundw
          case rel => exact ⟨k + 1, N, by omega, by go_num, by go_num, HN2, hE2⟩
          case measure => simp [intOf]; omega
      · have hk' : k = l.length := by omega
        have hx : deepL l = N := by have := HN.out; rw [hk', List.take_length] at this; exact this.symm
        have hN : N ≤ 999999 := by omega
        have HX := Lib.hid hx
        clear hx hk'
        go_wp2
        go_ret
        exact ⟨by rw [HX.out]; rfl, hE⟩
end Go.Proofs.YtnbalamacpcanaaDoor
