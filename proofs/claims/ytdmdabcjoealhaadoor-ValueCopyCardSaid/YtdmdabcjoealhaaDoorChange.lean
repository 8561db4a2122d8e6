/- Walks: change. -/
import Derived.Test.YtdmdabcjoealhaaDoorTreeC
import Derived.Test.YtdmdabcjoealhaaDoorValP
open Go.RowKit Go.Shelf
namespace Go.Proofs.YtdmdabcjoealhaaDoor
open Go Go.Proofs Fm

theorem changed_of_count {w w1 w' : World} {b o kb : Nat} {t : Tr} {F : Nat → Prop} (hg : w.grownBy w1 (some kb)) (hb : b < w.heap.size) (hbk : b ≠ kb) (h : Changed w1 b o kb t F w') : Changed w b o kb t F w' := by
  obtain ⟨h1, h2, h3, h4, h5, h6, h7⟩ := h
  refine ⟨h1, fun g hg1 hF hgb hgk => (h2 g (Nat.lt_of_lt_of_le hg1 hg.size) hF hgb hgk).trans (hg.block g hg1 (fun e => hgk (by injection e))), fun j hj => (h3 j hj).trans (hg.cell_far ⟨b, j, none⟩ hb (fun e => hbk (Option.some.inj e))), h4.trans hg.os, h5.trans hg.tape, h6.trans hg.output, Nat.le_trans hg.size h7⟩
theorem spot_turned {e : TypeId} {w : World} {base b o kb : Nat} {c : Int} {k : UInt8} {n : Int} {s : List UInt8} {l : List Tr} {d : Value} {F : Nat → Prop} (h : Spot e w base b o kb c k n s l d F) {n2 : Int} (h2 : isI64 n2) (hne : n2 ≠ n) :
    Changed w b o kb (.node k n s l) F (w.setCell ⟨b, o + 1, none⟩ (.int .i64 n2)) := by
  have hg : w.grownBy (w.setCell ⟨b, o + 1, none⟩ (.int .i64 n2)) (some b) := ⟨rfl, rfl, rfl, by simp [World.setCell], fun k _ hk => Below.heap_setCell _ _ _ _ (fun e => hk (by simp [e]))⟩
  have hoth : ∀ j, j ≠ o + 1 → (w.setCell ⟨b, o + 1, none⟩ (.int .i64 n2)).cell? ⟨b, j, none⟩ = w.cell? ⟨b, j, none⟩ := fun j hj => World.cell?_setCell_other _ _ _ _ (by intro e; have := congrArg Addr.off e; simp at this; omega)
  refine ⟨⟨.node k n2 s l, _, _, _, _, ?_, (hoth o (by omega)).trans h.c0, World.cell?_setCell_same _ _ _ h.c1, (hoth _ (by omega)).trans h.c2, (hoth _ (by omega)).trans h.c3, ?_⟩, fun g hg1 hF hgb hgk => hg.block g hg1 (fun e => hgb (by injection e)), fun j hj => hoth j (by omega), rfl, rfl, rfl, hg.size⟩
  · intro e; injection e with _ e; exact hne e
  · exact Lies.mk h2 h.hs (h.row.grown hg (fun x hx => by injection hx with hx; subst hx; exact h.nb)).lies

set_option maxRecDepth 100000 in
set_option maxHeartbeats 4000000 in
theorem change_any (t : Tr) : ∀ (w : World) (base b o kb : Nat) (c : Int) (k : UInt8) (n : Int) (s : List UInt8) (l : List Tr) (d : Value) (F : Nat → Prop), t = .node k n s l → Spot 25 w base b o kb c k n s l d F → 0 ≤ c → c ≤ 1000000 → partsT t ≤ 1000000 →
    Calls Tryd.prog 28 #[.pointer (some ⟨b, o, none⟩), .pointer (some ⟨kb, 0, none⟩)] w (ChPost w b o kb c t F) := by
  induction t using Tr.ind with
  | h k n s l ih =>
  intro w base b o kb c k' n' s' l' d F ht h hc0 hc1 hp
  injection ht with e1 e2 e3 e4
  subst e1 e2 e3 e4
  have H := Lib.hid h
  have IH := Lib.hid ih
  have c1 := h.c1; have c3 := h.c3; have f1 := h.f1; have ck := h.ck; have fk := h.fk
  have hpp := partsT_pos (.node k n s l)
  have HP := Lib.hid (partsT_node k n s l)
  clear h ih
  by_cases hz : c = 0
  · have HX : Hid (∀ n2, isI64 n2 → n2 ≠ n → ChPost w b o kb c (.node k n s l) F (.returned (.bool true)) (w.setCell ⟨b, o + 1, none⟩ (.int .i64 n2))) := Lib.hid (fun n2 h2 hne => by
      unfold ChPost; rw [if_pos (by omega)]; exact ⟨rfl, spot_turned H.out h2 hne⟩)
    have hcz : (c == 0) = true := by simp [hz]
    obtain ⟨n2, hw2, h2, hne⟩ : ∃ n2, IntKind.i64.wrap (n + 1) = n2 ∧ isI64 n2 ∧ n2 ≠ n := by
      have hn := H.out.hn
      unfold isI64 at *
      by_cases hm : n = 9223372036854775807
      · exact ⟨-9223372036854775808, by rw [hm]; rfl, by omega, by omega⟩
      · exact ⟨n + 1, IntWalk.i64_in _ (by omega), by omega, by omega⟩
    have HX2 := Lib.hid (HX.out n2 h2 hne)
    clear hz HX h2 hne hpp
    go_enter Tryd.func28, Tryd.ntmps28
    go_wp2
    go_ret
    exact HX2.out
  · have hcz : (c == 0) = false := by simpa using hz
    have hcp : 0 < c := by omega
    have hps := H.out.size
    obtain ⟨ad, cd, rfl⟩ : ∃ a cap, d = .slice a l.length cap := H.out.row.slice
    have hll : l.length ≤ 1000000 := by have := HP.out; have := partsL_len l; omega
    have hg0 : w.grownBy (w.setCell ⟨kb, 0, none⟩ (.int .i64 (c - 1))) (some kb) := ⟨rfl, rfl, rfl, by simp [World.setCell], fun k _ hk => Below.heap_setCell _ _ _ _ (fun e => hk (by simp [e]))⟩
    have hk0 := World.cell?_setCell_same w ⟨kb, 0, none⟩ (.int .i64 (c - 1)) ck
    have hf0 : (w.setCell ⟨kb, 0, none⟩ (.int .i64 (c - 1))).frozen? ⟨kb, 0, none⟩ = false := by rw [World.frozen?_setCell]; exact fk
    have h30 := (H.out.count hg0 hk0 hf0).c3
    have hPL : Hid (∀ j, partsL (l.take j) ≤ partsL l) := partsL_take_le l
    clear hz c1 f1 hpp
    go_enter Tryd.func28, Tryd.ntmps28
    go_wp2_with fail
    clear c3 ck fk
    generalize w.setCell ⟨kb, 0, none⟩ (.int .i64 (c - 1)) = W1 at *
    go_loopw [27] (fun i wr => ∃ (j : Nat) (cj : Int), j ≤ l.length ∧ i = .int .i64 j ∧ Hid (cj = c - 1 - partsL (l.take j)) ∧ 0 ≤ cj ∧ w.grownBy wr (some kb) ∧ wr.cell? ⟨kb, 0, none⟩ = some (.int .i64 cj) ∧ wr.frozen? ⟨kb, 0, none⟩ = false) (fun i _ => l.length - (intOf i).toNat)
    case atStart => exact ⟨0, c - 1, by omega, rfl, Lib.hid (by simp [partsL_nil]), by omega, hg0, hk0, hf0⟩
    case round =>
      obtain ⟨j, cj, hj, rfl, HC, hcj, hg, hkj, hfj⟩ := hrel
      clear hg0 hk0 hf0 h30
      have hsp := H.out.count hg hkj hfj
      have h3 := hsp.c3
      have hcjm : cj ≤ 1000000 := by have := HC.out; omega
      by_cases hlt : j < l.length
      · obtain ⟨g, cap, Fi, k', n', s', l', d', hdd, hli, hch, hback⟩ := hsp.child j hlt
        injection hdd with hd1 _ hd2
        subst hd1 hd2
        have hm : l[j] ∈ l := List.getElem_mem hlt
        have hpj := partsL_at l j hlt
        have hpl := hPL.out (j + 1)
        have hpt := HP.out
        have IHj := Lib.hid (IH.out l[j] hm wr base g (j * 4) kb cj k' n' s' l' d' Fi hli hch hcj hcjm (by omega))
        have HB := Lib.hid hback
        have hj0 : (0 : Int) ≤ (j : Int) := by omega
        have hj1 : (j : Int) < (l.length : Int) := by omega
        generalize l[j] = tj at *
        generalize hPj : partsT tj = Pj at *
        have HPj := Lib.hid hPj
        by_cases hlj : cj < (Pj : Int)
        · have HT : Hid (c < (partsT (.node k n s l) : Int)) := Lib.hid (by have := HC.out; omega)
          clear hpj hpl hpt hli hch hm hback hPj hsp
          go_wp2_with fail
          refine IHj.out.mono ?_
          intro e w2 hp2
          unfold ChPost at hp2
          rw [HPj.out, if_pos hlj] at hp2
          obtain ⟨rfl, hcg⟩ := hp2
          have HX : Hid (ChPost w b o kb c (.node k n s l) F (.returned (.bool true)) w2) := Lib.hid (by
            unfold ChPost; rw [if_pos HT.out]
            exact ⟨rfl, changed_of_count hg hps.1 H.out.bk (HB.out _ hcg)⟩)
          clear hcg
          go_wp2
          go_ret
          exact HX.out
        · have HC2 : Hid (cj - (Pj : Int) = c - 1 - partsL (l.take (j + 1))) := Lib.hid (by have := HC.out; omega)
          have hc2 : 0 ≤ cj - (Pj : Int) := by omega
          clear hpj hpl hpt hli hch hm hback hPj hsp
          go_wp2_with fail
          refine IHj.out.mono ?_
          intro e w2 hp2
          unfold ChPost at hp2
          rw [HPj.out, if_neg (show ¬ (cj < (Pj : Int)) from fun hh => absurd hh (by omega))] at hp2
          obtain ⟨rfl, hg2, hk2, hf2⟩ := hp2
          have hg3 := grown_trans hg hg2
          clear hg hg2 h3 hkj hfj IHj HB HC
          go_wp2
          go_roundw
          case rel => exact ⟨j + 1, cj - (Pj : Int), by omega, by go_num, HC2, hc2, hg3, hk2, hf2⟩
          case measure => simp [intOf]; omega
      · obtain rfl : j = l.length := by omega
        have hcl : cj = c - partsT (.node k n s l) := by have := HC.out; have := HP.out; rw [List.take_length] at *; omega
        have HX : Hid (ChPost w b o kb c (.node k n s l) F (.returned (.bool false)) wr) := Lib.hid (by
          unfold ChPost; rw [if_neg (by omega)]
          exact ⟨rfl, hg, by rw [← hcl]; exact hkj, hfj⟩)
        clear hcl hsp
        go_wp2
        go_ret
        exact HX.out
end Go.Proofs.YtdmdabcjoealhaaDoor
