/- Walks: the reader's num and text. -/
import Derived.Test.YtnbalamacpcanaaDoorValI
import Derived.Test.YtnbalamacpcanaaDoorTreeR
import Derived.Test.YtnbalamacpcanaaDoorTreeO
import Derived.WalkLawsBesides
open Go.RowKit Go.Shelf
namespace Go.Proofs.YtnbalamacpcanaaDoor
open Go Go.Proofs Fm

/-- The reader in block R: what is left, and how much room. -/
structure RdAt (w0 w : World) (R : Nat) (v : Value) (xs : List UInt8) (m : Int) : Prop where
  ext : Ext w0 w
  old : w0.heap.size ≤ R
  lt : R < w.heap.size
  c0 : w.cell? ⟨R, 0, none⟩ = some v
  c1 : w.cell? ⟨R, 1, none⟩ = some (.int .i64 m)
  f0 : w.frozen? ⟨R, 0, none⟩ = false
  f1 : w.frozen? ⟨R, 1, none⟩ = false
  bytes : Bytes w0 v xs
theorem RdAt.kept {w0 w w' : World} {R : Nat} {v : Value} {xs : List UInt8} {m : Int} (h : RdAt w0 w R v xs m) {row : Option Nat} (hg : w.grownBy w' row) (hr : ∀ k, row = some k → w0.heap.size ≤ k ∧ k ≠ R) : RdAt w0 w' R v xs m := by
  have hne : some R ≠ row := fun e => (hr R e.symm).2 rfl
  exact ⟨h.ext.grown hg (fun k hk => (hr k hk).1), h.old, Nat.lt_of_lt_of_le h.lt hg.size, (hg.cell_far ⟨R, 0, none⟩ h.lt hne).trans h.c0, (hg.cell_far ⟨R, 1, none⟩ h.lt hne).trans h.c1,
    (hg.frozen_far ⟨R, 0, none⟩ h.lt hne).trans h.f0, (hg.frozen_far ⟨R, 1, none⟩ h.lt hne).trans h.f1, h.bytes⟩
theorem RdAt.then {w0 w w' : World} {R : Nat} {v : Value} {xs : List UInt8} {m : Int} (h : RdAt w0 w R v xs m) (hE : Ext w w') : RdAt w0 w' R v xs m := h.kept hE.grownBy (fun k hk => by cases hk)
theorem grown_set (w : World) (R o : Nat) (u : Value) : w.grownBy (w.setCell ⟨R, o, none⟩ u) (some R) := ⟨rfl, rfl, rfl, by simp [World.setCell], fun k _ hk => Below.heap_setCell _ _ _ _ (fun e => hk (by simp [e]))⟩
theorem RdAt.setLeft {w0 w : World} {R : Nat} {v : Value} {xs : List UInt8} {m : Int} (h : RdAt w0 w R v xs m) {v' : Value} {xs' : List UInt8} (hb : Bytes w0 v' xs') : RdAt w0 (w.setCell ⟨R, 0, none⟩ v') R v' xs' m := by
  refine ⟨h.ext.setCell h.old _, h.old, by simp [h.lt], World.cell?_setCell_same _ _ _ h.c0, ?_, ?_, ?_, hb⟩
  · rw [World.cell?_setCell_other _ _ _ _ (by simp)]; exact h.c1
  · rw [World.frozen?_setCell]; exact h.f0
  · rw [World.frozen?_setCell]; exact h.f1
theorem RdAt.setRoom {w0 w : World} {R : Nat} {v : Value} {xs : List UInt8} {m : Int} (h : RdAt w0 w R v xs m) (m' : Int) : RdAt w0 (w.setCell ⟨R, 1, none⟩ (.int .i64 m')) R v xs m' := by
  refine ⟨h.ext.setCell h.old _, h.old, by simp [h.lt], ?_, World.cell?_setCell_same _ _ _ h.c1, ?_, ?_, h.bytes⟩
  · rw [World.cell?_setCell_other _ _ _ _ (by simp)]; exact h.c0
  · rw [World.frozen?_setCell]; exact h.f0
  · rw [World.frozen?_setCell]; exact h.f1

/-- It panics so. -/
def brokenV : Value := .iface 114 (.agg #[])
def Broken (w0 w : World) (R : Nat) (e : Ending) (w' : World) : Prop := e = .panicked [{ v := .iface 114 (.agg #[]), recovered := false }] ∧ Ext w0 w' ∧ w.grownBy w' (some R)

/-- It tells r, and has read on. -/
def RdPost (w0 w : World) (R : Nat) (xs : List UInt8) (m : Int) (r : Value) (e : Ending) (w' : World) : Prop := e = .returned r ∧ (∃ v', RdAt w0 w' R v' xs m) ∧ w.grownBy w' (some R)

set_option maxRecDepth 100000 in
set_option maxHeartbeats 2000000 in
theorem rdnum_ok {w0 w : World} {R : Nat} {v : Value} {xs : List UInt8} {m : Int} (h : RdAt w0 w R v xs m) (lo hi n : Int) (k : Nat) (hN : takeN xs = some (n, k)) (h1 : lo ≤ n) (h2 : n ≤ hi) :
    Calls Tryd.prog 118 #[.pointer (some ⟨R, 0, none⟩), .int .i64 lo, .int .i64 hi] w (RdPost w0 w R (xs.drop k) m (.int .i64 n)) := by
  have HN := Lib.hid hN
  have H := Lib.hid h
  have c0 := h.c0
  have f0 := h.f0
  clear h hN
  go_enter Tryd.func118, Tryd.ntmps118
  go_wp2_with fail
  refine (takeNum_any v xs w (H.out.bytes.ext H.out.ext)).mono ?_
  intro e w1 hp
  unfold TakeNumPost at hp
  rw [HN.out] at hp
  obtain ⟨nq, rfl, rfl⟩ := hp
  have hE : Ext w (w.drewN nq) := (Ext.refl w).drewN nq
  have hr := H.out.then hE
  have hb2 := hr.bytes.drop (takeN_inv HN.out).2.2.2.1
  generalize dropV v k = v2 at *
  obtain ⟨a2, cap2, rfl, -⟩ := id hb2
  have hr2 := hr.setLeft hb2
  clear hb2
  generalize xs.drop k = ys at *
  generalize ys.length = ly at *
  have hg2 := grown_trans (grown_ext hE (some R)) (grown_set (w.drewN nq) R 0 (.slice a2 ly cap2))
  have HR := Lib.hid hr2
  have HG := Lib.hid hg2
  clear hr hr2 hg2
  go_wp2
  go_ret
  exact ⟨rfl, ⟨_, HR.out⟩, HG.out⟩

set_option maxRecDepth 100000 in
set_option maxHeartbeats 2000000 in
theorem rdnum_no {w0 w : World} {R : Nat} {v : Value} {xs : List UInt8} {m : Int} (h : RdAt w0 w R v xs m) (lo hi : Int) (hN : ∀ n k, takeN xs = some (n, k) → n < lo ∨ hi < n) :
    Calls Tryd.prog 118 #[.pointer (some ⟨R, 0, none⟩), .int .i64 lo, .int .i64 hi] w (Broken w0 w R) := by
  have HN := Lib.hid hN
  have H := Lib.hid h
  have c0 := h.c0
  have f0 := h.f0
  clear h hN
  go_enter Tryd.func118, Tryd.ntmps118
  go_wp2_with fail
  refine (takeNum_any v xs w (H.out.bytes.ext H.out.ext)).mono ?_
  intro e w1 hp
  unfold TakeNumPost at hp
  cases hN : takeN xs with
  | none =>
    rw [hN] at hp
    obtain ⟨rfl, rfl⟩ := hp
    have HB : Hid (Broken w0 w R (.panicked [{ v := .iface 114 (.agg #[]), recovered := false }]) w) := Lib.hid ⟨rfl, H.out.ext, World.grownBy.refl _ _⟩
    clear hN HN c0 f0
    go_wp2
    exact ⟨rfl, HB.out⟩
  | some p =>
    obtain ⟨n, k⟩ := p
    rw [hN] at hp
    obtain ⟨nq, rfl, rfl⟩ := hp
    have hE : Ext w (w.drewN nq) := (Ext.refl w).drewN nq
    have HB : Hid (Broken w0 w R (.panicked [{ v := .iface 114 (.agg #[]), recovered := false }]) (w.drewN nq)) := Lib.hid ⟨rfl, H.out.ext.trans hE, grown_ext hE _⟩
    rcases HN.out n k hN with hlt | hlt
    · clear hN HN c0 f0 hE
      go_wp2
      exact ⟨rfl, HB.out⟩
    · clear hN HN c0 f0 hE
      by_cases hlo : n < lo
      · go_wp2
        exact ⟨rfl, HB.out⟩
      · go_wp2
        exact ⟨rfl, HB.out⟩

set_option maxRecDepth 100000 in
set_option maxHeartbeats 2000000 in
theorem rdtext_ok {w0 w : World} {R : Nat} {v : Value} {xs : List UInt8} {m : Int} (h : RdAt w0 w R v xs m) (k n : Nat) (hN : takeT xs 100 = some (k, n)) :
    Calls Tryd.prog 119 #[.pointer (some ⟨R, 0, none⟩)] w (RdPost w0 w R ((xs.drop k).drop n) m (.string (str ((xs.drop k).take n)))) := by
  have HN := Lib.hid hN
  have H := Lib.hid h
  have c0 := h.c0
  have f0 := h.f0
  clear h hN
  go_enter Tryd.func119, Tryd.ntmps119
  go_wp2_with fail
  refine (takeText_any v xs 100 (by unfold isI64; omega) w (H.out.bytes.ext H.out.ext)).mono ?_
  intro e w1 hp
  unfold TakeTextPost at hp
  rw [HN.out] at hp
  obtain ⟨nq, rfl, rfl⟩ := hp
  have hE : Ext w (w.drewN nq) := (Ext.refl w).drewN nq
  have hr := H.out.then hE
  obtain ⟨_, _, hkn⟩ := takeT_inv HN.out
  have hb2 := (hr.bytes.drop (k := k) (by omega)).drop (k := n) (by simp; omega)
  generalize dropV (dropV v k) n = v2 at *
  obtain ⟨a2, cap2, rfl, -⟩ := id hb2
  have hr2 := hr.setLeft hb2
  clear hb2
  generalize (xs.drop k).drop n = ys at *
  generalize ys.length = ly at *
  have hg2 := grown_trans (grown_ext hE (some R)) (grown_set (w.drewN nq) R 0 (.slice a2 ly cap2))
  have HR := Lib.hid hr2
  have HG := Lib.hid hg2
  clear hr hr2 hg2 hkn
  go_wp2
  go_ret
  exact ⟨rfl, ⟨_, HR.out⟩, HG.out⟩

set_option maxRecDepth 100000 in
set_option maxHeartbeats 2000000 in
theorem rdtext_no {w0 w : World} {R : Nat} {v : Value} {xs : List UInt8} {m : Int} (h : RdAt w0 w R v xs m) (hN : takeT xs 100 = none) :
    Calls Tryd.prog 119 #[.pointer (some ⟨R, 0, none⟩)] w (Broken w0 w R) := by
  have HN := Lib.hid hN
  have H := Lib.hid h
  have c0 := h.c0
  have f0 := h.f0
  clear h hN
  go_enter Tryd.func119, Tryd.ntmps119
  go_wp2_with fail
  refine (takeText_any v xs 100 (by unfold isI64; omega) w (H.out.bytes.ext H.out.ext)).mono ?_
  intro e w1 hp
  unfold TakeTextPost at hp
  rw [HN.out] at hp
  obtain ⟨nq, rfl, rfl⟩ := hp
  have hE : Ext w (w.drewN nq) := (Ext.refl w).drewN nq
  have HB : Hid (Broken w0 w R (.panicked [{ v := .iface 114 (.agg #[]), recovered := false }]) (w.drewN nq)) := Lib.hid ⟨rfl, H.out.ext.trans hE, grown_ext hE _⟩
  clear HN c0 f0 hE
  go_wp2
  exact ⟨rfl, HB.out⟩
end Go.Proofs.YtnbalamacpcanaaDoor
