/- Walks: the reader's value, whatever is read; Take; Parse. -/
import Derived.Test.YtdienbcjfljjnaaGreatDoorValL
import Derived.Defers
import Derived.Recover
open Go.RowKit Go.Shelf
namespace Go.Proofs.YtdienbcjfljjnaaGreatDoor
open Go Go.Proofs Fm

theorem ValOK.cast {w0 w : World} {R : Nat} {t : Tr} {xs : List UInt8} {m m' : Int} {e : Ending} {w' : World} (h : ValOK w0 w R t xs m e w') (hm : m = m') : ValOK w0 w R t xs m' e w' := by subst hm; exact h

theorem value_any (d : Nat) : d ≤ 100 → ∀ (D : Int) (w0 w : World) (R : Nat) (v : Value) (xs : List UInt8) (m : Nat), Hid (D = d) → RdAt w0 w R v xs m → m ≤ 1000 →
    Calls Tryz.prog 119 #[.pointer (some ⟨R, 0, none⟩), .int .i64 D] w (ValPost w0 w R (readT d m xs)) := by
  induction d with
  | zero =>
    intro _ D w0 w R v xs m hD h hm
    have hD0 : D = 0 := hD.out
    rw [readT_zero]
    cases hN : takeN xs with
    | none => exact value_bad D h (fun n k h => by rw [hN] at h; cases h)
    | some p =>
      obtain ⟨n, k⟩ := p
      by_cases hn : n < 0 ∨ 2 < n
      · exact value_bad D h (fun n' k' h => by rw [hN] at h; simp only [Option.some.injEq, Prod.mk.injEq] at h; omega)
      · exact value_room D (.inr hD0) hm h n k hN (by omega)
  | succ d ih =>
    intro hd D w0 w R v xs m hD h hm
    have hDv := hD.out
    cases hN : takeN xs with
    | none =>
      rw [readT_hd (hdN_none hN)]
      exact value_bad D h (fun n k h => by rw [hN] at h; cases h)
    | some p =>
      obtain ⟨n, k⟩ := p
      have hh := hdN_some hN
      by_cases hn : n < 0 ∨ 2 < n
      · rw [readT_bad hh (by omega)]
        exact value_bad D h (fun n' k' h => by rw [hN] at h; simp only [Option.some.injEq, Prod.mk.injEq] at h; omega)
      by_cases hm0 : m = 0
      · rw [readT_bad hh (by omega)]
        exact value_room D (.inl hm0) hm h n k hN (by omega)
      have hD1 : 0 < D := by omega
      have hm1 : 0 < m := by omega
      by_cases h0 : n = 0
      · subst h0
        rw [readT_num hh hm1 (by omega)]
        cases hN2 : takeN (xs.drop k) with
        | none => rw [hdN_none hN2]; exact value_num_no D hD1 hm1 hm h k hN hN2
        | some q =>
          obtain ⟨n2, k2⟩ := q
          rw [hdN_some hN2]
          exact (value_num D hD1 hm1 hm h k hN n2 k2 hN2).mono fun e w' h => h.cast (by omega)
      by_cases h1 : n = 1
      · subst h1
        rw [readT_text hh hm1 (by omega)]
        cases hN2 : takeT (xs.drop k) 100 with
        | none => rw [hdT_none hN2]; exact value_text_no D hD1 hm1 hm h k hN hN2
        | some q =>
          obtain ⟨k2, n2⟩ := q
          rw [hdT_some hN2]
          exact (value_text D hD1 hm1 hm h k hN k2 n2 hN2).mono fun e w' h => h.cast (by omega)
      · obtain rfl : n = 2 := by omega
        rw [readT_list hh hm1]
        cases hN2 : takeN (xs.drop k) with
        | none => rw [hdN_none hN2]; exact value_list_no D hD1 hm1 hm h k hN (fun n k h => by rw [hN2] at h; cases h)
        | some q =>
          obtain ⟨c, k2⟩ := q
          rw [hdN_some hN2]
          simp only
          by_cases hc : c < 0 ∨ 40 < c
          · rw [if_pos hc]
            exact value_list_no D hD1 hm1 hm h k hN (fun n' k' h => by rw [hN2] at h; simp only [Option.some.injEq, Prod.mk.injEq] at h; omega)
          · rw [if_neg hc]
            obtain ⟨c', rfl⟩ : ∃ c' : Nat, c = c' := ⟨c.toNat, by omega⟩
            rw [Int.toNat_natCast]
            exact value_list d (fun D w0 w R v xs m => ih (by omega) D w0 w R v xs m) D (Lib.hid (by omega)) hD1 (by omega) hm1 hm h k hN c' k2 hN2 (by omega) _ (Lib.hid rfl) (m - 1) (Lib.hid (by omega)) _ (Lib.hid rfl)
end Go.Proofs.YtdienbcjfljjnaaGreatDoor

/- Walks: Take, Parse. -/
open Go.RowKit Go.Shelf
namespace Go.Proofs.YtdienbcjfljjnaaGreatDoor
open Go Go.Proofs Fm

set_option maxRecDepth 100000 in
set_option maxHeartbeats 1000000 in
theorem tk_idle (p q r : Addr) (w : World) :
    CallsD Tryz.prog 118 #[.pointer (some p), .pointer (some q), .pointer (some r)] .returning w fun e u' w' => e = .returned (.tuple #[]) ∧ u' = .returning ∧ w' = w := by
  have hnil : ∀ w : World, (binOp BinOp.eql 20 .nilIface .nilIface).run Tryz.prog w = .ok (.bool true) w := fun _ => by kernel_rfl
  refine callsD_of_wpS Tryz.func118 rfl fun c₀ cs hu => ?_
  apply wpS_seq
  apply wpS_region
  simp [wpOpsS, go_sem, recoverD, hu, Tryz.ntmps118, Exit.thenS]
  refine wpS_of_wp ?_
  go_wp2
  cases c₀
  simp_all [bodyPostS, results, Tryz.results118]

/-- The world behind Take's deferred call, where something was broken. -/
def tkW (w : World) (B2 B3 B4 : Nat) : World :=
  (((((((w.setCell ⟨B2, 0, none⟩ (.int .u8 0)).setCell ⟨B2, 1, none⟩ (.int .i64 0)).setCell ⟨B2, 2, none⟩ (.string { data := #[] })).setCell ⟨B2, 3, none⟩ (.slice none 0 0)).setCell ⟨B3, 0, none⟩ (.slice none 0 0)).setCell ⟨B4, 0, none⟩ (.int .i64 30)).alloc (.cells #[] 166))

set_option maxRecDepth 100000 in
set_option maxHeartbeats 1000000 in
theorem tk_broken (B2 B3 B4 : Nat) (c0 c1 c2 c3 d0 d1 : Value) (w : World) (h2 : Box4 w B2 c0 c1 c2 c3) (h3 : w.cell? ⟨B3, 0, none⟩ = some d0) (f3 : w.frozen? ⟨B3, 0, none⟩ = false) (h4 : w.cell? ⟨B4, 0, none⟩ = some d1) (f4 : w.frozen? ⟨B4, 0, none⟩ = false) (n23 : B2 ≠ B3) (n24 : B2 ≠ B4) (n34 : B3 ≠ B4) :
    CallsD Tryz.prog 118 #[.pointer (some ⟨B2, 0, none⟩), .pointer (some ⟨B3, 0, none⟩), .pointer (some ⟨B4, 0, none⟩)] (.panicking [{ v := .iface 166 (.agg #[]), recovered := false }]) w fun e u' w' =>
      e = .returned (.tuple #[]) ∧ u' = .panicking [{ v := .iface 166 (.agg #[]), recovered := true }] ∧ w' = tkW w B2 B3 B4 := by
  have hta : ∀ w : World, (Instr.typeAssert (.iface 166 (.agg #[])) 20 166 true).run Tryz.prog w = .ok (.tuple #[.agg #[], .bool true]) w := fun _ => by kernel_rfl
  have hE : Ext w (w.alloc (.cells #[] 166)) := (Ext.refl w).alloc _
  obtain ⟨p0, p1, p2, p3⟩ := (h2.ext hE).cells
  obtain ⟨q0, q1, q2, q3⟩ := (h2.ext hE).frozen
  obtain ⟨P0, P1, P2, P3⟩ := h2.cells
  obtain ⟨Q0, Q1, Q2, Q3⟩ := h2.frozen
  have l2 := h2.lt
  have l3 : B3 < w.heap.size := World.block_lt_of_cell? w _ h3
  have l4 : B4 < w.heap.size := World.block_lt_of_cell? w _ h4
  have r3 := (hE.cell (p := ⟨B3, 0, none⟩) l3).trans h3
  have r4 := (hE.cell (p := ⟨B4, 0, none⟩) l4).trans h4
  have s3 := (hE.frozen (p := ⟨B3, 0, none⟩) l3).trans f3
  have s4 := (hE.frozen (p := ⟨B4, 0, none⟩) l4).trans f4
  have m23 : ¬ B2 = B3 := n23
  have m24 : ¬ B2 = B4 := n24
  have m34 : ¬ B3 = B4 := n34
  have m32 : ¬ B3 = B2 := fun e => n23 e.symm
  have m42 : ¬ B4 = B2 := fun e => n24 e.symm
  have m43 : ¬ B4 = B3 := fun e => n34 e.symm
  have hnil : ∀ w : World, (binOp BinOp.eql 20 (.iface 166 (.agg #[])) .nilIface).run Tryz.prog w = .ok (.bool false) w := fun _ => by kernel_rfl
  refine callsD_of_wpS Tryz.func118 rfl fun c₀ cs hu => ?_
  apply wpS_seq
  apply wpS_region
  simp [wpOpsS, go_sem, recoverD, hu, Tryz.ntmps118, Exit.thenS]
  refine wpS_of_wp ?_
  go_wp2
  exact ⟨rfl, _, rfl, _, by simp [results, Tryz.results118, go_sem], rfl, rfl, rfl⟩

theorem Box4.set0 {w : World} {b : Nat} {c0 c1 c2 c3 : Value} (h : Box4 w b c0 c1 c2 c3) (u : Value) : Box4 (w.setCell ⟨b, 0, none⟩ u) b u c1 c2 c3 := by
  unfold Box4 at *; simp [World.setCell, Array.getElem?_modify, h]
theorem Box4.set1 {w : World} {b : Nat} {c0 c1 c2 c3 : Value} (h : Box4 w b c0 c1 c2 c3) (u : Value) : Box4 (w.setCell ⟨b, 1, none⟩ u) b c0 u c2 c3 := by
  unfold Box4 at *; simp [World.setCell, Array.getElem?_modify, h]
theorem Box4.set2 {w : World} {b : Nat} {c0 c1 c2 c3 : Value} (h : Box4 w b c0 c1 c2 c3) (u : Value) : Box4 (w.setCell ⟨b, 2, none⟩ u) b c0 c1 u c3 := by
  unfold Box4 at *; simp [World.setCell, Array.getElem?_modify, h]
theorem Box4.other {w : World} {b g : Nat} {c0 c1 c2 c3 : Value} (h : Box4 w b c0 c1 c2 c3) (hb : g ≠ b) (o : Nat) (u : Value) : Box4 (w.setCell ⟨g, o, none⟩ u) b c0 c1 c2 c3 :=
  h.kept (grown_set w g o u) (by simpa using hb)
theorem cell_other {w : World} {b g : Nat} {x : Option Value} (h : w.cell? ⟨b, 0, none⟩ = x) (hb : g ≠ b) (o : Nat) (u : Value) : (w.setCell ⟨g, o, none⟩ u).cell? ⟨b, 0, none⟩ = x := by
  rw [World.cell?_setCell_far _ _ _ _ (by simpa using hb)]; exact h
theorem tkW_facts {w0 w : World} {B2 B3 B4 : Nat} {c0 c1 c2 c3 d0 d1 : Value} (hE : Ext w0 w) (h2 : Box4 w B2 c0 c1 c2 c3) (h3 : w.cell? ⟨B3, 0, none⟩ = some d0) (h4 : w.cell? ⟨B4, 0, none⟩ = some d1) (n23 : B2 ≠ B3) (n24 : B2 ≠ B4) (n34 : B3 ≠ B4)
    (o2 : w0.heap.size ≤ B2) (o3 : w0.heap.size ≤ B3) (o4 : w0.heap.size ≤ B4) :
    Ext w0 (tkW w B2 B3 B4) ∧ Box4 (tkW w B2 B3 B4) B2 (.int .u8 0) (.int .i64 0) (.string { data := #[] }) (.slice none 0 0) ∧ (tkW w B2 B3 B4).cell? ⟨B3, 0, none⟩ = some (.slice none 0 0) ∧ (tkW w B2 B3 B4).cell? ⟨B4, 0, none⟩ = some (.int .i64 30) := by
  refine ⟨?_, ?_, ?_, ?_⟩
  · exact ((((((hE.setCell (p := ⟨B2, 0, none⟩) o2 _).setCell (p := ⟨B2, 1, none⟩) o2 _).setCell (p := ⟨B2, 2, none⟩) o2 _).setCell (p := ⟨B2, 3, none⟩) o2 _).setCell (p := ⟨B3, 0, none⟩) o3 _).setCell (p := ⟨B4, 0, none⟩) o4 _).alloc _
  · exact ((((((h2.set0 _).set1 _).set2 _).set3 _).other n23.symm 0 _).other n24.symm 0 _).ext ((Ext.refl _).alloc _)
  · have h := cell_other (cell_other (cell_other (cell_other h3 n23 0 (.int .u8 0)) n23 1 (.int .i64 0)) n23 2 (.string { data := #[] })) n23 3 (.slice none 0 0)
    have h' := cell_other (World.cell?_setCell_same _ ⟨B3, 0, none⟩ (.slice none 0 0) h) n34.symm 0 (.int .i64 30)
    exact (((Ext.refl _).alloc _).cell (p := ⟨B3, 0, none⟩) (World.block_lt_of_cell? _ _ h')).trans h'
  · have h := cell_other (cell_other (cell_other (cell_other (cell_other h4 n24 0 (.int .u8 0)) n24 1 (.int .i64 0)) n24 2 (.string { data := #[] })) n24 3 (.slice none 0 0)) n34 0 (.slice none 0 0)
    have h' := World.cell?_setCell_same _ ⟨B4, 0, none⟩ (.int .i64 30) h
    exact (((Ext.refl _).alloc _).cell (p := ⟨B4, 0, none⟩) (World.block_lt_of_cell? _ _ h')).trans h'

/-- The same over what lay ahead. -/
def TakePost0 (w0 w : World) (xs : List UInt8) (e : Ending) (w' : World) : Prop :=
  match takeV' xs with
  | none => e = .returned (.tuple #[.agg #[.int .u8 0, .int .i64 0, .string (str []), .slice none 0 0], .slice none 0 0, .int .i64 30]) ∧ Ext w w'
  | some (t, r) => ∃ v vr, e = .returned (.tuple #[v, vr, .int .i64 0]) ∧ Ext w w' ∧ OwnT 43 w' w.heap.size t v ∧ Bytes w0 vr r

theorem blk_new (w : World) (cs : Array Value) (t : TypeId) : (w.alloc (.cells cs t)).heap[w.heap.size]? = some (.cells cs t (0, 0)) := heap_alloc_new w _
theorem blk_ext {w w' : World} {b : Nat} {o : Obj} (h : w.heap[b]? = some o) (hE : Ext w w') : w'.heap[b]? = some o := (hE.block b (Array.getElem?_eq_some_iff.1 h).1).trans h
theorem blk_cell {w : World} {b : Nat} {cs : Array Value} {t : TypeId} (h : w.heap[b]? = some (.cells cs t (0, 0))) (j : Nat) : w.cell? ⟨b, j, none⟩ = cs[j]? := by simp [World.cell?, h]
theorem blk_free {w : World} {b : Nat} {cs : Array Value} {t : TypeId} (h : w.heap[b]? = some (.cells cs t (0, 0))) (j : Nat) : w.frozen? ⟨b, j, none⟩ = false := by simp [World.frozen?, h]

/-- The world of Take when its results and its reader are laid. -/
def takeW (w : World) (v : Value) : World :=
  (((w.alloc (.cells #[.int .u8 0, .int .i64 0, .string { data := #[] }, .slice none 0 0] 43)).alloc (.cells #[.slice none 0 0] 27)).alloc (.cells #[.int .i64 0] 30)).alloc (.cells #[v, .int .i64 200] 169)
theorem takeW_facts {w : World} {v : Value} {xs : List UInt8} (h : Bytes w v xs) :
    RdAt w (takeW w v) (w.heap.size + 3) v xs (200 : Nat) ∧ Box4 (takeW w v) w.heap.size (.int .u8 0) (.int .i64 0) (.string { data := #[] }) (.slice none 0 0) ∧
      (takeW w v).cell? ⟨w.heap.size + 1, 0, none⟩ = some (.slice none 0 0) ∧ (takeW w v).frozen? ⟨w.heap.size + 1, 0, none⟩ = false ∧ (takeW w v).cell? ⟨w.heap.size + 2, 0, none⟩ = some (.int .i64 0) ∧ (takeW w v).frozen? ⟨w.heap.size + 2, 0, none⟩ = false ∧
      (takeW w v).heap.size = w.heap.size + 4 := by
  have hE : Ext w (takeW w v) := ((((Ext.refl w).alloc _).alloc _).alloc _).alloc _
  have hz1 : (w.alloc (.cells #[.int .u8 0, .int .i64 0, .string { data := #[] }, .slice none 0 0] 43)).heap.size = w.heap.size + 1 := by simp
  have k1 : Ext w (w.alloc (.cells #[.int .u8 0, .int .i64 0, .string { data := #[] }, .slice none 0 0] 43)) := (Ext.refl w).alloc _
  have h1 : Box4 (w.alloc (.cells #[.int .u8 0, .int .i64 0, .string { data := #[] }, .slice none 0 0] 43)) w.heap.size (.int .u8 0) (.int .i64 0) (.string { data := #[] }) (.slice none 0 0) := Box4.new w _ _ _ _
  have e1 : takeW w v = (((w.alloc (.cells #[.int .u8 0, .int .i64 0, .string { data := #[] }, .slice none 0 0] 43)).alloc (.cells #[.slice none 0 0] 27)).alloc (.cells #[.int .i64 0] 30)).alloc (.cells #[v, .int .i64 200] 169) := rfl
  generalize w.alloc (.cells #[.int .u8 0, .int .i64 0, .string { data := #[] }, .slice none 0 0] 43) = w1 at *
  have h2 := blk_new w1 #[.slice none 0 0] 27
  have hz2 : (w1.alloc (.cells #[.slice none 0 0] 27)).heap.size = w.heap.size + 2 := by simp [hz1]
  have k2 : Ext w1 (w1.alloc (.cells #[.slice none 0 0] 27)) := (Ext.refl w1).alloc _
  generalize w1.alloc (.cells #[.slice none 0 0] 27) = w2 at *
  have h3 := blk_new w2 #[.int .i64 0] 30
  have hz3 : (w2.alloc (.cells #[.int .i64 0] 30)).heap.size = w.heap.size + 3 := by simp [hz2]
  have k3 : Ext w2 (w2.alloc (.cells #[.int .i64 0] 30)) := (Ext.refl w2).alloc _
  generalize w2.alloc (.cells #[.int .i64 0] 30) = w3 at *
  have h4 := blk_new w3 #[v, .int .i64 200] 169
  have hz4 : (w3.alloc (.cells #[v, .int .i64 200] 169)).heap.size = w.heap.size + 4 := by simp [hz3]
  have k4 : Ext w3 (w3.alloc (.cells #[v, .int .i64 200] 169)) := (Ext.refl w3).alloc _
  rw [← e1] at h4 hz4 k4
  rw [hz1] at h2
  rw [hz2] at h3
  rw [hz3] at h4
  have h2' := blk_ext h2 (k3.trans k4)
  have h3' := blk_ext h3 k4
  exact ⟨⟨hE, by omega, by omega, (blk_cell h4 0).trans rfl, (blk_cell h4 1).trans rfl, blk_free h4 0, blk_free h4 1, h⟩, h1.ext ((k2.trans k3).trans k4), (blk_cell h2' 0).trans rfl, blk_free h2' 0, (blk_cell h3' 0).trans rfl, blk_free h3' 0, hz4⟩

/-- The world of Take when it is done. -/
def doneW (w : World) (B : Nat) (k n s d vr : Value) : World :=
  ((((((w.setCell ⟨B, 0, none⟩ k).setCell ⟨B, 1, none⟩ n).setCell ⟨B, 2, none⟩ s).setCell ⟨B, 3, none⟩ d).setCell ⟨B + 1, 0, none⟩ vr).setCell ⟨B + 2, 0, none⟩ (.int .i64 0)).drew
theorem doneW_facts {w0 w : World} {B M : Nat} {k n s d vr c0 c1 c2 c3 d0 d1 : Value} {t : Tr} {v : Value} (hE : Ext w0 w) (h2 : Box4 w B c0 c1 c2 c3) (h3 : w.cell? ⟨B + 1, 0, none⟩ = some d0) (h4 : w.cell? ⟨B + 2, 0, none⟩ = some d1)
    (hB : w0.heap.size ≤ B) (hO : OwnT 43 w M t v) (hM : B + 2 < M) :
    Ext w0 (doneW w B k n s d vr) ∧ Box4 (doneW w B k n s d vr) B k n s d ∧ (doneW w B k n s d vr).cell? ⟨B + 1, 0, none⟩ = some vr ∧ (doneW w B k n s d vr).cell? ⟨B + 2, 0, none⟩ = some (.int .i64 0) ∧ OwnT 43 (doneW w B k n s d vr) M t v := by
  have n1 : B ≠ B + 1 := by omega
  have n2 : B ≠ B + 2 := by omega
  have n3 : B + 1 ≠ B + 2 := by omega
  have n4 : B + 2 ≠ B + 1 := by omega
  have hs : ∀ g, g < M → ∀ b, some g = some b → b < M := fun g hg b hb => by injection hb with hb; omega
  have a0 := hE.setCell (p := ⟨B, 0, none⟩) hB k
  have b0 := h2.set0 k
  have e0 := cell_other h3 n1 0 k
  have f0 := cell_other h4 n2 0 k
  have o0 := hO.grown (grown_set w B 0 k) (hs B (by omega))
  unfold doneW
  generalize w.setCell ⟨B, 0, none⟩ k = w1 at *
  have a1 := a0.setCell (p := ⟨B, 1, none⟩) hB n
  have b1 := b0.set1 n
  have e1 := cell_other e0 n1 1 n
  have f1 := cell_other f0 n2 1 n
  have o1 := o0.grown (grown_set w1 B 1 n) (hs B (by omega))
  generalize w1.setCell ⟨B, 1, none⟩ n = w2 at *
  have a2 := a1.setCell (p := ⟨B, 2, none⟩) hB s
  have b2 := b1.set2 s
  have e2 := cell_other e1 n1 2 s
  have f2 := cell_other f1 n2 2 s
  have o2 := o1.grown (grown_set w2 B 2 s) (hs B (by omega))
  generalize w2.setCell ⟨B, 2, none⟩ s = w3 at *
  have a3 := a2.setCell (p := ⟨B, 3, none⟩) hB d
  have b3 := b2.set3 d
  have e3 := cell_other e2 n1 3 d
  have f3 := cell_other f2 n2 3 d
  have o3 := o2.grown (grown_set w3 B 3 d) (hs B (by omega))
  generalize w3.setCell ⟨B, 3, none⟩ d = w4 at *
  have a4 := a3.setCell (p := ⟨B + 1, 0, none⟩) (by show w0.heap.size ≤ B + 1; omega) vr
  have b4 := b3.other n1.symm 0 vr
  have e4 := World.cell?_setCell_same w4 ⟨B + 1, 0, none⟩ vr e3
  have f4 := cell_other f3 n3 0 vr
  have o4 := o3.grown (grown_set w4 (B + 1) 0 vr) (hs (B + 1) (by omega))
  generalize w4.setCell ⟨B + 1, 0, none⟩ vr = w5 at *
  have a5 := a4.setCell (p := ⟨B + 2, 0, none⟩) (by show w0.heap.size ≤ B + 2; omega) (.int .i64 0)
  have b5 := b4.other n2.symm 0 (.int .i64 0)
  have e5 := cell_other e4 n4 0 (.int .i64 0)
  have f5 := World.cell?_setCell_same w5 ⟨B + 2, 0, none⟩ (.int .i64 0) f4
  have o5 := o4.grown (grown_set w5 (B + 2) 0 (.int .i64 0)) (hs (B + 2) (by omega))
  generalize w5.setCell ⟨B + 2, 0, none⟩ (.int .i64 0) = w6 at *
  exact ⟨a5.drew, b5, e5, f5, o5.ext (Ext.refl w6).drew⟩

set_option maxRecDepth 100000 in
set_option maxHeartbeats 2000000 in
theorem vtake_from (v : Value) (xs : List UInt8) (w0 w : World) (hE0 : Ext w0 w) (h : Bytes w0 v xs) :
    Calls Tryz.prog 92 #[v] w (TakePost0 w0 w xs) := by
  have hmf : ∀ (fn : Fn) (first cap : Array Value) (w : World), (Instr.makeFunc fn first cap).run Tryz.prog w = .ok (.func fn first cap) w := fun _ _ _ _ => rfl
  obtain ⟨a, cap, rfl, -⟩ := id h
  have H := Lib.hid h
  clear h
  generalize hn : xs.length = n at *
  have HN := Lib.hid hn
  clear hn
  go_enter_defers Tryz.func92, Tryz.ntmps92
  go_wp2_with fail
  change Calls _ _ _ (takeW w (.slice a n cap)) _
  obtain ⟨hr0, hb, b3, f3, b4, f4, hz⟩ := takeW_facts (H.out.ext hE0)
  have hz0 := hE0.size
  have HEW := Lib.hid hr0.ext
  have hr : RdAt w0 _ _ _ xs (200 : Nat) := ⟨hE0.trans hr0.ext, by omega, hr0.lt, hr0.c0, hr0.c1, hr0.f0, hr0.f1, H.out⟩
  clear hr0
  generalize takeW w (.slice a n cap) = W at *
  refine (value_any 6 (by omega) 6 w0 W (w.heap.size + 3) _ xs 200 (Lib.hid rfl) hr (by omega)).mono ?_
  intro e w1 hp
  cases hrt : readT 6 200 xs with
  | none =>
    rw [hrt] at hp
    obtain ⟨rfl, -, hg1⟩ := hp
    have hE1 : Ext w w1 := HEW.out.grown hg1 (fun k hk => by injection hk with hk; omega)
    have hb1 := hb.kept hg1 (by simp)
    have b31 := (hg1.cell_far ⟨w.heap.size + 1, 0, none⟩ (by show w.heap.size + 1 < _; omega) (by simp)).trans b3
    have f31 := (hg1.frozen_far ⟨w.heap.size + 1, 0, none⟩ (by show w.heap.size + 1 < _; omega) (by simp)).trans f3
    have b41 := (hg1.cell_far ⟨w.heap.size + 2, 0, none⟩ (by show w.heap.size + 2 < _; omega) (by simp)).trans b4
    have f41 := (hg1.frozen_far ⟨w.heap.size + 2, 0, none⟩ (by show w.heap.size + 2 < _; omega) (by simp)).trans f4
    have HT := Lib.hid (show takeV' xs = none by unfold takeV'; rw [hrt])
    clear b3 f3 b4 f4 hb hr hrt
    go_wp2
    refine leaves_cons (f := 118) (args := #[.pointer (some ⟨w.heap.size, 0, none⟩), .pointer (some ⟨w.heap.size + 1, 0, none⟩), .pointer (some ⟨w.heap.size + 2, 0, none⟩)]) (by simp) (by simp [go_sem]) ?_
    refine (tk_broken w.heap.size (w.heap.size + 1) (w.heap.size + 2) _ _ _ _ _ _ w1 hb1 b31 f31 b41 f41 (by omega) (by omega) (by omega)).mono ?_
    rintro e u' w'' ⟨rfl, rfl, rfl⟩
    obtain ⟨hE2, hb2, b32, b42⟩ := tkW_facts hE1 hb1 b31 b41 (by omega) (by omega) (by omega) (Nat.le_refl _) (by omega) (by omega)
    generalize tkW w1 w.heap.size (w.heap.size + 1) (w.heap.size + 2) = W3 at *
    obtain ⟨p0, p1, p2, p3⟩ := hb2.cells
    clear hb1 b31 f31 b41 f41 hb2 hE1 hg1
    have HX : Hid (TakePost0 w0 w xs (.returned (.tuple #[.agg #[.int .u8 0, .int .i64 0, .string (str []), .slice none 0 0], .slice none 0 0, .int .i64 30])) W3) := Lib.hid (by
      unfold TakePost0; rw [HT.out]; exact ⟨rfl, hE2⟩)
    clear hE2 HT H HN hmf HEW
    simp [Leaves, settle, results, Tryz.results92, go_sem, p0, p1, p2, p3, b32, b42]
    exact HX.out
  | some p =>
    obtain ⟨t, r, m'⟩ := p
    rw [hrt] at hp
    obtain ⟨v1, rfl, ⟨vr, hr1⟩, hg1, hO⟩ := hp
    obtain ⟨ar, capr, rfl, -⟩ := id hr1.bytes
    generalize hrl : r.length = lr at *
    have HRL := Lib.hid hrl
    clear hrl
    obtain ⟨kt, nt, st, lt⟩ := t
    obtain ⟨F, hF⟩ := hO
    obtain ⟨d, rfl, hn64, hs64, hrow⟩ := hF.parts
    obtain ⟨a4, c4, rfl⟩ := hrow.slice
    generalize hltl : lt.length = ll at *
    have hb1 := hb.kept hg1 (by simp)
    have b31 := (hg1.cell_far ⟨w.heap.size + 1, 0, none⟩ (by show w.heap.size + 1 < _; omega) (by simp)).trans b3
    have f31 := (hg1.frozen_far ⟨w.heap.size + 1, 0, none⟩ (by show w.heap.size + 1 < _; omega) (by simp)).trans f3
    have b41 := (hg1.cell_far ⟨w.heap.size + 2, 0, none⟩ (by show w.heap.size + 2 < _; omega) (by simp)).trans b4
    have f41 := (hg1.frozen_far ⟨w.heap.size + 2, 0, none⟩ (by show w.heap.size + 2 < _; omega) (by simp)).trans f4
    obtain ⟨p0, p1, p2, p3⟩ := hb1.cells
    obtain ⟨q0, q1, q2, q3⟩ := hb1.frozen
    have rc0 := hr1.c0
    have HR1 := Lib.hid hr1
    have HT := Lib.hid (show takeV' xs = some (.node kt nt st lt, r) by unfold takeV'; rw [hrt])
    have HF := Lib.hid hF
    obtain ⟨W5, hW5⟩ : ∃ W5, W5 = (((w1.setCell ⟨w.heap.size, 0, none⟩ (.int .u8 (kt.toNat : Int))).setCell ⟨w.heap.size, 1, none⟩ (.int .i64 nt)).setCell ⟨w.heap.size, 2, none⟩ (.string (str st))).setCell ⟨w.heap.size, 3, none⟩ (.slice a4 ll c4) := ⟨_, rfl⟩
    have hset : w1.grownBy W5 (some w.heap.size) := by
      rw [hW5]; exact grown_trans (grown_trans (grown_trans (grown_set w1 _ 0 _) (grown_set _ _ 1 _)) (grown_set _ _ 2 _)) (grown_set _ _ 3 _)
    have hb5 : Box4 W5 w.heap.size (.int .u8 (kt.toNat : Int)) (.int .i64 nt) (.string (str st)) (.slice a4 ll c4) := by
      rw [hW5]; exact (((hb1.set0 _).set1 _).set2 _).set3 _
    have hE5 : Ext w W5 := (HEW.out.grown hg1 (fun k hk => by injection hk with hk; omega)).grown hset (fun k hk => by injection hk with hk; omega)
    have HE5 := Lib.hid hE5
    have hr5 := hr1.kept hset (fun k hk => by injection hk with hk; omega)
    have hz1 := hg1.size
    have b35 := (hset.cell_far ⟨w.heap.size + 1, 0, none⟩ (by show w.heap.size + 1 < _; omega) (by simp)).trans b31
    have f35 := (hset.frozen_far ⟨w.heap.size + 1, 0, none⟩ (by show w.heap.size + 1 < _; omega) (by simp)).trans f31
    have b45 := (hset.cell_far ⟨w.heap.size + 2, 0, none⟩ (by show w.heap.size + 2 < _; omega) (by simp)).trans b41
    have f45 := (hset.frozen_far ⟨w.heap.size + 2, 0, none⟩ (by show w.heap.size + 2 < _; omega) (by simp)).trans f41
    have hO5 := OwnT.grown ⟨F, hF⟩ hset (fun b hb => by injection hb with hb; omega)
    have hr50 := hr5.c0
    have HR5 := Lib.hid hr5
    have HO5 := Lib.hid hO5
    have HB5 := Lib.hid hb5
    have HW5 := Lib.hid hW5
    clear hE5 b3 f3 b4 f4 hb hr hrt hr1 hF hrow hltl hb1 hg1 hW5 hset hr5 hO5 hb5 HF HR1 rc0
    go_wp2
    rw [← HW5.out]
    clear p0 p1 p2 p3 q0 q1 q2 q3 b31 f31 b41 f41
    obtain ⟨p0, p1, p2, p3⟩ := HB5.out.cells
    obtain ⟨q0, q1, q2, q3⟩ := HB5.out.frozen
    go_region
    all_goals
      change Exit.then _ _ _ _ (doneW W5 w.heap.size (.int .u8 (kt.toNat : Int)) (.int .i64 nt) (.string (str st)) (.slice a4 ll c4) (.slice ar lr capr))
      obtain ⟨hE6, hb6, b36, b46, hO6'⟩ := doneW_facts (k := .int .u8 (kt.toNat : Int)) (n := .int .i64 nt) (s := .string (str st)) (d := .slice a4 ll c4) (vr := .slice ar lr capr) HE5.out HB5.out b35 b45 (Nat.le_refl _) HO5.out (by omega)
      have hO6 := hO6'.mono (show w.heap.size ≤ W.heap.size by omega)
      generalize doneW W5 w.heap.size (.int .u8 (kt.toNat : Int)) (.int .i64 nt) (.string (str st)) (.slice a4 ll c4) (.slice ar lr capr) = W6 at *
      have HX : Hid (TakePost0 w0 w xs (.returned (.tuple #[.agg #[.int .u8 (kt.toNat : Int), .int .i64 nt, .string (str st), .slice a4 ll c4], .slice ar lr capr, .int .i64 0])) W6) := Lib.hid (by
        unfold TakePost0; rw [HT.out]; exact ⟨_, _, rfl, hE6, hO6, HR5.out.bytes⟩)
      obtain ⟨y0, y1, y2, y3⟩ := hb6.cells
      clear hb6 hE6 hO6 hO6' b35 f35 b45 f45 hr50 p0 p1 p2 p3 q0 q1 q2 q3
      go_wp2
      refine leaves_cons (f := 118) (args := #[.pointer (some ⟨w.heap.size, 0, none⟩), .pointer (some ⟨w.heap.size + 1, 0, none⟩), .pointer (some ⟨w.heap.size + 2, 0, none⟩)]) (by simp) (by simp [go_sem]) ?_
      refine (tk_idle _ _ _ W6).mono ?_
      rintro e u' w'' ⟨rfl, rfl, rfl⟩
      clear HE5 HEW HB5 HR5 HO5 HW5 HT HRL H HN hmf
      simp [Leaves, settle, results, Tryz.results92, go_sem, y0, y1, y2, y3, b36, b46]
      exact HX.out
end Go.Proofs.YtdienbcjfljjnaaGreatDoor

/- Walks: Parse. -/
open Go.RowKit Go.Shelf
namespace Go.Proofs.YtdienbcjfljjnaaGreatDoor
open Go Go.Proofs Fm

/-- A value's tree in parts: as the walk wants it. -/
theorem ownT_four {w : World} {base : Nat} {t : Tr} {v : Value} (h : OwnT 43 w base t v) :
    ∃ (k : Int) (n : Int) (s : ByteArray) (a : Option Addr) (m c : Nat), v = .agg #[.int .u8 k, .int .i64 n, .string s, .slice a m c] := by
  obtain ⟨F, h⟩ := h
  obtain ⟨k, n, s, l⟩ := t
  obtain ⟨d, rfl, _, _, h4⟩ := h.parts
  obtain ⟨a, c, rfl⟩ := h4.slice
  exact ⟨_, _, _, _, _, _, rfl⟩

/-- A struct of four cells is written. -/
def set4W (w : World) (B : Nat) (k n s d : Value) : World := (((w.setCell ⟨B, 0, none⟩ k).setCell ⟨B, 1, none⟩ n).setCell ⟨B, 2, none⟩ s).setCell ⟨B, 3, none⟩ d
theorem set4_facts {w0 w : World} {B : Nat} {k n s d c0 c1 c2 c3 : Value} (hE : Ext w0 w) (h2 : Box4 w B c0 c1 c2 c3) (hB : w0.heap.size ≤ B) :
    Ext w0 (set4W w B k n s d) ∧ Box4 (set4W w B k n s d) B k n s d ∧ w.grownBy (set4W w B k n s d) (some B) :=
  ⟨(((hE.setCell (p := ⟨B, 0, none⟩) hB k).setCell (p := ⟨B, 1, none⟩) hB n).setCell (p := ⟨B, 2, none⟩) hB s).setCell (p := ⟨B, 3, none⟩) hB d, (((h2.set0 k).set1 n).set2 s).set3 d,
    grown_trans (grown_trans (grown_trans (grown_set w B 0 k) (grown_set _ B 1 n)) (grown_set _ B 2 s)) (grown_set _ B 3 d)⟩

end Go.Proofs.YtdienbcjfljjnaaGreatDoor

/- What a round that appends to a box's list leaves. -/
open Go.RowKit Go.Shelf
namespace Go.Proofs.YtdienbcjfljjnaaGreatDoor
open Go Go.Proofs Fm

/-- What a round leaves. -/
theorem list_step2 {w0 wr w4 w6 : World} {V Pb base mid L gg cap6 : Nat} {ad : Option Addr} {cd : Nat} {ts : List Tr} {t : Tr} {x0 x1 x2 x3 : Value} {xsr : List Value} {p0 p1 p2 p3 u0 u1 u2 : Value}
    (hVb : V < base) (hPb : Pb < base) (hPV : Pb ≠ V) (hV0 : w0.heap.size ≤ V) (hE : Ext w0 wr) (hb : Box4 wr V u0 u1 u2 (.slice ad L cd)) (hB : Box4 wr Pb p0 p1 p2 p3) (hL : ts.length = L)
    (hO : OwnL 43 wr base ts (.slice ad L cd)) (hbr : base ≤ wr.heap.size) (hE4 : Ext wr w4) (hmid : wr.heap.size ≤ mid)
    (ho4 : OwnT 43 w4 mid t (.agg #[x0, x1, x2, x3]))
    (hx : (w4.alloc (.cells #[x0, x1, x2, x3] 43)).ownsRow base 43 4 (.slice ad L cd) L xsr)
    (hown6 : w6.ownsRow base 43 4 (.slice (some ⟨gg, 0, none⟩) (L + 1) cap6) (L + 1) (xsr ++ [x0, x1, x2, x3]))
    (hgrow6 : (w4.alloc (.cells #[x0, x1, x2, x3] 43)).grownBy w6 (Value.slice ad L cd).ownBlock)
    (hat6 : (Value.slice ad L cd).ownBlock = some gg ∨ gg = w4.heap.size + 1) :
    Ext w0 (w6.setCell ⟨V, 3, none⟩ (.slice (some ⟨gg, 0, none⟩) (L + 1) cap6)) ∧
      Box4 (w6.setCell ⟨V, 3, none⟩ (.slice (some ⟨gg, 0, none⟩) (L + 1) cap6)) V u0 u1 u2 (.slice (some ⟨gg, 0, none⟩) (L + 1) cap6) ∧ Box4 (w6.setCell ⟨V, 3, none⟩ (.slice (some ⟨gg, 0, none⟩) (L + 1) cap6)) Pb p0 p1 p2 p3 ∧
      OwnL 43 (w6.setCell ⟨V, 3, none⟩ (.slice (some ⟨gg, 0, none⟩) (L + 1) cap6)) base (ts ++ [t]) (.slice (some ⟨gg, 0, none⟩) (L + 1) cap6) ∧ wr.heap.size ≤ (w6.setCell ⟨V, 3, none⟩ (.slice (some ⟨gg, 0, none⟩) (L + 1) cap6)).heap.size := by
  have hRo : ∀ k, (Value.slice ad L cd).ownBlock = some k → base ≤ k := fun k hk => (hx.lt k hk).1
  have hEa : Ext w4 (w4.alloc (.cells #[x0, x1, x2, x3] 43)) := (Ext.refl w4).alloc _
  have hza : (w4.alloc (.cells #[x0, x1, x2, x3] 43)).heap.size = w4.heap.size + 1 := by simp
  generalize w4.alloc (.cells #[x0, x1, x2, x3] 43) = wa at *
  have hset := grown_set w6 V 3 (.slice (some ⟨gg, 0, none⟩) (L + 1) cap6)
  have hne : ∀ b, b < base → (Value.slice ad L cd).ownBlock ≠ some b := fun b hb e => by have := hRo b e; omega
  refine ⟨?_, ?_, ?_, ?_, ?_⟩
  · exact (((hE.trans hE4).trans hEa).grown hgrow6 (fun k hk => by have := hRo k hk; omega)).setCell (p := ⟨V, 3, none⟩) hV0 _
  · exact (((hb.ext hE4).ext hEa).kept hgrow6 (hne V hVb)).set3 _
  · exact (((hB.ext hE4).ext hEa).kept hgrow6 (hne Pb hPb)).other hPV.symm 3 _
  · subst hL
    refine (hO.snoc (w := wa) (mid := mid) hmid (fun b h1 h2 => ?_) (ho4.ext hEa) (by omega) hgrow6 hx hown6 ?_).grown hset (fun b hb => by injection hb with hb; omega)
    · rw [hEa.block b (by have := hE4.size; omega), hE4.block b h2]
    · rcases hat6 with h | h
      · exact .inl h.symm
      · right; rw [hza, ← h]; rfl
  · have h1 := hE4.size
    have h2 := hEa.size
    have h3 := hgrow6.size
    have h4 := hset.size
    omega

end Go.Proofs.YtdienbcjfljjnaaGreatDoor
